/- nat.Parse on what decimal.Parse hands it. -/
import Derived.Test.YtnifjdhjimjihaaGreatDoorParse
namespace Go.Proofs.YtnifjdhjimjihaaGreatDoor
open Go.RowKit Lim
attribute [local go_sem ↓] Go.wp_at_zero Go.wp_at_succ

def valD (s : List UInt8) : Nat := s.foldl (fun a b => a * 10 + (b.toNat - 48)) 0
theorem valD_snoc (s : List UInt8) (b : UInt8) : valD (s ++ [b]) = valD s * 10 + (b.toNat - 48) := by simp [valD]
theorem valD_take {s : List UInt8} {k : Nat} (hk : k < s.length) : valD (s.take (k + 1)) = valD (s.take k) * 10 + ((s[k]'hk).toNat - 48) := by
  rw [List.take_succ_eq_append_getElem hk, valD_snoc]
theorem isD_iff {b : UInt8} : isD b = true ↔ 48 ≤ b.toNat ∧ b.toNat ≤ 57 := by simp [isD]
theorem valD_lt {s : List UInt8} (h : s.all isD = true) : ∀ k, k ≤ s.length → valD (s.take k) < 10 ^ k := by
  intro k
  induction k with
  | zero => intro _; simp [valD]
  | succ k ih =>
    intro hk
    have h1 := ih (by omega)
    rw [valD_take (by omega), Nat.pow_succ]
    have := isD_iff.1 (List.all_eq_true.1 h _ (List.getElem_mem (show k < s.length by omega)))
    omega
theorem nlen_q {n k q : Nat} (h : n < 10 ^ k) (hk : k ≤ 9 * q) : nlen n ≤ q := by
  apply nlen_le
  have h2 : 10 ^ k ≤ 10 ^ (9 * q) := Nat.pow_le_pow_right (by omega) hk
  have h3 : 10 ^ (9 * q) ≤ pw q := by
    unfold pw
    rw [Nat.pow_mul]
    exact Nat.pow_le_pow_left (by omega) _
  omega

theorem nlen_small {e : Nat} (h : e < 4294967296) : nlen e < 1099511627776 := by
  have h1 : pw 1 = 4294967296 := by decide
  have := nlen_le (k := 1) (show e < pw 1 by omega)
  omega

/-- The second loop of Parse: n is the value of the first k digits. -/
structure PaRel (w wr : World) (A : Option Addr) (c : Nat) (AT : Option Addr) (cT : Nat) (v : Nat) : Prop where
  acc : Out wr A c v
  ten : Out wr AT cT 10
  bel : Below w.heap.size w wr

set_option maxHeartbeats 4000000 in
set_option maxRecDepth 100000 in
theorem nparse_ok (s : List UInt8) (hd : isDs s = true) (hz : ∀ h : 0 < s.length, ¬ ((s[0]'h).toNat = 48 ∧ 1 < s.length)) (hl : s.length ≤ 400) (w : World) :
    Calls Tryz.prog 56 #[.string (bs s)] w fun e w' => ∃ A c, e = .returned (.tuple #[.slice A (limbs (valD s)).length c, .int .i64 0]) ∧ Out w' A c (valD s) ∧ Below w.heap.size w w' := by
  obtain ⟨sb, hsb⟩ : ∃ sb, bs s = sb := ⟨_, rfl⟩
  have hsz : sb.size = s.length := by rw [← hsb, bs_size]
  have hTL : sb.toList = s := by rw [← hsb, toList_bs]
  have hall : s.all isD = true := by unfold isDs at hd; exact (Bool.and_eq_true _ _ ▸ hd).1
  have hne : s.isEmpty = false := by unfold isDs at hd; have := (Bool.and_eq_true _ _ ▸ hd).2; revert this; cases s.isEmpty <;> simp
  have hp : 0 < s.length := by cases s with | nil => simp at hne | cons => simp
  rw [hsb]
  obtain ⟨b0, hb0⟩ : ∃ b, (s[0]'hp).toNat = b := ⟨_, rfl⟩
  have hbk0 : (sb[0]'(by omega)).toNat = b0 := by subst hsb; exact hb0
  have hz0 := hz hp
  rw [hb0] at hz0
  have GET : Hid (∀ k (hk : k < s.length), (sb[k]'(by omega)).toNat = (s[k]'hk).toNat) := Lib.hid (fun k hk => by subst hsb; rfl)
  have HALL := Lib.hid hall
  clear hall hb0 hz hd
  have hlI : (s.length : Int) ≤ 400 := by omega
  have hpI : (0 : Int) < (s.length : Int) := by omega
  go_enter Tryz.func56, Tryz.ntmps56
  by_cases h48 : b0 = 48
  all_goals (
    first
      | (have h1 : ¬ 1 < s.length := fun h1 => hz0 ⟨h48, h1⟩
         have h1d : decide ((1 : Int) < (s.length : Int)) = false := by simp; omega
         have h1I : ¬ (1 : Int) < (s.length : Int) := by omega
         have h48I : (b0 : Int) = 48 := by omega
         clear h1)
      | (have h48I : ¬ (b0 : Int) = 48 := by omega
         have h48b : ((b0 : Int) == 48) = false := by simpa using h48I)
    clear hz0 h48
    go_wp2_with fail
    go_loop [4] (fun v => ∃ k : Nat, k ≤ s.length ∧ v = .int .i64 (k : Int)) (fun v => (s.length - intOf v).toNat)
    case atStart => exact ⟨0, Nat.zero_le _, rfl⟩
    case round =>
      obtain ⟨k, hk, rfl⟩ := hrel
      by_cases hlt : k < s.length
      · have hltI : (k : Int) < (s.length : Int) := by omega
        obtain ⟨b, hb⟩ : ∃ b, (s[k]'hlt).toNat = b := ⟨_, rfl⟩
        have hbk : (sb[k]'(by omega)).toNat = b := (GET.out k hlt).trans hb
        have hbd := isD_iff.1 (List.all_eq_true.1 HALL.out _ (List.getElem_mem hlt))
        rw [hb] at hbd
        clear hb
        have h48J : ¬ (b : Int) < 48 := by omega
        have h48d : decide ((b : Int) < 48) = false := by simp; omega
        have h57J : ¬ (57 : Int) < (b : Int) := by omega
        have h57d : decide ((57 : Int) < (b : Int)) = false := by simp; omega
        go_wp2_with fail
        exact ⟨⟨k + 1, by omega, by simp⟩, by simp [intOf]; omega⟩
      · have hltI : ¬ (k : Int) < (s.length : Int) := by omega
        have hltd : decide ((k : Int) < (s.length : Int)) = false := by simp; omega
        have h400 : ¬ (400 : Int) < (s.length : Int) := by omega
        have h400d : decide ((400 : Int) < (s.length : Int)) = false := by simp; omega
        have OF : Hid (Calls Tryz.prog 57 #[.int .u64 10] w fun e w' => ∃ A c, e = .returned (.slice A (limbs 10).length c) ∧ Out w' A c 10 ∧ Below w.heap.size w w') := Lib.hid (of_any 10 (by omega) w)
        go_wp2_with fail
        with_reducible refine OF.out.mono ?_
        rintro e w1 ⟨AT, cT, rfl, oT, bT⟩
        go_wp2_with fail
        go_loopw [6, 7] (fun s6 i wr => ∃ (k : Nat) (A : Option Addr) (c : Nat), k ≤ s.length ∧ s6 = .slice A (limbs (valD (s.take k))).length c ∧ i = .int .i64 (k : Int) ∧ PaRel w wr A c AT cT (valD (s.take k))) (fun _ i _ => (s.length - intOf i).toNat)
        case atStart => exact ⟨0, none, 0, Nat.zero_le _, by simp [valD, limbs_zero], rfl, by simp only [List.take_zero, valD, List.foldl_nil]; exact ⟨by rw [limbs_zero]; exact Rd.nil _ _, by rw [limbs_zero]; exact Nat.le_refl _⟩, oT, bT⟩
        case round =>
          obtain ⟨k, A, c, hk, rfl, rfl, hr⟩ := hrel
          by_cases hlt : k < s.length
          · have hltI : (k : Int) < (s.length : Int) := by omega
            obtain ⟨b, hb⟩ : ∃ b, (s[k]'hlt).toNat = b := ⟨_, rfl⟩
            have hbk : (sb[k]'(by omega)).toNat = b := (GET.out k hlt).trans hb
            have hbd := isD_iff.1 (List.all_eq_true.1 HALL.out _ (List.getElem_mem hlt))
            rw [hb] at hbd
            obtain ⟨v, hv⟩ : ∃ v, valD (s.take k) = v := ⟨_, rfl⟩
            have hvl : nlen v ≤ 46 := by rw [← hv]; exact nlen_q (valD_lt HALL.out k hk) (by omega)
            obtain ⟨e1, he⟩ : ∃ e1, b - 48 = e1 := ⟨_, rfl⟩
            have heI : (b : Int) - 48 = (e1 : Int) := by omega
            have hw8 : IntKind.u8.wrap (e1 : Int) = (e1 : Int) := by rw [IntKind.wrap_u8]; omega
            have hw64 : IntKind.u64.wrap (e1 : Int) = (e1 : Int) := by rw [IntKind.wrap_u64]; omega
            have HNX := Lib.hid (show valD (s.take (k + 1)) = v * 10 + e1 by rw [valD_take hlt, hv, hb, he])
            have hv10 : nlen (v * 10) < 1099511627776 := by have := nlen_mul v 10; have := nlen_ten; omega
            have hel : nlen e1 < 1099511627776 := nlen_small (by omega)
            rw [hv] at hr ⊢
            have hacc := hr.acc
            have hten := hr.ten
            have BEL := Lib.hid hr.bel
            clear hb hv he hr
            go_upto_region 15 with fail
            have bd : Below wr.heap.size wr wr.drew := (Below.refl _ _).drew
            have ML := Lib.hid (mul_any A AT c cT v 10 _ _ wr.drew ((hacc.toIn (by omega)).keep bd) ((hten.toIn (by have := nlen_ten; omega)).keep bd))
            have OE := Lib.hid (fun X => of_any e1 (by omega) X)
            have AD : Hid (∀ (X : World) (A1 A2 : Option Addr) (c1 c2 : Nat), Out X A1 c1 (v * 10) → Out X A2 c2 e1 → Calls Tryz.prog 58 #[.slice A1 (limbs (v * 10)).length c1, .slice A2 (limbs e1).length c2] X fun e w' => ∃ A c, e = .returned (.slice A (limbs (v * 10 + e1)).length c) ∧ Out w' A c (v * 10 + e1) ∧ Below X.heap.size X w') := Lib.hid (fun X A1 A2 c1 c2 h1 h2 => add_any A1 A2 c1 c2 _ _ _ _ X (h1.toIn hv10) (h2.toIn hel))
            go_region_held3 (fun _ => True) (trivial)
              (first
                | (go_at_call 59; (with_reducible refine ML.out.mono ?_); rintro e v1 ⟨Aa, ca, rfl, oa, ba⟩; have r1 : Below wr.heap.size wr v1 := bd.trans ba)
                | (go_at_call 57; (with_reducible refine (OE.out _).mono ?_); rintro e v2 ⟨Ab, cb, rfl, ob, bb⟩; have r2 : Below wr.heap.size wr v2 := below_step r1 bb)
                | (go_at_call 58; (with_reducible refine (AD.out _ _ _ _ _ (oa.keep bb) ob).mono ?_); rintro e v3 ⟨Ac, cc, rfl, oc, bc⟩; have r3 : Below wr.heap.size wr v3 := below_step r2 bc)
                | fail)
            all_goals (
              go_wp2_with fail
              refine ⟨⟨k + 1, Ac, cc, by omega, by rw [HNX.out], by simp, by rw [HNX.out]; exact ⟨oc, hten.keep r3, below_step BEL.out r3⟩⟩, by simp [intOf]; omega⟩)
          · have hltI : ¬ (k : Int) < (s.length : Int) := by omega
            have hltd : decide ((k : Int) < (s.length : Int)) = false := by simp; omega
            have hks : s.take k = s := List.take_of_length_le (by omega)
            rw [hks] at hr ⊢
            have HA := Lib.hid hr.acc
            have HB := Lib.hid hr.bel
            clear hr hks
            go_wp2_with fail
            go_ret2
            exact ⟨A, c, rfl, HA.out, HB.out⟩)
end Go.Proofs.YtnifjdhjimjihaaGreatDoor
