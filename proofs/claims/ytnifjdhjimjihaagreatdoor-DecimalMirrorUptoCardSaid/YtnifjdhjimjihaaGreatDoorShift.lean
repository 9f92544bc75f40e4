/- nat.shiftLeft, nat.shiftRight. -/
import Derived.Test.YtnifjdhjimjihaaGreatDoorDivLimb
namespace Go.Proofs.YtnifjdhjimjihaaGreatDoor
open Go.RowKit Lim

/-- shiftLeft's loop: i limbs are shifted; c is what goes into the next limb. -/
def ShlRel (w wr : World) (g i sh : Nat) (a : List Nat) : Prop :=
  ∃ (s : List Nat) (c : Nat), s.length = i ∧ Dig s ∧ Blk wr g (s ++ c :: List.replicate (a.length - i) 0) ∧ val s + pw i * c = val (a.take i) * 2 ^ sh ∧ c < 2 ^ sh ∧ Below w.heap.size w wr

theorem two_pow_split (sh : Nat) (hs : sh < 32) : 2 ^ sh * 2 ^ (32 - sh) = 4294967296 := by
  rw [← Nat.pow_add, show sh + (32 - sh) = 32 from by omega]
theorem two_pow_le (sh : Nat) (hs : sh < 32) : 2 ^ sh ≤ 2147483648 := Nat.pow_le_pow_right (show 0 < 2 by omega) (show sh ≤ 31 by omega)
theorem mod_shift (x sh : Nat) (hs : sh < 32) : x * 2 ^ sh % 4294967296 = 2 ^ sh * (x % 2 ^ (32 - sh)) := by
  rw [← two_pow_split sh hs, Nat.mul_comm x, Nat.mul_mod_mul_left]
theorem shl_facts (x sh c : Nat) (hs : sh < 32) (hx : x < 4294967296) (hc : c < 2 ^ sh) :
    x * 2 ^ sh < 18446744073709551616 ∧ x * 2 ^ sh / 4294967296 < 2 ^ sh ∧ c + x * 2 ^ sh % 4294967296 < 4294967296 ∧ c ||| x * 2 ^ sh % 4294967296 = c + x * 2 ^ sh % 4294967296 := by
  have h1 := two_pow_le sh hs
  have hp := Nat.two_pow_pos sh
  have h2 : x * 2 ^ sh < 4294967296 * 2 ^ sh := Nat.mul_lt_mul_of_pos_right hx hp
  refine ⟨by omega, ?_, ?_, ?_⟩
  · rw [Nat.div_lt_iff_lt_mul (by omega), Nat.mul_comm (2 ^ sh)]; exact h2
  · rw [mod_shift x sh hs]
    have h3 : x % 2 ^ (32 - sh) + 1 ≤ 2 ^ (32 - sh) := Nat.mod_lt _ (Nat.two_pow_pos _)
    have h4 := Nat.mul_le_mul_left (2 ^ sh) h3
    rw [two_pow_split sh hs, Nat.mul_add, Nat.mul_one] at h4
    omega
  · rw [mod_shift x sh hs, Nat.or_comm, ← Nat.two_pow_add_eq_or_of_lt hc, Nat.add_comm]
theorem or_u32 (a b z : Nat) (ha : a < 4294967296) (hb : b < 4294967296) (h : a ||| b = z) : bits .or .u32 (a : Int) (b : Int) = (z : Int) := by
  rw [u32_or_nat a b ha hb, h]
theorem ShlRel.step {w wr : World} {g k sh : Nat} {a s : List Nat} {c x T : Nat} (hsl : s.length = k) (hds : Dig s) (hbk : Blk wr g (s ++ c :: List.replicate (a.length - k) 0)) (hv : val s + pw k * c = val (a.take k) * 2 ^ sh) (hbe : Below w.heap.size w wr)
    (hk : k < a.length) (hg : w.heap.size ≤ g) (hx : a.getD k 0 = x) (hT : T = x * 2 ^ sh) (h1 : T / 4294967296 < 2 ^ sh) (h2 : c + T % 4294967296 < 4294967296) {u v : Int} (hu : u = ((c + T % 4294967296 : Nat) : Int)) (hw : v = ((T / 4294967296 : Nat) : Int)) :
    ShlRel w ((wr.setCell ⟨g, k, none⟩ (.int .u32 u)).setCell ⟨g, k + 1, none⟩ (.int .u32 v)) g (k + 1) sh a := by
  refine ⟨s ++ [c + T % 4294967296], T / 4294967296, by simp [hsl], dig_snoc hds h2, ?_, ?_, h1, (hbe.setCell hg _).setCell hg _⟩
  · have := (hbk.set k _ hu).set (k + 1) _ hw
    rw [show a.length - k = (a.length - (k + 1)) + 1 from by omega, ← hsl, List.set_append_right _ _ (Nat.le_refl _), Nat.sub_self, List.set_cons_zero, List.set_append_right _ _ (by omega), show s.length + 1 - s.length = 1 from by omega, List.set_cons_succ, List.replicate_succ, List.set_cons_zero] at this
    rw [← hsl, List.append_assoc]
    exact this
  · rw [val_snoc, hsl, pw_succ, val_take_succ', hx]
    have e : T = T % 4294967296 + 4294967296 * (T / 4294967296) := by omega
    generalize T % 4294967296 = m at *
    generalize T / 4294967296 = d at *
    have e2 : pw k * (m + 4294967296 * d) = pw k * (x * 2 ^ sh) := by rw [← e, hT]
    grind

set_option maxHeartbeats 1000000 in
theorem shiftLeft_any (A1 : Option Addr) (c1 n1 sh : Nat) (a : List Nat) (w : World) (h1 : In w A1 c1 a n1) (hs : sh < 32) :
    Calls Tryz.prog 136 #[.slice A1 a.length c1, .int .i64 (sh : Int)] w fun e w' => e = .returned (.slice (some ⟨w.heap.size, 0, none⟩) (a.length + 1) (a.length + 1)) ∧
      ∃ l, l.length = a.length + 1 ∧ Dig l ∧ Blk w' w.heap.size l ∧ val l = n1 * 2 ^ sh ∧ Below w.heap.size w w' := by
  have r1 := h1.rd
  have k1 := h1.lim
  have V1' := Lib.hid h1.val
  have hmk := made (a.length + 1) (by omega)
  rw [show ((a.length + 1 : Nat) : Int) = (a.length : Int) + 1 from by omega] at hmk
  go_enter Tryz.func136, Tryz.ntmps136
  go_wp2_with fail
  go_loopw [15] (fun i wr => ∃ k : Nat, k ≤ a.length ∧ i = .int .i64 (k : Int) ∧ ShlRel w wr w.heap.size k sh a) (fun i _ => a.length - (intOf i).toNat)
  case atStart =>
    exact ⟨0, by omega, rfl, [], 0, rfl, dig_nil, by simpa [List.replicate_succ] using Blk.new w (List.replicate (a.length + 1) 0), by simp [val], Nat.two_pow_pos sh, (Below.refl _ _).alloc (Nat.le_refl _) _⟩
  case round =>
    obtain ⟨k, hk, rfl, hrel⟩ := hrel
    by_cases hlt : k < a.length
    · obtain ⟨s, c, hsl, hds, hbk, hv, hc, hbe⟩ := hrel
      obtain ⟨b1, o1, rfl, hlt1, hcx⟩ := (r1.keep hbe).at_ hlt
      obtain ⟨x, hx⟩ : ∃ x, a[k] = x := ⟨_, rfl⟩
      rw [hx] at hcx
      have hX := Lib.hid (getD_of hlt hx)
      have hxb : x < 4294967296 := by rw [← hx]; exact dig_get r1.1 hlt
      clear hx
      have hst0 : wr.cell? ⟨w.heap.size, k, none⟩ = some (.int .u32 (c : Int)) := by
        have := hbk.cell (i := k) (by simp; omega)
        rw [List.getElem_append_right (by omega)] at this
        simpa [hsl] using this
      have hf0 := hbk.frozen k
      have hst1 : wr.cell? ⟨w.heap.size, k + 1, none⟩ = some (.int .u32 0) := by
        have := hbk.cell (i := k + 1) (by simp; omega)
        rw [List.getElem_append_right (by omega)] at this
        simpa [hsl, show k + 1 - k = 1 from by omega] using this
      have hf1 := hbk.frozen (k + 1)
      obtain ⟨T, hT⟩ : ∃ T, T = x * 2 ^ sh := ⟨_, rfl⟩
      obtain ⟨t1, t2, t3, t4⟩ := shl_facts x sh c hs hxb hc
      rw [← hT] at t1 t2 t3 t4
      have hw : IntKind.u64.wrap ((x : Int) * 2 ^ sh) = (T : Int) := by
        have e : ((x : Int) * 2 ^ sh) = ((x * 2 ^ sh : Nat) : Int) := by simp
        rw [e, ← hT, IntKind.wrap_u64]; omega
      have hor := or_u32 c (T % 4294967296) _ (by omega) (by omega) t4
      rw [show ((T % 4294967296 : Nat) : Int) = (T : Int) % 4294967296 from by omega] at hor
      have hst := Lib.hid (fun (u v : Int) => ShlRel.step hsl hds hbk hv hbe hlt (Nat.le_refl _) hX.out hT t2 t3 (u := u) (v := v))
      have t2' : T / 4294967296 < 4294967296 := by omega
      clear t4 t2 hT hsl hv hbk hc
      go_wp2
      go_roundw
      case rel => exact ⟨k + 1, by omega, by go_num, hst.out _ _ (by omega) (by omega)⟩
      case measure => simp [intOf]; omega
    · obtain rfl : k = a.length := by omega
      obtain ⟨s, c, hsl, hds, hbk, hv, hc, hbe⟩ := hrel
      rw [Nat.sub_self, List.replicate_zero] at hbk
      have hp := two_pow_le sh hs
      have hfin : ∃ l, l.length = a.length + 1 ∧ Dig l ∧ Blk wr w.heap.size l ∧ val l = n1 * 2 ^ sh ∧ Below w.heap.size w wr :=
        ⟨s ++ [c], by simp [hsl], dig_snoc hds (by omega), hbk, by rw [val_snoc, hsl, hv, List.take_of_length_le (Nat.le_refl _), V1'.out], hbe⟩
      have hFin := Lib.hid hfin
      clear hfin hsl hv hc hp
      go_wp2
      go_ret
      exact ⟨rfl, hFin.out⟩

/-- The limbs shifted down. -/
def shrL (sh : Nat) : List Nat → List Nat
  | [] => []
  | x :: xs => ((x + 4294967296 * xs.getD 0 0) / 2 ^ sh % 4294967296) :: shrL sh xs
theorem shrL_length (sh : Nat) (l : List Nat) : (shrL sh l).length = l.length := by
  induction l with
  | nil => rfl
  | cons x xs ih => simp [shrL, ih]
theorem shrL_dig (sh : Nat) (l : List Nat) : Dig (shrL sh l) := by
  induction l with
  | nil => exact dig_nil
  | cons x xs ih => exact dig_cons.2 ⟨Nat.mod_lt _ (by omega), ih⟩
theorem shrL_get (sh : Nat) (l : List Nat) (k : Nat) (hk : k < l.length) : (shrL sh l)[k]'(by rw [shrL_length]; exact hk) = (l[k] + 4294967296 * l.getD (k + 1) 0) / 2 ^ sh % 4294967296 := by
  induction l generalizing k with
  | nil => simp at hk
  | cons x xs ih =>
    cases k with
    | zero => simp [shrL]
    | succ k =>
      simp only [shrL, List.getElem_cons_succ]
      rw [ih k (by simpa using hk)]
      simp
theorem val_head (l : List Nat) (h : Dig l) : val l % 4294967296 = l.getD 0 0 := by
  cases l with
  | nil => rfl
  | cons x xs =>
    have := (dig_cons.1 h).1
    rw [val_cons]
    simp
    omega
theorem shr_one (x y sh : Nat) (hs : sh < 32) (hx : x < 4294967296) : (x + 4294967296 * y) / 2 ^ sh = (x + 4294967296 * (y % 4294967296)) / 2 ^ sh % 4294967296 + 4294967296 * (y / 2 ^ sh) := by
  have hp := Nat.two_pow_pos sh
  have hP := two_pow_split sh hs
  have hm : y % 4294967296 % 2 ^ sh = y % 2 ^ sh := by rw [← hP, Nat.mod_mul_right_mod]
  have key : ∀ z : Nat, (x + 4294967296 * z) / 2 ^ sh = (x + 4294967296 * (z % 2 ^ sh)) / 2 ^ sh + 4294967296 * (z / 2 ^ sh) := by
    intro z
    have e : x + 4294967296 * z = (x + 4294967296 * (z % 2 ^ sh)) + 2 ^ sh * (4294967296 * (z / 2 ^ sh)) := by
      have := Nat.div_add_mod z (2 ^ sh)
      generalize z % 2 ^ sh = r at *
      generalize z / 2 ^ sh = q at *
      generalize 2 ^ sh = p at *
      subst this
      grind
    rw [e, Nat.add_mul_div_left _ _ hp]
  have hlt : (x + 4294967296 * (y % 2 ^ sh)) / 2 ^ sh < 4294967296 := by
    rw [Nat.div_lt_iff_lt_mul hp]
    have := Nat.mod_lt y hp
    have := Nat.mul_le_mul_left 4294967296 (show y % 2 ^ sh + 1 ≤ 2 ^ sh by omega)
    omega
  rw [key y, key (y % 4294967296), hm, Nat.add_mul_mod_self_left, Nat.mod_eq_of_lt hlt]
theorem val_shrL (sh : Nat) (hs : sh < 32) (l : List Nat) (h : Dig l) : val (shrL sh l) = val l / 2 ^ sh := by
  induction l with
  | nil => simp [shrL, val]
  | cons x xs ih =>
    have h1 := dig_cons.1 h
    rw [shrL, val_cons, val_cons, ih h1.2, shr_one x (val xs) sh hs h1.1, val_head xs h1.2]
theorem take_zeros_set (s : List Nat) (n i x : Nat) (hi : i < s.length) (hx : s[i] = x) (hn : n = s.length) : (s.take i ++ List.replicate (n - i) 0).set i x = s.take (i + 1) ++ List.replicate (n - (i + 1)) 0 := by
  subst hn
  have hl : (s.take i).length = i := by simp; omega
  have h := set_here (s.take i) (s.length - (i + 1)) x
  rw [hl, show s.length - (i + 1) + 1 = s.length - i from by omega] at h
  rw [h, List.take_succ_eq_append_getElem hi, hx]

set_option maxHeartbeats 1000000 in
theorem shiftRight_any (A1 : Option Addr) (c1 n1 sh : Nat) (a : List Nat) (w : World) (h1 : Raw w A1 c1 a n1) (hs : sh < 32) :
    Calls Tryz.prog 140 #[.slice A1 a.length c1, .int .i64 (sh : Int)] w fun e w' => e = .returned (.slice (some ⟨w.heap.size, 0, none⟩) a.length a.length) ∧
      ∃ l, l.length = a.length ∧ Raw w' (some ⟨w.heap.size, 0, none⟩) a.length l (n1 / 2 ^ sh) ∧ Below w.heap.size w w' := by
  have r1 := h1.rd
  have k1 := h1.lim
  have V1' := Lib.hid h1.val
  have hmk := made a.length (by omega)
  have hsl := shrL_length sh a
  have hSL := Lib.hid hsl; clear hsl
  go_enter Tryz.func140, Tryz.ntmps140
  go_wp2_with fail
  go_loopw [14] (fun i wr => ∃ k : Nat, k ≤ a.length ∧ i = .int .i64 (k : Int) ∧ Blk wr w.heap.size ((shrL sh a).take k ++ List.replicate (a.length - k) 0) ∧ Below w.heap.size w wr) (fun i _ => a.length - (intOf i).toNat)
  case atStart =>
    exact ⟨0, by omega, rfl, by simpa using Blk.new w (List.replicate a.length 0), (Below.refl _ _).alloc (Nat.le_refl _) _⟩
  case round =>
    obtain ⟨k, hk, rfl, hbk, hbe⟩ := hrel
    by_cases hlt : k < a.length
    · obtain ⟨b1, o1, rfl, hlt1, hcx⟩ := (r1.keep hbe).at_ hlt
      obtain ⟨x, hx⟩ : ∃ x, a[k] = x := ⟨_, rfl⟩
      rw [hx] at hcx
      have hxb : x < 4294967296 := by rw [← hx]; exact dig_get r1.1 hlt
      have hst0 : wr.cell? ⟨w.heap.size, k, none⟩ = some (.int .u32 0) := by
        have := hbk.cell (i := k) (by simp [hSL.out]; omega)
        rw [List.getElem_append_right (by simp; omega)] at this
        simpa using this
      have hf0 := hbk.frozen k
      obtain ⟨y, hy⟩ : ∃ y, a.getD (k + 1) 0 = y := ⟨_, rfl⟩
      have hyb : y < 4294967296 := by rw [← hy]; exact dig_getD r1.1 _
      obtain ⟨T, hT⟩ : ∃ T, T = y * 4294967296 + x := ⟨_, rfl⟩
      have hst := Lib.hid (fun (u : Int) (hu : u = ((T / 2 ^ sh % 4294967296 : Nat) : Int)) => (take_zeros_set (shrL sh a) a.length k (T / 2 ^ sh % 4294967296) (by rw [hSL.out]; exact hlt) (by rw [shrL_get sh a k hlt, hx, hy, hT, Nat.mul_comm, Nat.add_comm]) hSL.out.symm) ▸ hbk.set k _ hu)
      by_cases hlt2 : k + 1 < a.length
      · have hcy := ((r1.keep hbe).2 (by omega))
        obtain ⟨b2, o2, e2, _, hcc⟩ := hcy
        injection e2 with e2
        injection e2 with e3 e4
        subst e3 e4
        have hcy := hcc (k + 1) hlt2
        rw [show a[k + 1] = y from by rw [← getD_of hlt2 rfl]; exact hy] at hcy
        have hor : bits .or .u64 (x : Int) ((y : Int) * 4294967296) = (T : Int) := by
          have h := u64_or_nat x (y * 4294967296) (by omega) (by omega)
          rw [show ((y * 4294967296 : Nat) : Int) = (y : Int) * 4294967296 from by omega] at h
          rw [h, Nat.or_comm, hT, Nat.mul_comm y, Nat.two_pow_add_eq_or_of_lt (show x < 2 ^ 32 by omega) y]
        have hTb : T < 18446744073709551616 := by omega
        clear hx hy hT hcc hbk
        go_wp2
        go_roundw
        case rel => exact ⟨k + 1, by omega, by go_num, hst.out _ (by simp), hbe.setCell (Nat.le_refl _) _⟩
        case measure => simp [intOf]; omega
      · have hy0 : y = 0 := by rw [← hy]; exact getD_out (by omega)
        have hTx : T = x := by omega
        subst hTx
        clear hx hy hT hy0 hbk
        go_wp2
        go_roundw
        case rel => exact ⟨k + 1, by omega, by go_num, hst.out _ (by simp), hbe.setCell (Nat.le_refl _) _⟩
        case measure => simp [intOf]; omega
    · obtain rfl : k = a.length := by omega
      have hfin : ∃ l, l.length = a.length ∧ Raw wr (some ⟨w.heap.size, 0, none⟩) a.length l (n1 / 2 ^ sh) ∧ Below w.heap.size w wr := by
        rw [Nat.sub_self, List.replicate_zero, List.append_nil, List.take_of_length_le (by rw [hSL.out]; exact Nat.le_refl _)] at hbk
        exact ⟨_, hSL.out, ⟨hbk.rd (shrL_dig _ _), by rw [hSL.out]; exact Nat.le_refl _, by rw [hSL.out]; omega, by rw [val_shrL sh hs a r1.1, V1'.out]⟩, hbe⟩
      have hFin := Lib.hid hfin
      clear hfin
      go_wp2
      go_ret
      exact ⟨rfl, hFin.out⟩
end Go.Proofs.YtnifjdhjimjihaaGreatDoor
