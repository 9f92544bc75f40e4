import Derived.Test.YtcggnmddcbhchaaGreatDoorT1
import Derived.Test.YtcggnmddcbhchaaGreatDoorRows
import Derived.ProofKit
import Derived.OpenShut
import Derived.ChangeArms
import Derived.ChangeSlices
import Derived.Deep.DeepHandedRow
import Derived.Deep.Slices
import Derived.Below
import Derived.Carry
import Derived.ChangeSame
import Derived.Lay
import Derived.MakeChecks
import Derived.Shelf.Vars
import Derived.Lib.LaidTab
import Derived.ChangeBears2
/- Texts merged: Zr Zu Zv Za Zb Yd WSh WSi Ye Zo Zw Zx Zy Zz Yr. -/
set_option linter.unusedSimpArgs false
set_option linter.unusedVariables false
namespace Go.Proofs.YtcggnmddcbhchaaGreatDoor
open Go.RowKit Lim
theorem capD_400 {k : Nat} (h : k ≤ 10 ^ e400 * 10) : capD (limbsK k) = true := by
 refine capD_ok (limbsK_dig k) ?_
 have q2 := log2_le h
 have q3 := nlen_log k
 have q4 : Nat.log2 (10 ^ e400 * 10) = 1332 := by decide +kernel
 rw [limbsK_eq]
 show nlen _ ≤ _
 omega
theorem capD_one {k : Nat} (h : k < 4294967296) : capD [k] = true := capD_ok (fun x hx => by simp at hx; omega) (by simp)
theorem val_sgl (k : Nat) : val [k] = k := by rw [val_cons, val_nil]; omega
theorem c48 (b : UInt8) : ((b.toNat : Int) == 48) = (b == 48) := by
 rw [Bool.eq_iff_iff, beq_iff_eq, beq_iff_eq]
 exact ⟨fun h => UInt8.toNat_inj.1 (by show b.toNat = 48; omega), fun h => by rw [h]; rfl⟩
section
variable (n : Nat)
theorem r01Parse_e (s : List UInt8) (hs : s.length ≤ 4294967296) : EF fuel (n + 2) 196 [vS s] [.c .nat, .c (.int .i64)] = some (bif natE s == 0 then (limbsK (valD s), 0, ()) else ([], natE s, ())) := by
 have key : ∀ {K : Option (Ans (denL [tN, tI]))} {st : denL [tN, tI, tI] → Option (Ans (denL [tN, tI]))} , (∀ k, (hk : k < s.length) → st ([], (k : Int), 0, ()) = bif isD s[k] then some (.cont 0 [tN, tI, tI] ([], ((k + 1 : Nat) : Int), 0, ())) else some (.ret ([], 2, ()))) → st ([], (s.length : Int), 0, ()) = K → (s.all isD = true → K = some (.ret (natA s))) → loopA 0 [tN, tI, tI] st fuel ([], 0, 0, ()) = some (.ret (natA s)) := by
  intro K st h1 h2 h3
  refine loopA_inv (ts := [tN, tI, tI]) (fun x => ∃ k, k ≤ s.length ∧ x = ([], (k : Int), 0, ()) ∧ (s.take k).all isD = true) (fun (x : List Nat × Int × Int × Unit) => s.length - x.2.1.toNat) (fun x hx => ?_) _ ⟨0, by omega, rfl, by simp⟩ (fuel_lt (by omega))
  obtain ⟨k, hk, rfl, ha⟩ := hx
  by_cases hk2 : k = s.length
  ·subst hk2
   rw [List.take_length] at ha
   exact .inl ⟨by rw [h2, h3 ha], rfl⟩
  ·have hk3 : k < s.length := by omega
   rw [h1 k hk3]
   cases hd : isD s[k] with
   | false => exact .inl ⟨by rw [cond_false]; unfold natA; rw [all_at hk3 hd]; rfl, rfl⟩
   | true =>
    refine .inr ⟨_, rfl, ⟨k + 1, by omega, rfl, takeD_all hk3 ha hd⟩, ?_⟩
    show s.length - ((k + 1 : Nat) : Int).toNat < s.length - (k : Int).toNat
    omega
 refine (ref01_Parse_m (n + 1) s).trans ?_
 have main : ∀ {o : Option (Ans (denL [tN, tI]))}, o = loopA 0 [tN, tI, tI] (fun x => bif decide (x.2.1 < (Nat.cast (R := Int) (List.length s))) then (ix s x.2.1).bind fun b => bif decide ((Nat.cast (R := Int) b.toNat) < 48) then some (.ret ([], 2, ())) else (ix s x.2.1).bind fun b => bif decide (57 < (Nat.cast (R := Int) b.toNat)) then some (.ret ([], 2, ())) else some (.cont 0 [tN, tI, tI] (x.1, IntKind.i64.wrap (x.2.1 + 1), x.2.2.1, ())) else bif decide (400 < (Nat.cast (R := Int) (List.length s))) then some (.ret ([], 5, ())) else loopA 0 [tI, tN] (fun x => bif decide (x.1 < (Nat.cast (R := Int) (List.length s))) then (EF fuel (n + 1) 108 [vN x.2.1, vN ([Int.toNat 10])] [.c tN]).bind fun x_1 => (ix s x.1).bind fun b => (bif u32B (IntKind.u32.wrap (IntKind.u8.wrap ((Nat.cast (R := Int) b.toNat) - 48))) then some [(IntKind.u32.wrap (IntKind.u8.wrap ((Nat.cast (R := Int) b.toNat) - 48))).toNat] else none).bind fun ns => (EF fuel (n + 1) 171 [vN x_1.1, vN ns] [.c tN]).bind fun x_2 => some (.cont 0 [tI, tN] (IntKind.i64.wrap (x.1 + 1), x_2.1, ())) else some (.ret (x.2.1, 0, ()))) fuel (0, [], ())) fuel ([], 0, 0, ()) → o = some (.ret (natA s)) := by
  intro o ho
  rw [ho]
  refine key (fun k hk => ?_) rfl (fun ha => ?_)
  ·dsimp only
   rw [dlt hk, cond_true, ix_lt hk, Option.bind_some]
   cases hd : isD s[k] with
   | false =>
    rcases not_digit hd with h | ⟨h, h2⟩
    ·rw [decide_eq_true h]; rfl
    ·rw [decide_eq_false h, cond_false, Option.bind_some, decide_eq_true h2]; rfl
   | true =>
    obtain ⟨h1, h2⟩ := digit_int hd
    rw [decide_eq_false (by rw [h1]; exact id), cond_false, Option.bind_some, decide_eq_false (by rw [h2]; exact id), cond_false, cond_true, w64n (by omega)]
  ·dsimp only
   rw [dge (Nat.le_refl _), cond_false]
   unfold natA
   rw [ha, cond_true]
   have c4 : decide (400 < (s.length : Int)) = decide (400 < s.length) := decide_eq_decide.2 (by omega)
   rw [c4]
   cases h4 : decide (400 < s.length) with
   | true => rfl
   | false =>
    have h4 := of_decide_eq_false h4
    rw [cond_false, cond_false]
    refine loopA_range (R := denL [tN, tI]) (ts := [tI, tN]) (N := s.length) (fun k => ((k : Int), limbsK (valD (s.take k)), ())) (fun k hk => ?_) ?_ rfl (fuel_lt (by omega))
    ·have v1 := valD_400 (by omega) ha k
     have hd : isD s[k] = true := List.all_eq_true.1 ha _ (List.getElem_mem hk)
     have hd2 := isD_rng.1 hd
     have q0 := ten_le
     have e8 : IntKind.u32.wrap (IntKind.u8.wrap ((s[k].toNat : Int) - 48)) = ((s[k].toNat - 48 : Nat) : Int) := by
      simp [IntKind.wrap, IntKind.bits, IntKind.signed]
      omega
     have e9 : u32B ((s[k].toNat - 48 : Nat) : Int) = true := by
      unfold u32B
      simp
      omega
     have a1 : val (limbsK (valD (s.take k))) * val [Int.toNat 10] = valD (s.take k) * 10 := by rw [val_K, show Int.toNat 10 = 10 from rfl, val_sgl]
     dsimp only
     rw [dlt hk, cond_true, bind_go (pd1Mul_e (b := true) n _ _ (capD_400 (k := valD (s.take k)) (by omega)) (capD_one (k := Int.toNat 10) (by decide))), a1, ix_lt hk, Option.bind_some, e8, e9, cond_true, Option.bind_some, Int.toNat_natCast]
     dsimp only
     rw [bind_go (pd1Add_e (b := true) n _ _ (capD_400 (k := valD (s.take k) * 10) (by omega)) (capD_one (k := s[k].toNat - 48) (by omega))), val_K, val_sgl, w64n (by omega), takeD_val hk]
    ·dsimp only
     rw [dge (Nat.le_refl _), cond_false, List.take_length]
 have lp : ∀ {o : Option (Ans (denL [tN, tI]))}, o = some (.ret (natA s)) → s.isEmpty = false → (s.head? == some 48 && decide (1 < s.length)) = false → unwrapA o = some (bif natE s == 0 then (limbsK (valD s), 0, ()) else ([], natE s, ())) := by
  intro o ho h1 hz
  rw [ho]
  unfold natE natA
  rw [h1, hz, cond_false, cond_false]
  cases s.all isD
  ·rfl
  ·cases decide (400 < s.length) <;> rfl
 cases hs0 : s with
 | nil => rfl
 | cons b0 s0 =>
  rw [← hs0]
  have hnil : s.isEmpty = false := by rw [hs0]; rfl
  have hh : s.head? = some b0 := by rw [hs0]; rfl
  have hl0 : 0 < s.length := by rw [hs0]; simp
  have hix : ix s 0 = some b0 := by rw [hs0]; rfl
  rw [show (((s.length : Nat) : Int) == 0) = false by rw [beq_eq_false_iff_ne]; omega, cond_false]
  have c1 : decide (1 < (s.length : Int)) = decide (1 < s.length) := decide_eq_decide.2 (by omega)
  rw [c1]
  cases hl : decide (1 < s.length)
  ·rw [cond_false]
   exact lp (main rfl) hnil (by rw [hl, Bool.and_false])
  ·rw [cond_true, hix, Option.bind_some, c48]
   cases hz : b0 == 48
   ·rw [cond_false]
    exact lp (main rfl) hnil (by rw [hh, show ((some b0 : Option UInt8) == some 48) = (b0 == 48) from rfl, hz]; rfl)
   ·rw [cond_true]
    unfold natE
    rw [hnil, hh, show ((some b0 : Option UInt8) == some 48) = (b0 == 48) from rfl, hz, hl]
    rfl
theorem r02Parse_e (s : List UInt8) (hs : s.length ≤ 4294967296) : EF fuel (n + 3) 147 [vS s] [.agg [.bool, .nat], .c (.int .i64)] = some (bif intE s == 0 then (decide (intV s < 0), limbsK (intV s).natAbs, 0, ()) else (false, [], intE s, ())) := by
 refine (ref02_Parse_m (n + 2) s).trans ?_
 have mk : ∀ (t : Bool) (m : List UInt8), natE m = 0 → EF fuel (n + 2) 135 [vB t, vN (limbsK (valD m))] [.agg [tB, tN]] = some (decide (sg t (valD m) < 0), limbsK (sg t (valD m)).natAbs, ()) := fun t m h => by
  have h2 := natE_lt h
  have := pd2Make_e (b := true) (n + 1) t (limbsK (valD m)) (capD_400 (by omega))
  rw [val_K] at this
  exact this
 cases hs0 : s with
 | nil =>
  rw [show decide (0 < ((([] : List UInt8).length : Nat) : Int)) = false from rfl, cond_false, bind_go (r01Parse_e n [] (Nat.zero_le _)), show natE [] = 2 from rfl, show intE [] = 2 from rfl]
  rfl
 | cons b s' =>
  have hlen : s'.length + 1 ≤ 4294967296 := by rw [hs0] at hs; exact hs
  rw [show decide (0 < (((b :: s' : List UInt8).length : Nat) : Int)) = true from decide_eq_true (by simp only [List.length_cons]; omega), cond_true, show ix (b :: s') 0 = some b from rfl, Option.bind_some]
  have c45' : ((b.toNat : Int) == 45) = (b == 45) := by
   rw [Bool.eq_iff_iff, beq_iff_eq, beq_iff_eq]
   exact ⟨fun h => UInt8.toNat_inj.1 (by show b.toNat = 45; omega), fun h => by rw [h]; rfl⟩
  rw [c45']
  have hz : zneg (b :: s') = (b == 45) := rfl
  unfold intE intV zbody
  rw [hz]
  cases hb : b == 45 with
  | true =>
   have hb' := eq_of_beq hb
   subst hb'
   have e : sub (45 :: s') 1 (((45 :: s' : List UInt8).length : Nat) : Int) = some s' := by
    have := sub_le (l := 45 :: s') (a := 1) (b := (45 :: s' : List UInt8).length) (by simp) (Nat.le_refl _)
    rw [List.take_length] at this
    exact this
   simp only [cond_true]
   rw [e, Option.bind_some, bind_go (r01Parse_e n s' (by omega))]
   show unwrapA _ = some (bif (bif (45 :: s' : List UInt8) == [45, 48] then (2 : Int) else natE s') == 0 then (decide (sg true (valD s') < 0), limbsK (sg true (valD s')).natAbs, 0, ()) else (false, [], (bif (45 :: s' : List UInt8) == [45, 48] then (2 : Int) else natE s'), ()))
   have h48 : ((45 :: s' : List UInt8) == [45, 48]) = (s' == [48]) := by
    rw [Bool.eq_iff_iff, beq_iff_eq, beq_iff_eq]
    exact ⟨fun h => List.tail_eq_of_cons_eq h, fun h => by rw [h]⟩
   rw [h48]
   cases h0 : natE s' == 0 with
   | false =>
    have h9 : (s' == [48]) = false := by
     rw [beq_eq_false_iff_ne]
     intro e2
     rw [e2] at h0
     cases h0
    rw [h9]
    simp only [cond_false, h0]
    rw [show (natE s' != 0) = !(natE s' == 0) from rfl, h0]
    rfl
   | true =>
    have h1 := eq_of_beq h0
    rw [cond_true]
    dsimp only
    rw [bne_self_eq_false, cond_false, limbsK_nil]
    cases h9 : s' == [48] with
    | true =>
     have := eq_of_beq h9
     subst this
     rfl
    | false =>
     have hv : ¬ valD s' = 0 := fun hv => by
      have := natE_back h1
      rw [hv] at this
      rw [← this] at h9
      cases h9
     rw [decide_eq_false hv, cond_false, bind_go (mk true s' h1), cond_false, h0]
     rfl
  | false =>
   simp only [cond_false]
   rw [bind_go (r01Parse_e n (b :: s') (by simpa using hlen))]
   have h9 : ((b :: s' : List UInt8) == [45, 48]) = false := by
    rw [beq_eq_false_iff_ne]
    intro e2
    have := (List.cons.inj e2).1
    rw [this] at hb
    cases hb
   rw [h9, cond_false]
   cases h0 : natE (b :: s') == 0 with
   | false =>
    rw [cond_false, cond_false]
    dsimp only
    rw [show (natE (b :: s') != 0) = !(natE (b :: s') == 0) from rfl, h0]
    rfl
   | true =>
    have h1 := eq_of_beq h0
    rw [cond_true, cond_true]
    dsimp only
    rw [bne_self_eq_false, cond_false, bind_go (mk false (b :: s') h1)]
    rfl
end
end Go.Proofs.YtcggnmddcbhchaaGreatDoor
set_option linter.unusedSimpArgs false
set_option linter.unusedVariables false
namespace Go.Proofs.YtcggnmddcbhchaaGreatDoor
open Go.RowKit Lim
section
variable (n : Nat)
theorem limb_e (l : List Nat) (hd : Dig l) (i : Nat) : EF fuel (n + 1) 136 [vN l, vI (i : Int)] [.c (.int .u64)] = some (((l.getD i 0 : Nat) : Int), ()) := by
 refine (ref01_limb_m n l (i : Int)).trans ?_
 by_cases h : i < l.length
 ·have hx : l[i] < 4294967296 := hd _ (List.getElem_mem h)
  rw [dlt h, cond_true, ix_lt h, Option.bind_some, u64w (by omega) (by omega), List.getD_eq_getElem?_getD, List.getElem?_eq_getElem h]
  rfl
 ·rw [dge (by omega), cond_false, List.getD_eq_getElem?_getD, List.getElem?_eq_none (by omega)]
  rfl
theorem r01uint_e (m : Nat) (hc : capD (limbsK m) = true) : EF fuel (n + 2) 197 [vN (limbsK m)] [.c (.int .u64), .c .bool] = some (bif decide (m < 18446744073709551616) then ((m : Int), true, ()) else (0, false, ())) := by
 refine (ref01_Uint_m (n + 1) (limbsK m)).trans ?_
 have hp := pd1Norm_e (b := true) n (limbsK m) hc
 rw [val_K] at hp
 have hD : Dig (limbsK m) := limbsK_dig m
 have hV : val (limbsK m) = m := val_K m
 have hN := nrm_limbs m
 rw [← limbsK_eq] at hN
 rw [bind_go hp]
 generalize limbsK m = l at *
 have p2 : pw 2 = 18446744073709551616 := by decide +kernel
 dsimp only
 by_cases h2 : 2 < l.length
 ·have : pw 2 ≤ m := by
   have h3 := nrm_low hN (by omega)
   rw [hV] at h3
   exact Nat.le_trans (pw_mono (by omega)) h3
  rw [decide_eq_true (show 2 < (l.length : Int) by omega), cond_true, decide_eq_false (by omega)]
  rfl
 ·have hm : m < pw 2 := by
   have h3 := val_lt hD
   rw [hV] at h3
   exact Nat.lt_of_lt_of_le h3 (pw_mono (by omega))
  rw [decide_eq_false (show ¬ 2 < (l.length : Int) by omega), cond_false, decide_eq_true (show m < 18446744073709551616 by omega), cond_true]
  have q1 : EF fuel (n + 1) 136 [vN l, vI 1] [.c (.int .u64)] = some (((l.getD 1 0 : Nat) : Int), ()) := limb_e n l hD 1
  have q0 : EF fuel (n + 1) 136 [vN l, vI 0] [.c (.int .u64)] = some (((l.getD 0 0 : Nat) : Int), ()) := limb_e n l hD 0
  rw [bind_go q1, bind_go q0]
  dsimp only
  have key : ∀ a b : Nat, a < 4294967296 → b < 4294967296 → IntKind.u64.wrap (IntKind.u64.wrap ((b : Int) * 2 ^ min (Int.toNat 32) IntKind.u64.bits) + (a : Int)) = ((a + 4294967296 * b : Nat) : Int) := fun a b ha hb => by
   have e : (b : Int) * 2 ^ min (Int.toNat 32) IntKind.u64.bits = ((4294967296 * b : Nat) : Int) := by
    show (b : Int) * 4294967296 = _
    omega
   rw [e, u64w (z := ((4294967296 * b : Nat) : Int)) (by omega) (by omega), u64w (by omega) (by omega)]
   omega
  have fin : ∀ z : Int, z = (m : Int) → unwrapA (some (Ans.ret ((z, true, ()) : denL [VT.int .u64, tB]))) = some ((m : Int), true, ()) := fun z hz => by rw [hz]; rfl
  refine fin _ ?_
  rcases l with _ | ⟨a, _ | ⟨b, _ | ⟨c, l⟩⟩⟩
  ·rw [← hV]; exact (key 0 0 (by omega) (by omega)).trans (by rw [val_nil])
  ·have ha := hD a (by simp)
   rw [← hV]
   exact (key a 0 ha (by omega)).trans (by rw [val_sgl, Nat.mul_zero, Nat.add_zero])
  ·have ha := hD a (by simp)
   have hb := hD b (by simp)
   rw [← hV]
   exact (key a b ha hb).trans (by rw [val_cons, val_sgl])
  ·simp only [List.length_cons] at h2; omega
theorem r02int64_e (z : Int) (hc : capD (limbsK z.natAbs) = true) : EF fuel (n + 3) 148 [.o (.agg [⟨.bool, decide (z < 0)⟩, ⟨.nat, limbsK z.natAbs⟩])] [.c (.int .i64), .c .bool] = some (bif in64B z then (z, true, ()) else (0, false, ())) := by
 refine (ref02_Int64_m (n + 2) (decide (z < 0)) (limbsK z.natAbs)).trans ?_
 have hp := pd2Norm_e (b := true) (n + 1) (decide (z < 0)) (limbsK z.natAbs) hc
 rw [val_K, sg_own] at hp
 rw [bind_go hp, bind_go (r01uint_e n z.natAbs hc)]
 unfold in64B
 by_cases h : z.natAbs < 18446744073709551616
 ·rw [decide_eq_true h, cond_true]
  dsimp only
  rw [Bool.not_true, cond_false]
  by_cases hz : z < 0
  ·rw [decide_eq_true hz, cond_true]
   by_cases h3 : 9223372036854775808 < (z.natAbs : Int)
   ·rw [decide_eq_true h3, decide_eq_false (show ¬ -9223372036854775808 ≤ z by omega)]; rfl
   ·rw [decide_eq_false h3, decide_eq_true (show -9223372036854775808 ≤ z by omega), decide_eq_true (show z ≤ 9223372036854775807 by omega)]
    rw [u64w (z := (z.natAbs : Int) - 1) (by omega) (by omega), w64 (z := (z.natAbs : Int) - 1) (by omega) (by omega), w64 (z := 0 - ((z.natAbs : Int) - 1)) (by omega) (by omega), w64 (z := 0 - ((z.natAbs : Int) - 1) - 1) (by omega) (by omega), show 0 - ((z.natAbs : Int) - 1) - 1 = z by omega]
    rfl
  ·rw [decide_eq_false hz, cond_false]
   by_cases h3 : 9223372036854775808 ≤ (z.natAbs : Int)
   ·rw [decide_eq_true h3, decide_eq_false (show ¬ z ≤ 9223372036854775807 by omega), Bool.and_false]; rfl
   ·rw [decide_eq_false h3, decide_eq_true (show -9223372036854775808 ≤ z by omega), decide_eq_true (show z ≤ 9223372036854775807 by omega), w64 (by omega) (by omega), show (z.natAbs : Int) = z by omega]; rfl
 ·rw [decide_eq_false h, cond_false]
  by_cases hz : z < 0
  ·rw [decide_eq_false (show ¬ -9223372036854775808 ≤ z by omega)]; rfl
  ·rw [decide_eq_false (show ¬ z ≤ 9223372036854775807 by omega), Bool.and_false]; rfl
theorem capD_int {s : List UInt8} (h : intE s = 0) : capD (limbsK (intV s).natAbs) = true := capD_400 (by have := intV_lt h; omega)
theorem r56integer_e (s : List UInt8) (hs : s.length ≤ 4294967296) : EF fuel (n + 4) 86 [vS s] [.c (.int .i64), .c (.int .i64)] = some ((bif numE s == 0 then intV s else 0), numE s, ()) := by
 refine (ref56_integer_m (n + 3) s).trans ?_
 rw [bind_go (r02Parse_e n s hs)]
 unfold numE
 cases h : intE s == 0
 ·rw [cond_false, cond_false]
  dsimp only
  rw [show (intE s != 0) = !(intE s == 0) from rfl, h]
  rfl
 ·rw [cond_true, cond_true]
  dsimp only
  rw [bne_self_eq_false, cond_false, bind_go (r02int64_e n (intV s) (capD_int (eq_of_beq h)))]
  refine (congrArg unwrapA (num_core (intV s) (some (Ans.ret ((0, 3, ()) : denL [tI, tI]))) (fun v => some (Ans.ret ((v, 0, ()) : denL [tI, tI]))) _ rfl)).trans ?_
  cases okN (intV s) <;> rfl
theorem r03zero_e : EF fuel (n + 2) 183 [] gQ = some (false, [], limbsK 1, ()) := by
 refine (ref03_zero_m (n + 1)).trans ?_
 rw [bind_go (pd1Of_e (b := true) n 1 (capU_ok (by omega) (by omega)))]
 rfl
end
end Go.Proofs.YtcggnmddcbhchaaGreatDoor
set_option linter.unusedSimpArgs false
set_option linter.unusedVariables false
namespace Go.Proofs.YtcggnmddcbhchaaGreatDoor
open Go.RowKit Lim
theorem slash_cases (s : List UInt8) : ((47 : UInt8) ∉ s) ∨ ∃ a b, s = a ++ 47 :: b ∧ (47 : UInt8) ∉ a := by
 induction s with
 | nil => left; simp
 | cons c s ih =>
  by_cases hc : c = 47
  ·exact .inr ⟨[], s, by rw [hc]; rfl, by simp⟩
  ·rcases ih with h | ⟨a, b, rfl, h⟩
   ·left; simp [h]; exact fun hq => hc hq.symm
   ·exact .inr ⟨c :: a, b, rfl, by simp [h]; exact fun hq => hc hq.symm⟩
theorem c47 (b : UInt8) : ((b.toNat : Int) == 47) = (b == 47) := by
 rw [Bool.eq_iff_iff, beq_iff_eq, beq_iff_eq]
 exact ⟨fun h => UInt8.toNat_inj.1 (by show b.toNat = 47; omega), fun h => by rw [h]; rfl⟩
theorem bits0 (k : Nat) : (((bitsN k : Nat) : Int) == 0) = decide (k = 0) := by
 by_cases h : k = 0
 ·rw [bits_zero h, decide_eq_true h]
 ·rw [bits_pos h, decide_eq_false h]
theorem r03Parse_e (n : Nat) (s : List UInt8) (hs : s.length ≤ 4294967280) : EF fuel (n + 4) 149 [vS s] [.agg [.bool, .nat, .nat], .c (.int .i64)] = some (bif ratE s == 0 then ((ratQ s).t, (ratQ s).a, (ratQ s).b, 0, ()) else (false, [], limbsK 1, ratE s, ())) := by
 refine (ref03_Parse_m (n + 3) s).trans ?_
 have t1 := ten_le
 have red : ∀ (a : List UInt8) (d : Nat), intE a = 0 → 0 < d → d ≤ 10 ^ e400 → EF fuel (n + 3) 131 [.o (.agg [⟨tB, decide (intV a < 0)⟩, ⟨tN, limbsK (intV a).natAbs⟩]), vN (limbsK d)] [.agg [tB, tN, tN]] = some ((nQ (intV a) d).t, (nQ (intV a) d).a, (nQ (intV a) d).b, ()) := fun a d ha h0 hd => by
  have := pd3Red_e (b := true) (n + 2) (decide (intV a < 0)) (limbsK (intV a).natAbs) (limbsK d) (capD_int ha) (capD_400 (by omega)) (by rw [val_K]; exact Nat.ble_eq_true_of_le h0)
  rw [val_K, val_K, sg_own] at this
  exact this
 generalize hR : (bif ratE s == 0 then ((ratQ s).t, (ratQ s).a, (ratQ s).b, 0, ()) else (false, [], limbsK 1, ratE s, ()) : Bool × List Nat × List Nat × Int × Unit) = R
 refine congrArg (a₂ := some (Ans.ret (R : denL [tB, tN, tN, tI]))) unwrapA ?_
 rcases slash_cases s with hno | ⟨a, b, hab, ha⟩
 ·refine loopA_range (R := denL [tB, tN, tN, tI]) (ts := [tI, tI]) (N := s.length) (fun i => ((i : Int), -1, ())) (fun i hi => ?_) ?_ rfl (fuel_lt (by omega))
  ·dsimp only
   have : (s[i] == 47) = false := by
    rw [beq_eq_false_iff_ne]
    intro e
    exact hno (e ▸ List.getElem_mem hi)
   rw [dlt hi, cond_true, show decide ((-1 : Int) < 0) = true from rfl, cond_true, ix_lt hi, Option.bind_some, c47, this, cond_false, w64n (by omega)]
  ·dsimp only
   rw [dge (Nat.le_refl _), cond_false, show decide ((-1 : Int) < 0) = true from rfl, cond_true, bind_go (r02Parse_e n s (by omega)), ← hR]
   unfold ratE ratQ ratD
   rw [cut_missC hno]
   dsimp only
   cases h1 : intE s == 0
   ·rw [cond_false, cond_false]
    dsimp only
    rw [show (intE s != 0) = !(intE s == 0) from rfl, h1, Bool.not_false, cond_true, bind_go (r03zero_e (n + 1))]
    rfl
   ·rw [cond_true, cond_true]
    dsimp only
    rw [bne_self_eq_false, cond_false, bind_go (pd1Of_e (b := true) (n + 2) 1 (capU_ok (by omega) (by omega)))]
    dsimp only
    rw [show (1 : Int).toNat = 1 from rfl, bind_go (red s 1 (eq_of_beq h1) (by omega) (by omega))]
    rfl
 ·have hla : a.length < s.length := by rw [hab]; simp
  have ga : ∀ i (hi : i < a.length), s[i]'(by omega) = a[i] := fun i hi => by
   subst hab
   exact List.getElem_append_left hi
  have gm : s[a.length]'hla = 47 := by
   subst hab
   rw [List.getElem_append_right (Nat.le_refl _)]
   simp
  refine loopA_range (R := denL [tB, tN, tN, tI]) (ts := [tI, tI]) (N := a.length + 1) (fun i => ((i : Int), (if i ≤ a.length then -1 else (a.length : Int)), ())) (fun i hi => ?_) ?_ rfl (fuel_lt (by omega))
  ·dsimp only
   have hi2 : i < s.length := by omega
   rw [if_pos (show i ≤ a.length by omega), dlt hi2, cond_true, show decide ((-1 : Int) < 0) = true from rfl, cond_true, ix_lt hi2, Option.bind_some, c47, w64n (by omega)]
   by_cases hia : i < a.length
   ·have : (s[i] == 47) = false := by
     rw [beq_eq_false_iff_ne, ga i hia]
     intro e
     exact ha (e ▸ List.getElem_mem hia)
    rw [this, cond_false, if_pos (show i + 1 ≤ a.length by omega)]
   ·obtain rfl : i = a.length := by omega
    rw [gm, if_neg (show ¬ a.length + 1 ≤ a.length by omega)]
    rfl
  ·dsimp only
   have s1 : sub s 0 (a.length : Int) = some a := by
    have := sub_le (l := s) (a := 0) (b := a.length) (by omega) (by omega)
    rw [hab, List.take_append_of_le_length (Nat.le_refl _), List.take_length, List.drop_zero] at this
    rw [hab]
    exact this
   have s2 : sub s ((a.length + 1 : Nat) : Int) (s.length : Int) = some b := by
    have := sub_le (l := s) (a := a.length + 1) (b := s.length) (by omega) (Nat.le_refl _)
    rw [List.take_length] at this
    rw [this, hab]
    have : a ++ 47 :: b = (a ++ [47]) ++ b := by simp
    rw [this, List.drop_append_of_le_length (by simp), List.drop_eq_nil_of_le (by simp)]
    rfl
   have hlb : b.length ≤ 4294967280 := by rw [hab] at hs; simp at hs; omega
   have main : (((EF fuel (n + 3) 147 [vS a] [.agg [tB, tN], .c (tI)]).bind fun x_1 => bif x_1.2.2.1 != 0 then (EF fuel (n + 3) 183 [] [.agg [tB, tN, tN]]).bind fun x => some (.ret (x.1, x.2.1, x.2.2.1, x_1.2.2.1, ())) else (sub s ((a.length + 1 : Nat) : Int) (Nat.cast (R := Int) (List.length s))).bind fun m => (EF fuel (n + 3) 196 [vS m] [.c tN, .c (tI)]).bind fun x => bif x.2.1 != 0 then (EF fuel (n + 3) 183 [] [.agg [tB, tN, tN]]).bind fun x_2 => some (.ret (x_2.1, x_2.2.1, x_2.2.2.1, x.2.1, ())) else (EF fuel (n + 3) 137 [vN x.1] [.c (tI)]).bind fun x_2 => bif x_2.1 == 0 then (EF fuel (n + 3) 183 [] [.agg [tB, tN, tN]]).bind fun x => some (.ret (x.1, x.2.1, x.2.2.1, 2, ())) else (EF fuel (n + 3) 131 [.o (.agg [⟨tB, x_1.1⟩, ⟨tN, x_1.2.1⟩]), vN x.1] [.agg [tB, tN, tN]]).bind fun x => some (.ret (x.1, x.2.1, x.2.2.1, 0, ()))) : Option (Ans (denL [tB, tN, tN, tI]))) = some (Ans.ret (R : denL [tB, tN, tN, tI])) := by
    rw [bind_go (r02Parse_e n a (by omega)), ← hR]
    unfold ratE ratQ ratD
    rw [hab, cut_atC ha, ← hab]
    dsimp only
    cases h1 : intE a == 0
    ·rw [cond_false, cond_false]
     dsimp only
     rw [show (intE a != 0) = !(intE a == 0) from rfl, h1, Bool.not_false, cond_true, bind_go (r03zero_e (n + 1))]
     rfl
    ·rw [cond_true, cond_true]
     dsimp only
     rw [bne_self_eq_false, cond_false, s2, Option.bind_some, bind_go (r01Parse_e (n + 1) b (by omega)), cond_true, cond_true]
     cases h3 : natE b == 0
     ·rw [cond_false, cond_false]
      dsimp only
      rw [show (natE b != 0) = !(natE b == 0) from rfl, h3, Bool.not_false, cond_true, bind_go (r03zero_e (n + 1))]
      rfl
     ·have e3 := eq_of_beq h3
      have v3 := natE_lt e3
      rw [cond_true, cond_true]
      dsimp only
      rw [bne_self_eq_false, cond_false, bind_go (pd1Bits_e (b := true) (n + 2) (limbsK (valD b)) (capD_400 (by omega))), val_K]
      dsimp only
      rw [bits0]
      cases h4 : decide (valD b = 0)
      ·have h4 := of_decide_eq_false h4
       rw [cond_false, bind_go (red a (valD b) (eq_of_beq h1) (by omega) (by omega))]
       rfl
      ·rw [cond_true, bind_go (r03zero_e (n + 1))]
       rfl
   rw [if_neg (show ¬ a.length + 1 ≤ a.length by omega), decide_eq_false (show ¬ (a.length : Int) < 0 by omega), cond_false, s1, Option.bind_some, w64n (by omega)]
   cases decide (((a.length + 1 : Nat) : Int) < (s.length : Int))
   ·simp only [cond_false]
    exact main
   ·simp only [cond_true, cond_false]
    exact main
end Go.Proofs.YtcggnmddcbhchaaGreatDoor
set_option linter.unusedSimpArgs false
set_option linter.unusedVariables false
namespace Go.Proofs.YtcggnmddcbhchaaGreatDoor
open Go.RowKit Lim
theorem goP_step {L : List (List UInt8)} {k : Nat} {p q : PS} (h : lineP (5 - k) (L.getD (5 - k) []) p = (0, q)) : goP L (k + 1) p = goP L k q := by
 unfold goP
 rw [h]
 cases k <;> rfl
structure Res.Val (r : Res) : Prop where
 v : ¬ sgnI r.v.z < 0
 lo : -1000 ≤ r.lo ∧ r.lo ≤ 1000
 hi : -1000 ≤ r.hi ∧ r.hi ≤ 1000
 sc : -1000000 ≤ r.sc ∧ r.sc ≤ 1000000
 es : 0 ≤ r.es ∧ r.es ≤ 1000000
 sp : 0 ≤ r.sp ∧ r.sp ≤ 18
 st : 0 ≤ r.st ∧ r.st ≤ 4
end Go.Proofs.YtcggnmddcbhchaaGreatDoor
set_option linter.unusedSimpArgs false
set_option linter.unusedVariables false
namespace Go.Proofs.YtcggnmddcbhchaaGreatDoor
open Go.RowKit Lim
section
variable {c : UInt8} {s : List UInt8}
end
theorem ratD_lt {s : List UInt8} (h : ratE s = 0) : ratD s < 10 ^ e400 := by
 have := ten_le
 unfold ratE at h
 cases h1 : intE (Lib.cut s [47]).1 == 0 with
 | false => rw [h1, cond_false] at h; rw [h] at h1; cases h1
 | true =>
  rw [h1, cond_true] at h
  unfold ratD
  cases h2 : (Lib.cut s [47]).2.2 with
  | false => rw [cond_false]; omega
  | true =>
   rw [h2, cond_true] at h
   rw [cond_true]
   cases h3 : natE (Lib.cut s [47]).2.1 == 0 with
   | false => rw [h3, cond_false] at h; rw [h] at h3; cases h3
   | true => exact natE_lt (eq_of_beq h3)
theorem rat_fit {s : List UInt8} (h : ratE s = 0) : (ratQ s).long = false := by
 obtain ⟨h1, h2, _⟩ := ratE_ok h
 have h3 := ratD_lt h
 have v1 := intV_lt h1
 obtain ⟨e1, e2⟩ := nQ_nm (intV (Lib.cut s [47]).1) h2
 have b : ∀ k, k < 10 ^ e400 → ¬ 400 < (decK k).length := fun k hk => by
  rw [decK_eq]
  have := dd_len (n := k) (k := e400) (by unfold e400; omega) hk
  unfold e400 at this
  omega
 unfold Q3.long
 rw [show (ratQ s).n = rn (intV (Lib.cut s [47]).1) (ratD s) from e1, show (ratQ s).m = rd (intV (Lib.cut s [47]).1) (ratD s) from e2]
 rw [decide_eq_false (b _ (by
  rw [rn_abs]
  have := Nat.div_le_self (intV (Lib.cut s [47]).1).natAbs (Nat.gcd (intV (Lib.cut s [47]).1).natAbs (ratD s))
  omega)), decide_eq_false (b _ (by
  unfold rd
  have := Nat.div_le_self (ratD s) (Nat.gcd (intV (Lib.cut s [47]).1).natAbs (ratD s))
  omega))]
 rfl
theorem w7 {w : List (List UInt8)} (h : w.length = 7) : ∃ a0 a1 a2 a3 a4 a5 a6, w = [a0, a1, a2, a3, a4, a5, a6] := by
 rcases w with _ | ⟨s0, _ | ⟨s1, _ | ⟨s2, _ | ⟨s3, _ | ⟨s4, _ | ⟨s5, _ | ⟨s6, _ | ⟨s7, s⟩⟩⟩⟩⟩⟩⟩⟩
 all_goals first
  | exact ⟨_, _, _, _, _, _, _, rfl⟩
  | (exfalso; simp only [List.length_cons, List.length_nil] at h; omega)
end Go.Proofs.YtcggnmddcbhchaaGreatDoor
set_option linter.unusedSimpArgs false
set_option linter.unusedVariables false
namespace Go.Proofs.YtcggnmddcbhchaaGreatDoor
open Go.RowKit Lim
section
variable (n : Nat)
end
theorem awake_e : EF fuel 20 15 [] gB = some (true, ()) := by kernel_rfl
end Go.Proofs.YtcggnmddcbhchaaGreatDoor
set_option linter.unusedSimpArgs false
set_option linter.unusedVariables false
namespace Go.Proofs.YtcggnmddcbhchaaGreatDoor
open Go.ChangeShapes Go.WideShapes Go.ChangeAt Go.RowKit Lim
inductive SH where
 | int (k : IntKind)
 | bool
 | str
 | nat
 | sl (e : SH)
 | nil
 | cons (f r : SH)
def SH.sz : SH → Nat
 | .nil => 0
 | .cons f r => f.sz + r.sz
 | _ => 1
inductive Ok (B : Nat) : SH → List AV → Prop
 | int {k : IntKind} {z : Int} (h : k.min ≤ z ∧ z ≤ k.max) : Ok B (.int k) [.lit (.int k z)]
 | bool {b : Bool} : Ok B .bool [.lit (.bool b)]
 | str {l : List UInt8} (h : l.length ≤ B) : Ok B .str [Go.Proofs.YtcggnmddcbhchaaGreatDoor.str l]
 | nat {l : List Nat} (h1 : Dig l) (h2 : l.length ≤ B) : Ok B .nat [.nat l]
 | sl {e : SH} {xs : List (List AV)} (h1 : xs.length ≤ B) (h2 : ∀ x, x ∈ xs → Ok B e x) : Ok B (.sl e) [.sl e.sz (xs.map (mkEl e.sz))]
 | nil : Ok B .nil []
 | cons {f r : SH} {a b : List AV} (h1 : Ok B f a) (h2 : Ok B r b) : Ok B (.cons f r) (a ++ b)
theorem Ok.facts {B : Nat} {s : SH} {cs : List AV} (h : Ok B s cs) : cs.length = s.sz ∧ cs.all AV.one = true := by
 induction h with
 | cons _ _ ih1 ih2 => simp only [SH.sz, List.length_append, List.all_append, ih1.1, ih2.1, ih1.2, ih2.2, Bool.and_self]; exact ⟨trivial, trivial⟩
 | nil => exact ⟨rfl, rfl⟩
 | _ => exact ⟨rfl, rfl⟩
def shB (P : Program) : SH → (TypeId → Bool) × (List Field → Nat → Bool)
 | .int k => (fun t => match P.underlying t with | some (.int k') => decide (k' = k) | _ => false, fun _ _ => false)
 | .bool => (fun t => match P.underlying t with | some .bool => true | _ => false, fun _ _ => false)
 | .str => (fun t => match P.underlying t with | some .string => true | _ => false, fun _ _ => false)
 | .nat => (fun t => match P.underlying t with | some (.slice e) => (match P.underlying e with | some (.int .u32) => P.cellsOf e == 1 | _ => false) | _ => false, fun _ _ => false)
 | .sl s => (fun t => match P.underlying t with | some (.slice e) => (shB P s).1 e && P.cellsOf e == s.sz && decide (0 < s.sz) | _ => false, fun _ _ => false)
 | .nil => (fun t => match P.underlying t with | some (.struct fs) => fs.toList.isEmpty && P.cellsOf t == 0 | _ => false, fun fs _ => fs.isEmpty)
 | .cons f r => (fun t => match P.underlying t with | some (.struct fs) => (match fs.toList with | g :: gs => g.offset == 0 && (shB P f).1 g.type && P.cellsOf g.type == f.sz && (shB P r).2 gs (0 + f.sz) | [] => false) && P.cellsOf t == f.sz + r.sz | _ => false,
   fun fs off => match fs with | g :: gs => g.offset == off && (shB P f).1 g.type && P.cellsOf g.type == f.sz && (shB P r).2 gs (off + f.sz) | [] => false)
theorem bulk_one {H : Type} (d : DataW H) : 1 ≤ Rows.uptoBulk d := by
 cases d with
 | lit l => cases l <;> simp [Rows.uptoBulk]
 | nil => simp [Rows.uptoBulk]
 | ptr d => simp [Rows.uptoBulk]
 | slice elems spare => simp [Rows.uptoBulk]
 | agg parts => simp [Rows.uptoBulk]
 | iface t d => simp [Rows.uptoBulk]
 | map entries => simp [Rows.uptoBulk]
 | held h => simp [Rows.uptoBulk]
theorem bulk_len {H : Type} (l : List (DataW H)) : l.length ≤ Rows.uptoBulkAll l := by
 induction l with
 | nil => simp [Rows.uptoBulkAll]
 | cons x r ih => have := bulk_one x; simp only [Rows.uptoBulkAll, List.length_cons]; omega
theorem bulk_mem {H : Type} {l : List (DataW H)} {x : DataW H} (h : x ∈ l) : Rows.uptoBulk x ≤ Rows.uptoBulkAll l := by
 induction l with
 | nil => simp at h
 | cons y r ih =>
  simp only [Rows.uptoBulkAll]
  rcases List.mem_cons.1 h with rfl | h
  ·omega
  ·have := ih h; omega
theorem cell_spot {w : World} {a : Addr} {v : Value} (h : w.cell? a = some v) : a = ⟨a.block, a.off, none⟩ := by
 obtain ⟨b, o, s⟩ := a
 cases s with
 | none => rfl
 | some q =>
  simp only [World.cell?] at h
  split at h <;> simp at h
abbrev inW (w : World) : Zone := fun b _ => b < w.heap.size
section
variable {H : Type} {enc : TypeId × Value → H} {P : Program} {w : World} {base : Nat} {spare : Nat → Bool} {held : Bool} {B : Nat}
theorem open_nat {t e : TypeId} {fuel : Nat} {cs : List Value} {x : DataW H × List MemPlace} (ht : P.underlying t = some (.slice e)) (he : P.underlying e = some (.int .u32)) (hc : P.cellsOf e = 1)
  (h : DataW.trod enc P w base spare held fuel t cs = some x) (hB : Rows.uptoBulk x.1 ≤ B) : ∃ l v, cs = [v] ∧ Dig l ∧ l.length ≤ B ∧ Rep w (inW w) (.nat l) v := by
 rcases open_ints ht he hc h with ⟨rfl, rfl⟩ | ⟨a, len, cap, zs, rfl, _, hl, hm, hz, rfl, hcell, hwf⟩
 ·exact ⟨[], _, rfl, dig_nil, by simp, Rep.nat (l := []) (Rd.nil _ _) (by simp) (fun _ _ _ j hj => by simp at hj)⟩
 ·have hlen : len ≤ zs.length := by rw [hz]; split <;> omega
  have hb : ∀ n ∈ zs, 0 ≤ n ∧ n < 4294967296 := fun n hn => by
   have := hwf n hn
   simp [Lit.wf, IntKind.min, IntKind.max, IntKind.signed, IntKind.bits] at this
   omega
  have hl2 : ((zs.take len).map Int.toNat).length = len := by simp; omega
  have hd : Dig ((zs.take len).map Int.toNat) := by
   intro y hy
   obtain ⟨n, hn, rfl⟩ := List.mem_map.1 hy
   have := hb n (List.mem_of_mem_take hn)
   omega
  have hR : Rd w (some a) ((zs.take len).map Int.toNat) := ⟨hd, fun hpos => by
   have h0 := hcell 0 (by omega)
   rw [show a.add 0 = a by simp [Addr.add]] at h0
   have ha := cell_spot h0
   refine ⟨a.block, a.off, by rw [← ha], World.block_lt_of_cell? w a h0, fun j hj => ?_⟩
   have hj2 : j < zs.length := by omega
   have := hcell j hj2
   rw [ha, add_addr] at this
   rw [this]
   simp only [List.getElem_map, List.getElem_take]
   have hb2 := hb zs[j] (List.getElem_mem hj2)
   rw [Int.toNat_of_nonneg hb2.1]
   simp [List.getD, List.getElem?_eq_getElem hj2]⟩
  refine ⟨(zs.take len).map Int.toNat, .slice (some a) ((zs.take len).map Int.toNat).length cap, by rw [hl2], hd, ?_, .nat hR (by omega) ?_⟩
  ·rw [hl2]
   simp only [Rows.uptoBulk] at hB
   have h1 := bulk_len (lits (H := H) .u32 (zs.take len))
   have : (lits (H := H) .u32 (zs.take len)).length = len := by simp [lits]; omega
   omega
  ·intro b off e j hj
   obtain ⟨b', off', e', hb', _⟩ := hR.2 (by omega)
   rw [e] at e'
   cases e'
   exact hb'
def Stand (w : World) (as' : List AV) (cs : List Value) : Prop := as'.length = cs.length ∧ ∀ j (h1 : j < as'.length) (h2 : j < cs.length), Rep w (inW w) (as'[j]'h1) (cs[j]'h2)
theorem Stand.one {a : AV} {v : Value} (h : Rep w (inW w) a v) : Stand w [a] [v] := ⟨rfl, fun j h1 h2 => by
 have : j = 0 := by simp at h1; exact h1
 subst this
 exact h⟩
theorem add_cell {a : Addr} {i j : Nat} : (a.add i).add j = a.add (i + j) := Go.Deep.add_add a i j
theorem open_sl {s : SH} {t e : TypeId} {fuel : Nat} {cs : List Value} {x : DataW H × List MemPlace} (ht : P.underlying t = some (.slice e)) (hc : P.cellsOf e = s.sz) (hs : 0 < s.sz)
  (ih : ∀ {n : Nat} {cs' : List Value} {y : DataW H × List MemPlace}, DataW.trod enc P w base spare held n e cs' = some y → Rows.uptoBulk y.1 ≤ B → ∃ as', Ok B s as' ∧ Stand w as' cs')
  (h : DataW.trod enc P w base spare held fuel t cs = some x) (hB : Rows.uptoBulk x.1 ≤ B) : ∃ as', Ok B (.sl s) as' ∧ Stand w as' cs := by
 rcases Go.Deep.open_slice ht h with ⟨rfl, rfl⟩ | ⟨a, len, cap, m, n, D, Pl, rfl, hb, hl, hm, hmm, rfl, hx⟩
 ·exact ⟨_, .sl (xs := []) (by simp) (fun x hx => by simp at hx), Stand.one .nil⟩
 have hlm : len ≤ m := by rw [hmm]; split <;> omega
 simp only [Rows.uptoBulk] at hB
 have h1 := bulk_len ((List.range len).map D)
 have h2 : ((List.range len).map D).length = len := by simp
 have hel : ∀ i, i < len → ∃ as', Ok B s as' ∧ ∃ cs', w.cells? base (a.add (i * s.sz)) s.sz = some cs' ∧ Stand w as' cs' := fun i hi => by
  obtain ⟨cs', k1, k2⟩ := hx i (by omega)
  rw [hc] at k1
  have k3 : Rows.uptoBulk (D i) ≤ Rows.uptoBulkAll ((List.range len).map D) := bulk_mem (List.mem_map.2 ⟨i, List.mem_range.2 hi, rfl⟩)
  obtain ⟨as', o1, o2⟩ := ih k2 (show Rows.uptoBulk (D i) ≤ B by omega)
  exact ⟨as', o1, cs', k1, o2⟩
 let A : Nat → List AV := fun i => if h : i < len then Classical.choose (hel i h) else []
 have hA : ∀ i (hi : i < len), Ok B s (A i) ∧ ∃ cs', w.cells? base (a.add (i * s.sz)) s.sz = some cs' ∧ Stand w (A i) cs' := fun i hi => by
  have := Classical.choose_spec (hel i hi)
  simp only [A, dif_pos hi]
  exact this
 let V : Nat → List Value := fun i => (w.cells? base (a.add (i * s.sz)) s.sz).getD []
 have hV : ∀ i (hi : i < len), w.cells? base (a.add (i * s.sz)) s.sz = some (V i) ∧ Stand w (A i) (V i) := fun i hi => by
  obtain ⟨_, cs', k1, k2⟩ := hA i hi
  simp only [V, k1, Option.getD_some]
  exact ⟨trivial, k2⟩
 have hcl : ∀ i (hi : i < len) j (hj : j < s.sz), ∃ hv : j < (V i).length, w.cell? (a.add (i * s.sz + j)) = some ((V i)[j]'hv) := fun i hi j hj => by
  obtain ⟨_, k2, k3⟩ := World.cells?_some (hV i hi).1
  refine ⟨by omega, ?_⟩
  rw [← add_cell, k3 j hj, List.getElem?_eq_getElem]
 have hE : ∀ i (hi : i < len), (mkEl s.sz (A i)).cells = A i := fun i hi => mkEl_cells hs (hA i hi).1.facts.1 (hA i hi).1.facts.2
 have hmm' : ((List.range len).map A).map (mkEl s.sz) = (List.range len).map fun i => mkEl s.sz (A i) := by rw [List.map_map]; rfl
 refine ⟨_, .sl (xs := (List.range len).map A) (by simp; omega) (fun x hx => ?_), Stand.one ?_⟩
 ·obtain ⟨i, hi, rfl⟩ := List.mem_map.1 hx
  exact (hA i (List.mem_range.1 hi)).1
 ·rw [hmm']
  by_cases h0 : len = 0
  ·subst h0
   exact .nil
  ·obtain ⟨_, hc0⟩ := hcl 0 (by omega) 0 hs
   have hadd0 : a.add (0 * s.sz + 0) = a := by simp [Addr.add]
   rw [hadd0] at hc0
   have ha := cell_spot hc0
   have hlt := World.block_lt_of_cell? w a hc0
   have key : Rep w (inW w) (.sl s.sz ((List.range len).map fun i => mkEl s.sz (A i))) (.slice (some ⟨a.block, a.off, none⟩) ((List.range len).map fun i => mkEl s.sz (A i)).length cap) := by
    refine .sl (fun i j => (V i).getD j undef) hlt (by simp; exact hl) (fun i hi => ?_) (fun i j hi hj => ?_) (fun i hi j hj => ?_)
    ·simp only [List.length_map, List.length_range] at hi
     simp only [List.getElem_map, List.getElem_range, hE i hi]
     exact (hA i hi).1.facts.1
    ·simp only [List.length_map, List.length_range] at hi
     obtain ⟨q1, q2⟩ := hcl i hi j hj
     rw [ha, add_addr] at q2
     refine ⟨?_, hlt⟩
     rw [Nat.add_assoc, q2]
     simp [List.getD, List.getElem?_eq_getElem q1]
    ·simp only [List.length_map, List.length_range] at hi
     have e0 : ((List.range len).map fun i => mkEl s.sz (A i))[i]'(by simpa using hi) = mkEl s.sz (A i) := by simp
     have hj' : j < (A i).length := by
      rw [← hE i hi]
      simpa [e0] using hj
     obtain ⟨q1, q2⟩ := hcl i hi j (by rw [← (hA i hi).1.facts.1]; exact hj')
     have := (hV i hi).2.2 j hj' q1
     have e1 : (V i).getD j undef = (V i)[j] := by simp [List.getD, List.getElem?_eq_getElem q1]
     rw [e1]
     have e2 : (((List.range len).map fun i => mkEl s.sz (A i))[i]'(by simpa using hi)).cells[j]'hj = (A i)[j] := by simp only [e0, hE i hi]
     rw [e2]
     exact this
   rw [ha]
   simpa using key
end
end Go.Proofs.YtcggnmddcbhchaaGreatDoor
set_option linter.unusedSimpArgs false
set_option linter.unusedVariables false
namespace Go.Proofs.YtcggnmddcbhchaaGreatDoor
open Go.ChangeShapes Go.WideShapes Go.ChangeAt Go.RowKit Lim
section
variable {H : Type} {enc : TypeId × Value → H} {P : Program} {w : World} {base : Nat} {spare : Nat → Bool} {held : Bool} {B : Nat}
theorem Stand.app {as' bs' : List AV} {cs ds : List Value} (h1 : Stand w as' cs) (h2 : Stand w bs' ds) : Stand w (as' ++ bs') (cs ++ ds) := by
 refine ⟨by rw [List.length_append, List.length_append, h1.1, h2.1], fun j k1 k2 => ?_⟩
 by_cases hj : j < as'.length
 ·rw [List.getElem_append_left hj, List.getElem_append_left (by rw [← h1.1]; exact hj)]
  exact h1.2 j hj _
 ·have e : cs.length = as'.length := h1.1.symm
  rw [List.getElem_append_right (by omega), List.getElem_append_right (by omega)]
  have := h2.2 (j - as'.length) (by simp at k1; omega) (by simp at k2; omega)
  simpa [e] using this
def OpenF (enc : TypeId × Value → H) (P : Program) (w : World) (base : Nat) (spare : Nat → Bool) (held : Bool) (B : Nat) (s : SH) : Prop :=
 ∀ (fs : List Field) (off n : Nat) (cs : List Value) (xs : List (DataW H × List MemPlace)), (shB P s).2 fs off = true → off + s.sz ≤ cs.length →
  (∀ (i : Nat) (f : Field), fs[i]? = some f → DataW.trod enc P w base spare held n f.type ((cs.drop f.offset).take (P.cellsOf f.type)) = xs[i]?) → xs.length = fs.length →
  Rows.uptoBulkAll (xs.map (·.1)) ≤ B → ∃ as', Ok B s as' ∧ Stand w as' ((cs.drop off).take s.sz)
def OpenT (enc : TypeId × Value → H) (P : Program) (w : World) (base : Nat) (spare : Nat → Bool) (held : Bool) (B : Nat) (s : SH) : Prop :=
 ∀ (t : TypeId) (n : Nat) (cs : List Value) (x : DataW H × List MemPlace), (shB P s).1 t = true → DataW.trod enc P w base spare held n t cs = some x → Rows.uptoBulk x.1 ≤ B → ∃ as', Ok B s as' ∧ Stand w as' cs
theorem openT_struct {s : SH} (hF : OpenF enc P w base spare held B s) {t : TypeId} {fs : Array Field} (hu : P.underlying t = some (.struct fs)) (hs : (shB P s).2 fs.toList 0 = true) (hc : P.cellsOf t = s.sz)
  {n : Nat} {cs : List Value} {x : DataW H × List MemPlace} (h : DataW.trod enc P w base spare held n t cs = some x) (hB : Rows.uptoBulk x.1 ≤ B) : ∃ as', Ok B s as' ∧ Stand w as' cs := by
 obtain ⟨xs, n, rfl, rfl, hl, hx, hf⟩ := DataW.trod_struct hu h
 rw [hc] at hl
 simp only [Rows.uptoBulk] at hB
 obtain ⟨as', h1, h2⟩ := hF fs.toList 0 n cs xs hs (by omega) (fun i f hi => hf i f (by simpa using hi)) (by simpa using hx) (by omega)
 rw [List.drop_zero, List.take_of_length_le (by omega)] at h2
 exact ⟨as', h1, h2⟩
theorem open_sh : ∀ s : SH, OpenT enc P w base spare held B s ∧ OpenF enc P w base spare held B s
 | .int k => ⟨fun t n cs x hs h hB => by
   simp only [shB] at hs
   split at hs
   ·rename_i k' hu
    have hs := of_decide_eq_true hs
    subst hs
    obtain ⟨z, rfl, rfl, hw⟩ := DataW.trod_int hu h
    refine ⟨_, .int (z := z) ?_, Stand.one (.lit rfl)⟩
    simpa [Lit.wf] using hw
   ·exact Bool.noConfusion hs, fun fs off n cs xs hs => by simp [shB] at hs⟩
 | .bool => ⟨fun t n cs x hs h hB => by
   simp only [shB] at hs
   split at hs
   ·rename_i hu
    obtain ⟨b, rfl, rfl⟩ := DataW.trod_bool hu h
    exact ⟨_, .bool (b := b), Stand.one (.lit rfl)⟩
   ·exact Bool.noConfusion hs, fun fs off n cs xs hs => by simp [shB] at hs⟩
 | .str => ⟨fun t n cs x hs h hB => by
   simp only [shB] at hs
   split at hs
   ·rename_i hu
    obtain ⟨b, rfl, rfl, _⟩ := DataW.trod_string hu h
    simp only [Rows.uptoBulk] at hB
    refine ⟨_, .str (l := b.data.toList) (by omega), Stand.one ?_⟩
    have e : bs b.data.toList = b := by cases b; simp [bs]
    show Rep w _ (.lit (.string (bs b.data.toList))) (.string b)
    rw [e]
    exact .lit rfl
   ·exact Bool.noConfusion hs, fun fs off n cs xs hs => by simp [shB] at hs⟩
 | .nat => ⟨fun t n cs x hs h hB => by
   simp only [shB] at hs
   split at hs
   ·rename_i e hu
    split at hs
    ·rename_i he
     obtain ⟨l, v, rfl, h1, h2, h3⟩ := open_nat hu he (by simpa using hs) h hB
     exact ⟨_, .nat h1 h2, Stand.one h3⟩
    ·cases hs
   ·exact Bool.noConfusion hs, fun fs off n cs xs hs => by simp [shB] at hs⟩
 | .sl s => ⟨fun t n cs x hs h hB => by
   simp only [shB] at hs
   split at hs
   ·rename_i e hu
    simp only [Bool.and_eq_true, beq_iff_eq, decide_eq_true_eq] at hs
    exact open_sl hu hs.1.2 hs.2 (fun hy hb => (open_sh s).1 e _ _ _ hs.1.1 hy hb) h hB
   ·exact Bool.noConfusion hs, fun fs off n cs xs hs => by simp [shB] at hs⟩
 | .nil => by
  have hF : OpenF enc P w base spare held B .nil := fun fs off n cs xs hs hl hf hx hb => ⟨[], .nil, by simp [SH.sz], fun j h1 h2 => by simp at h1⟩
  refine ⟨fun t n cs x hs h hB => ?_, hF⟩
  simp only [shB] at hs
  split at hs
  ·rename_i fs hu
   simp only [Bool.and_eq_true, beq_iff_eq] at hs
   exact openT_struct hF hu hs.1 hs.2 h hB
  ·cases hs
 | .cons f r => by
  have hF : OpenF enc P w base spare held B (.cons f r) := fun fs off n cs xs hs hl hf hx hb => by
   cases fs with
   | nil => simp [shB] at hs
   | cons g gs =>
    simp only [shB, Bool.and_eq_true, beq_iff_eq] at hs
    obtain ⟨⟨⟨ho, hg⟩, hc⟩, hr⟩ := hs
    cases xs with
    | nil => simp at hx
    | cons x xs =>
     simp only [List.map_cons, Rows.uptoBulkAll] at hb
     simp only [SH.sz] at hl
     have h0 := hf 0 g rfl
     rw [ho, hc] at h0
     obtain ⟨as1, k1, k2⟩ := (open_sh f).1 g.type n _ x hg h0 (by omega)
     obtain ⟨as2, k3, k4⟩ := (open_sh r).2 gs (off + f.sz) n cs xs hr (by omega) (fun i q hi => hf (i + 1) q (by simpa using hi)) (by simpa using hx) (by omega)
     refine ⟨as1 ++ as2, .cons k1 k3, ?_⟩
     have e : (cs.drop off).take (f.sz + r.sz) = (cs.drop off).take f.sz ++ (cs.drop (off + f.sz)).take r.sz := by
      rw [List.take_add, List.drop_drop]
     show Stand w _ ((cs.drop off).take (f.sz + r.sz))
     rw [e]
     exact k2.app k4
  refine ⟨fun t n cs x hs h hB => ?_, hF⟩
  simp only [shB] at hs
  split at hs
  ·rename_i fs hu
   simp only [Bool.and_eq_true, beq_iff_eq] at hs
   exact openT_struct hF hu hs.1 hs.2 h hB
  ·cases hs
def SH.top : SH → List AV → AV
 | .nil, cs => .agg cs
 | .cons _ _, cs => .agg cs
 | _, cs => cs.headD (.agg [])
theorem stand_top {s : SH} {t : TypeId} {v : Value} {as' : List AV} {r : Reach} (hs : (shB P s).1 t = true) (ho : Ok B s as') (h : Stand w as' v.cells.toList) (hv : Value.okWide P w r base t v) : Rep w (inW w) (s.top as') v := by
 have one : ∀ {a : AV}, as' = [a] → v.cells.toList = [v] → Rep w (inW w) a v := fun {a} e1 e2 => by
  subst e1
  rw [e2] at h
  exact h.2 0 (by simp) (by simp)
 have agg : (∃ cs, v = .agg cs) → Rep w (inW w) (.agg as') v := fun ⟨cs, e⟩ => by
  subst e
  have h' : Stand w as' cs.toList := h
  exact .agg (by have := h'.1; simp at this; omega) fun j hj => by
   have := h'.2 j hj (by have := h'.1; simp at this ⊢; omega)
   simpa using this
 cases ho with
 | int hh =>
  simp only [shB] at hs
  split at hs
  ·rename_i hu
   obtain ⟨n, rfl⟩ := okWide_int hu hv
   exact one rfl rfl
  ·cases hs
 | bool =>
  simp only [shB] at hs
  split at hs
  ·rename_i hu
   obtain ⟨n, rfl⟩ := okWide_bool hu hv
   exact one rfl rfl
  ·cases hs
 | str hh =>
  simp only [shB] at hs
  split at hs
  ·rename_i hu
   obtain ⟨n, rfl⟩ := okWide_string hu hv
   exact one rfl rfl
  ·cases hs
 | nat h1 h2 =>
  simp only [shB] at hs
  split at hs
  ·rename_i hu
   obtain ⟨a, n, c, rfl⟩ := okWide_slice hu hv
   exact one rfl rfl
  ·cases hs
 | sl h1 h2 =>
  simp only [shB] at hs
  split at hs
  ·rename_i hu
   obtain ⟨a, n, c, rfl⟩ := okWide_slice hu hv
   exact one rfl rfl
  ·cases hs
 | nil =>
  simp only [shB] at hs
  split at hs
  ·rename_i hu
   obtain ⟨cs, e, _⟩ := okWide_struct hu hv
   exact agg ⟨cs, e⟩
  ·cases hs
 | cons h1 h2 =>
  simp only [shB] at hs
  split at hs
  ·rename_i hu
   obtain ⟨cs, e, _⟩ := okWide_struct hu hv
   exact agg ⟨cs, e⟩
  ·cases hs
inductive OkA (B : Nat) : List SH → List AV → Prop
 | nil : OkA B [] []
 | cons {s : SH} {ss : List SH} {cs : List AV} {as' : List AV} (h1 : Ok B s cs) (h2 : OkA B ss as') : OkA B (s :: ss) (s.top cs :: as')
def shAll (P : Program) : List SH → List TypeId → Bool
 | [], [] => true
 | s :: ss, t :: ts => (shB P s).1 t && shAll P ss ts
 | _, _ => false
theorem args_open : ∀ (ss : List SH) (ts : List TypeId) (vs : List Value) (ds : List (DataW H)) (p : List MemPlace) (r : Reach) (b : Nat), shAll P ss ts = true → DataW.TrodAll enc P w base spare held ts vs ds p →
  (∀ (j : Nat) (t : TypeId) (v : Value), ts[j]? = some t → vs[j]? = some v → Value.okWide P w r b t v) → Rows.uptoBulkAll ds ≤ B → ∃ as', OkA B ss as' ∧ Stand w as' vs
 | [], [], vs, ds, p, r, b, _, h, _, _ => by
  obtain ⟨rfl, rfl, rfl⟩ := trodAll_nil h
  exact ⟨[], .nil, rfl, fun j h1 => by simp at h1⟩
 | [], t :: ts, _, _, _, _, _, hs, _, _, _ => by simp [shAll] at hs
 | s :: ss, [], _, _, _, _, _, hs, _, _, _ => by simp [shAll] at hs
 | s :: ss, t :: ts, vs, ds, p, r, b, hs, h, hv, hB => by
  obtain ⟨v, vs1, d, ds1, p1, p2, rfl, rfl, rfl, ⟨n, h1⟩, h2⟩ := trodAll_cons h
  simp only [shAll, Bool.and_eq_true] at hs
  simp only [Rows.uptoBulkAll] at hB
  obtain ⟨cs, k1, k2⟩ := (open_sh s).1 t n _ _ hs.1 h1 (show Rows.uptoBulk d ≤ B by omega)
  obtain ⟨as', k3, k4⟩ := args_open ss ts vs1 ds1 p2 r b hs.2 h2 (fun j t v ht hv' => hv (j + 1) t v (by simpa using ht) (by simpa using hv')) (by omega)
  have hr := stand_top hs.1 k1 k2 (hv 0 t v rfl rfl)
  exact ⟨_, .cons k1 k3, (Stand.one hr).app k4⟩
theorem stand_args {as' : List AV} {args : Array Value} (h : Stand w as' args.toList) : Rep w (inW w) (.agg as') (.agg args) :=
 .agg (by have := h.1; simp at this; omega) fun j hj => by
  have := h.2 j hj (by have := h.1; simp at this ⊢; omega)
  simpa using this
end
section
variable {H : Type} {enc : TypeId × Value → H} {P : Program}
theorem stay_all (hl : laidOutB P = true) {W W' : World} (hb : Below W.heap.size W W') : ∀ (ts : List TypeId) (vs : List Value) (ds : List (DataW H)) (p : List MemPlace), ts.all (fun t => P.readableRec t && decide (t < P.types.size)) = true →
  DataW.TrodAll enc P W 0 (fun _ => true) true ts vs ds p → (∀ x ∈ p, x.block < W.heap.size) → ∀ sp : Nat → Bool, (∀ q ∈ p, sp q.block = true) → DataW.TrodAll enc P W' 0 sp true ts vs ds p
 | [], vs, ds, p, _, h, _, sp, _ => by
  obtain ⟨rfl, rfl, rfl⟩ := trodAll_nil h
  exact trodAll_mk0
 | t :: ts, vs, ds, p, ht, h, hlt, sp, hsp => by
  obtain ⟨v, vs1, d, ds1, a, b, rfl, rfl, rfl, h1, h2⟩ := trodAll_cons h
  simp only [List.all_cons, Bool.and_eq_true, decide_eq_true_eq] at ht
  refine trodAll_cons_mk (WideElems.Trod_stays hl ht.1.1 ht.1.2 h1 (fun x hx => hb.same (hlt x (List.mem_append_left _ hx))) (fun x hx => hsp x (List.mem_append_left _ hx))) ?_
  exact stay_all hl hb ts vs1 ds1 b (by simpa using ht.2) h2 (fun x hx => hlt x (List.mem_append_right _ hx)) sp (fun x hx => hsp x (List.mem_append_right _ hx))
theorem law_end (hl : laidOutB P = true) {tb : TypeId} (hu : P.underlying tb = some .bool) {fid : FuncId} {fn : Func} {s : ChangeSpec} {apart : Bool} (hv : s.vars = []) (hres : fn.resultTypes = #[tb]) (hts : fn.params.toList.all (fun t => P.readableRec t && decide (t < P.types.size)) = true)
  {W : World} {args : Array Value} {ds : List (DataW H)} {before : List MemPlace} (hW : DataW.Whole enc P fn.params.toList s.vars apart W args.toList ds [] before)
  (hfn : s.fn H (ds ++ []) = { results := [.lit (.bool true)], args := ds }) (hc : Calls P fid args W fun e W' => e = .returned (.bool true) ∧ Below W.heap.size W W') :
  Calls P fid args W fun e W' => ∃ v, e = .returned v ∧ s.post enc P fn apart true false false W args v W' := by
 have hW' := hW
 obtain ⟨p, q, hA, hV, rfl, hfz, hnd⟩ := hW
 rw [hv] at hV
 obtain ⟨_, rfl⟩ := trodVars_none hV
 refine hc.mono fun e W' ⟨he, hb⟩ => ⟨.bool true, he, ?_⟩
 have hlt : ∀ x ∈ p, x.block < W.heap.size := fun x hx => hW'.lt x (List.mem_append_left _ hx)
 have hl2 : ∀ x ∈ p ++ [], x.block < W.heap.size := fun x hx => hW'.lt x hx
 have hA2 : ∀ sp : Nat → Bool, (∀ x ∈ p, sp x.block = true) → DataW.TrodAll enc P W' 0 sp true fn.params.toList args.toList (s.fn H (ds ++ [])).args p := fun sp h => by
  rw [hfn]
  exact stay_all hl hb _ _ _ _ hts hA hlt sp h
 have hR2 : ∀ b sp hd, DataW.TrodAll enc P W' b sp hd fn.resultTypes.toList ((Value.bool true).resultList fn.resultTypes.size) (s.fn H (ds ++ [])).results [] := fun b sp hd => by
  rw [hfn, hres]
  exact trodAll_cons_mk (shut_bool hu _) trodAll_mk0
 have hV2 : ∀ sp, DataW.TrodVars enc P W' sp s.vars (s.fn H (ds ++ [])).vars [] := fun sp => by
  rw [hfn, hv]
  rfl
 refine ⟨ds, [], p ++ [], [], p, [], hW', hR2 _ _ _, hA2 _ (fun x hx => by simpa using hlt x hx), hV2 _, World.keptBut_mono (fun x hx => ⟨hx, .inr (List.mem_append.1 hx)⟩) (hb.frame (· ∈ p ++ [])), fun _ =>
  ⟨ok_one hres rfl (okWide_bool_mk hu _), _, _, ([] ++ p) ++ [], ⟨[] ++ p, [], trodAll_append (hA2 _ fun _ _ => rfl) (hR2 _ _ _), hV2 _, rfl, fun b off hx => ?_, fun h => by simpa using hnd h⟩, fun x hx _ => by simpa using hx⟩⟩
 have hx2 : MemPlace.cell b off ∈ p ++ [] := by simpa using hx
 rw [hb.frozen (hl2 _ hx2)]
 exact hfz b off hx2
end
theorem ac_calls {fid : FuncId} {avs : List AV} {W : World} {args : Array Value} (hc : AC fid avs (boo true)) (hE : Env W) (hR : Rep W (inW W) (.agg avs) (.agg args)) :
  Calls Tryz.prog fid args W fun e W' => e = .returned (.bool true) ∧ Below W.heap.size W W' := by
 refine (hc.2 W _ args hE (fun _ _ h => h) (fun _ b o v h _ => World.block_lt_of_cell? W _ h) hR).mono fun e W' ⟨v, he, hb, hr⟩ => ⟨?_, hb⟩
 cases hr
 exact he
set_option maxRecDepth 100000 in
theorem law_row {H : Type} {enc : TypeId × Value → H} (hl : laidOutB Tryz.prog = true) {tb : TypeId} (hu : Tryz.prog.underlying tb = some .bool) {fid : FuncId} {fn : Func} {s : ChangeSpec} (hv : s.vars = []) (hres : fn.resultTypes = #[tb]) (hts : fn.params.toList.all (fun t => Tryz.prog.readableRec t && decide (t < Tryz.prog.types.size)) = true)
  (ss : List SH) (hss : shAll Tryz.prog ss fn.params.toList = true) (hfn : ∀ ds : List (DataW H), ds.length = fn.params.toList.length → s.fn H (ds ++ []) = { results := [.lit (.bool true)], args := ds })
  (law : ∀ as', OkA 1048576 ss as' → AC fid as' (boo true))
  {W : World} {base : Nat} {args : Array Value} {ds gs : List (DataW H)} {before : List MemPlace} (hval : ∀ (j : Nat) t v, fn.params[j]? = some t → args[j]? = some v → Value.okWide Tryz.prog W .any base t v)
  (hW : DataW.Whole enc Tryz.prog fn.params.toList s.vars false W args.toList ds gs before) (hE : Env W) (hsm : Rows.uptoSmall H (ds ++ gs) = true) :
  Calls Tryz.prog fid args W fun e W' => ∃ v, e = .returned v ∧ s.post enc Tryz.prog fn false true false false W args v W' := by
 have hW' := hW
 obtain ⟨p, q, hA, hV, rfl, hfz, hnd⟩ := hW
 rw [hv] at hV
 obtain ⟨rfl, rfl⟩ := trodVars_none hV
 simp only [Rows.uptoSmall, List.append_nil, decide_eq_true_eq] at hsm
 obtain ⟨as', k1, k2⟩ := args_open ss _ _ _ _ .any base hss hA (fun j t v ht hv' => hval j t v (by simpa using ht) (by simpa using hv')) hsm
 have hlen : ds.length = fn.params.toList.length := by
  have : ∀ (ts : List TypeId) (vs : List Value) (ds : List (DataW H)) (p : List MemPlace), DataW.TrodAll enc Tryz.prog W 0 (fun _ => true) true ts vs ds p → ds.length = ts.length := by
   intro ts
   induction ts with
   | nil => intro vs ds p h; obtain ⟨rfl, rfl, rfl⟩ := trodAll_nil h; rfl
   | cons t ts ih =>
    intro vs ds p h
    obtain ⟨v, vs1, d, ds1, p1, p2, rfl, rfl, rfl, _, h2⟩ := trodAll_cons h
    rw [List.length_cons, List.length_cons, ih _ _ _ h2]
  exact this _ _ _ _ hA
 exact law_end hl hu hv hres hts hW' (hfn ds hlen) (ac_calls (law as' k1) hE (stand_args k2))
end Go.Proofs.YtcggnmddcbhchaaGreatDoor
set_option linter.unusedSimpArgs false
set_option linter.unusedVariables false
namespace Go.Proofs.YtcggnmddcbhchaaGreatDoor
open Go.RowKit Lim
theorem E_calls {n : Nat} {f : FuncId} {args : List V} {g : Sig} {x : denL g.ts} (h : EF fuel n f args g = some x) (hp : args.all V.plain = true) : AC f (args.map V.av) (resO g x) := by
 rcases (ev_sound evw_ok n).a f args g x hp h with h | h
 ·exact h.ofT
 ·exact h
section
variable {B : Nat} {cs : List AV}
theorem Ok.s (h : Ok B .str cs) : ∃ l : List UInt8, cs = [Go.Proofs.YtcggnmddcbhchaaGreatDoor.str l] ∧ l.length ≤ B := by cases h; exact ⟨_, rfl, by assumption⟩
structure Res.Small (r : Res) : Prop where
 ok : r.OK
 l1 : r.m.a.length ≤ 1048576
 l2 : r.m.b.length ≤ 1048576
 l3 : r.v.a.length ≤ 1048576
 l4 : r.v.b.length ≤ 1048576
theorem okA_one {s : SH} {as' : List AV} (h : OkA B [s] as') : ∃ a, as' = [s.top a] ∧ Ok B s a := by
 cases h with | cons h1 h2 => cases h2; exact ⟨_, rfl, h1⟩
end
end Go.Proofs.YtcggnmddcbhchaaGreatDoor
set_option linter.unusedSimpArgs false
set_option linter.unusedVariables false
namespace Go.Proofs.YtcggnmddcbhchaaGreatDoor
open Go.RowKit Lim
section
variable (n : Nat)
end
end Go.Proofs.YtcggnmddcbhchaaGreatDoor
set_option linter.unusedSimpArgs false
set_option linter.unusedVariables false
namespace Go.Proofs.YtcggnmddcbhchaaGreatDoor
open Go.RowKit Lim
section
variable (n : Nat)
theorem r56ratio_e (s : List UInt8) (hs : s.length ≤ 4294967280) : EF fuel (n + 5) 87 [vS s] [.agg [.bool, .nat, .nat], .c (.int .i64)] = some (bif ratPE s == 0 then ((ratQ s).t, (ratQ s).a, (ratQ s).b, 0, ()) else (false, [], [], ratPE s, ())) := by
 refine (ref56_ratio_m (n + 4) s).trans ?_
 rw [bind_go (r03Parse_e n s hs)]
 unfold ratPE
 cases h : ratE s == 0
 ·rw [cond_false, cond_false]
  dsimp only
  rw [show (ratE s != 0) = !(ratE s == 0) from rfl, h]
  rfl
 ·have h0 := eq_of_beq h
  rw [cond_true, cond_true]
  dsimp only
  rw [bne_self_eq_false, cond_false, bind_go (r3print_e n (ratQ s) (ratQ_ok h0) (rat_fit h0))]
  dsimp only
  cases (ratQ s).tx == s <;> rfl
theorem r56reas_e (s : List UInt8) : EF fuel (n + 2) 88 [vS s] [.c (.int .i64), .c (.int .i64)] = some ((bif decide (firstR s < 5) then (firstR s : Int) else 0), reasE s, ()) := by
 refine (ref56_reason_m (n + 1) s).trans ?_
 have h5 := firstR_le s
 refine congrArg (a₂ := some (Ans.ret (((bif decide (firstR s < 5) then (firstR s : Int) else 0), reasE s, ()) : denL [tI, tI]))) unwrapA ?_
 refine loopA_range (R := denL [tI, tI]) (ts := [tI, tI, tI]) (N := firstR s) (fun k => ((k : Int), 0, 0, ())) (fun k hk => ?_) ?_ rfl (fuel_lt (by omega))
 ·dsimp only
  rw [decide_eq_true (show (k : Int) ≤ 4 by omega), cond_true, bind_go (r56reason_e n _)]
  dsimp only
  rw [Bool.beq_comm, firstR_no s k hk, cond_false, w64n (by omega)]
 ·dsimp only
  unfold reasE
  by_cases h : firstR s < 5
  ·rw [decide_eq_true (show ((firstR s : Nat) : Int) ≤ 4 by omega), cond_true, bind_go (r56reason_e n _), decide_eq_true h]
   dsimp only
   rw [← firstR_yes s h, beq_self_eq_true]
   rfl
  ·rw [decide_eq_false (show ¬ ((firstR s : Nat) : Int) ≤ 4 by omega), cond_false, decide_eq_false h]
   rfl
theorem r09num_e (s : List UInt8) (hs : s.length ≤ 14) : EF fuel (n + 1) 195 [vS s] [.c (.int .i64)] = some ((bif s.all isD then (valD s : Int) else -1), ()) := by
 refine (ref09_number_m n s).trans ?_
 refine congrArg (a₂ := some (Ans.ret (((bif s.all isD then (valD s : Int) else -1), ()) : denL [tI]))) unwrapA ?_
 refine loopA_inv (R := denL [tI]) (ts := [tI, tI, tI]) (fun x => ∃ k, k ≤ s.length ∧ x = ((k : Int), ((valD (s.take k) : Nat) : Int), 0, ()) ∧ (s.take k).all isD = true) (fun (x : Int × Int × Int × Unit) => s.length - x.1.toNat) (fun x hx => ?_) _ ⟨0, by omega, rfl, by simp⟩ (fuel_lt (by omega))
 obtain ⟨k, hk, rfl, ha⟩ := hx
 dsimp only
 by_cases hk2 : k = s.length
 ·subst hk2
  rw [List.take_length] at ha
  exact .inl ⟨by rw [dge (Nat.le_refl _), cond_false, List.take_length, ha, cond_true], rfl⟩
 ·have hk3 : k < s.length := by omega
  cases hd : isD s[k] with
  | false =>
   refine .inl ⟨?_, rfl⟩
   rw [all_at hk3 hd, cond_false, dlt hk3, cond_true, ix_lt hk3, Option.bind_some]
   rcases not_digit hd with h | ⟨h, h2⟩
   ·rw [decide_eq_true h]; rfl
   ·rw [decide_eq_false h, cond_false, Option.bind_some, decide_eq_true h2]; rfl
  | true =>
   obtain ⟨h1, h2⟩ := digit_int hd
   have hd2 := isD_rng.1 hd
   have hv : valD (s.take k) < 10 ^ 14 := by
    refine Nat.lt_of_lt_of_le (valD_low _ _ rfl ha) (Nat.pow_le_pow_right (by omega) ?_)
    rw [List.length_take]; omega
   refine .inr ⟨_, ?_, ⟨k + 1, by omega, rfl, takeD_all hk3 ha hd⟩, ?_⟩
   ·have e8 : IntKind.u8.wrap ((s[k].toNat : Int) - 48) = ((s[k].toNat - 48 : Nat) : Int) := by
     simp [IntKind.wrap, IntKind.bits, IntKind.signed]
     omega
    rw [dlt hk3, cond_true, ix_lt hk3, Option.bind_some, decide_eq_false (by rw [h1]; exact id), cond_false, Option.bind_some, decide_eq_false (by rw [h2]; exact id), cond_false, Option.bind_some, w64n (by omega), e8]
    rw [w64 (z := ((s[k].toNat - 48 : Nat) : Int)) (by omega) (by omega), w64 (z := 10 * ((valD (s.take k) : Nat) : Int)) (by omega) (by omega), w64 (z := 10 * ((valD (s.take k) : Nat) : Int) + ((s[k].toNat - 48 : Nat) : Int)) (by omega) (by omega), takeD_val hk3]
    have ec : ((valD (s.take k) * 10 + (s[k].toNat - 48) : Nat) : Int) = 10 * ((valD (s.take k) : Nat) : Int) + ((s[k].toNat - 48 : Nat) : Int) := by
     rw [Int.natCast_add (valD (s.take k) * 10), Int.natCast_mul, Int.mul_comm]
     rfl
    rw [ec]
   ·show s.length - ((k + 1 : Nat) : Int).toNat < s.length - (k : Int).toNat
    omega
theorem prefix_g (i : Nat) (hi : i < 6) : EF fuel (n + 1) 65 [vI ((i + 1 : Nat) : Int)] gS = some (pre6.getD i [], ()) := by
 rcases (show i = 0 ∨ i = 1 ∨ i = 2 ∨ i = 3 ∨ i = 4 ∨ i = 5 by omega) with rfl | rfl | rfl | rfl | rfl | rfl
 ·exact ref09_prefix_m n 1
 ·exact ref09_prefix_m n 2
 ·exact ref09_prefix_m n 3
 ·exact ref09_prefix_m n 4
 ·exact ref09_prefix_m n 5
 ·exact ref09_prefix_m n 6
theorem pre_ne {i : Nat} (hi : i < 6) : (pre6.getD i [] == []) = false := by
 rcases (show i = 0 ∨ i = 1 ∨ i = 2 ∨ i = 3 ∨ i = 4 ∨ i = 5 by omega) with rfl | rfl | rfl | rfl | rfl | rfl <;> rfl
theorem r09check_g (k c : Int) (k1 : 1 ≤ k) (k6 : k ≤ 6) (c1 : 1 ≤ c) (c9 : c ≤ 9999999) : EF fuel (n + 2) 64 [vI k, vI c] [.c (.int .i64), .c (.int .i64)] = some (ckI k c, 0, ()) := by
 refine (ref09_Check_m (n + 1) k c).trans ?_
 obtain ⟨i, hi⟩ : ∃ i : Nat, k = ((i + 1 : Nat) : Int) := ⟨(k - 1).toNat, by omega⟩
 have h6 : i < 6 := by omega
 have hp : EF fuel (n + 1) 65 [vI k] [.c tS] = some (pre6.getD i [], ()) := by rw [hi]; exact prefix_g n i h6
 have h3 := tmod97 ((k * 10000000 + c) * 100)
 rw [bind_go hp]
 dsimp only
 rw [pre_ne h6, cond_false, decide_eq_false (show ¬ c < 1 by omega), cond_false, decide_eq_false (show ¬ 9999999 < c by omega), cond_false, w64 (z := k * 10000000) (by omega) (by omega), w64 (z := k * 10000000 + c) (by omega) (by omega), w64 (z := (k * 10000000 + c) * 100) (by omega) (by omega), w64 (z := 98 - ((k * 10000000 + c) * 100).tmod 97) (by omega) (by omega)]
 rfl
theorem r09Parse_e (s : List UInt8) (hs : s.length ≤ 4294967296) : EF fuel (n + 3) 146 [vS s] [.c (.int .i64), .c (.int .i64), .c (.int .i64)] = some (identE s) := by
 refine (ref09_Parse_m (n + 2) s).trans ?_
 by_cases h : s.length = 14
 ·obtain ⟨s0, s1, s2, s3, s4, s5, s6, s7, s8, s9, s10, s11, s12, s13, rfl⟩ := len14 h
  rw [show (((([s0, s1, s2, s3, s4, s5, s6, s7, s8, s9, s10, s11, s12, s13] : List UInt8).length : Nat) : Int) != 14) = false from rfl, cond_false, show ix [s0, s1, s2, s3, s4, s5, s6, s7, s8, s9, s10, s11, s12, s13] 3 = some s3 from rfl, Option.bind_some, c45]
  unfold identE
  dsimp only
  cases h3 : s3 == 45
  case false => rfl
  rw [Bool.not_true, cond_false, cond_false, show ix [s0, s1, s2, s3, s4, s5, s6, s7, s8, s9, s10, s11, s12, s13] 11 = some s11 from rfl, Option.bind_some, c45]
  cases h11 : s11 == 45
  case false => rfl
  rw [Bool.not_true, cond_false, cond_false]
  have q1 : sub [s0, s1, s2, s3, s4, s5, s6, s7, s8, s9, s10, s11, s12, s13] 0 3 = some [s0, s1, s2] := rfl
  have q2 : sub [s0, s1, s2, s3, s4, s5, s6, s7, s8, s9, s10, s11, s12, s13] 4 11 = some [s4, s5, s6, s7, s8, s9, s10] := rfl
  have q3 : sub [s0, s1, s2, s3, s4, s5, s6, s7, s8, s9, s10, s11, s12, s13] 12 (([s0, s1, s2, s3, s4, s5, s6, s7, s8, s9, s10, s11, s12, s13] : List UInt8).length : Int) = some [s12, s13] := rfl
  have kr := kindAt_rng [s0, s1, s2] 6
  have n7 := valD7 (s := [s4, s5, s6, s7, s8, s9, s10]) rfl
  have l7 : ([s4, s5, s6, s7, s8, s9, s10] : List UInt8).length ≤ 14 := by show 7 ≤ 14; omega
  have l2 : ([s12, s13] : List UInt8).length ≤ 14 := by show 2 ≤ 14; omega
  rw [q1, q2, q3]
  have hk : kindOf [s0, s1, s2] = kindAt [s0, s1, s2] 6 := rfl
  rw [hk]
  generalize hy : [s0, s1, s2] = y at *
  generalize [s4, s5, s6, s7, s8, s9, s10] = a at *
  generalize [s12, s13] = b at *
  generalize hr : (bif kindAt y 6 == 0 then ((0, 0, 2, ()) : Int × Int × Int × Unit) else bif !(a.all isD) then (0, 0, 2, ()) else bif !(b.all isD) then (0, 0, 2, ()) else bif decide (valD a = 0) then (0, 0, 3, ()) else bif !decide ((valD b : Int) = ckI (kindAt y 6) (valD a)) then (0, 0, 12, ()) else (kindAt y 6, (valD a : Int), 0, ())) = r
  refine congrArg (a₂ := some (Ans.ret (r : denL [tI, tI, tI]))) unwrapA ?_
  refine loopA_range (R := denL [tI, tI, tI]) (ts := [tI, tI]) (N := 6) (fun i => (((i + 1 : Nat) : Int), kindAt y i, ())) (fun i hi => ?_) ?_ rfl (fuel_lt (by omega))
  ·dsimp only
   rw [decide_eq_true (show ((i + 1 : Nat) : Int) ≤ 6 by omega), cond_true, bind_go (prefix_g (n + 1) i hi), Option.bind_some, w64n (by omega), kindAt_succ]
   dsimp only
   rw [Bool.beq_comm]
   cases y == pre6.getD i [] <;> rfl
  ·dsimp only
   rw [decide_eq_false (show ¬ ((6 + 1 : Nat) : Int) ≤ 6 by omega), cond_false, Option.bind_some, bind_go (r09num_e (n + 1) a l7), Option.bind_some, bind_go (r09num_e (n + 1) b l2)]
   dsimp only
   rw [← hr]
   cases hk0 : kindAt y 6 == 0
   case true => rfl
   rw [cond_false, cond_false]
   cases ha : a.all isD
   case false => rfl
   rw [cond_true, Bool.not_true, cond_false, decide_eq_false (show ¬ ((valD a : Nat) : Int) < 0 by omega), cond_false]
   cases hb : b.all isD
   case false => rfl
   rw [cond_true, Bool.not_true, cond_false, decide_eq_false (show ¬ ((valD b : Nat) : Int) < 0 by omega), cond_false]
   have e0 : (((valD a : Nat) : Int) == 0) = decide (valD a = 0) := by
    rw [Bool.eq_iff_iff, beq_iff_eq, decide_eq_true_iff]; omega
   rw [e0]
   have n7 := n7 ha
   cases h0 : decide (valD a = 0)
   case true => rfl
   have h0 := of_decide_eq_false h0
   have hk1 : 1 ≤ kindAt y 6 := by
    have : kindAt y 6 ≠ 0 := fun e => by rw [e] at hk0; cases hk0
    omega
   rw [cond_false, cond_false, bind_go (r09check_g n (kindAt y 6) (valD a) hk1 (by omega) (by omega) (by omega))]
   dsimp only
   have e1 : (((valD b : Nat) : Int) != ckI (kindAt y 6) (valD a)) = !decide (((valD b : Nat) : Int) = ckI (kindAt y 6) (valD a)) := by
    rw [bne]
    congr 1
   rw [e1]
   cases decide (((valD b : Nat) : Int) = ckI (kindAt y 6) (valD a)) <;> rfl
 ·have : ((s.length : Int) != 14) = true := by
   rw [bne_iff_ne]; omega
  rw [this, cond_true, identE_not h]
  rfl
theorem r56cand_e (s : List UInt8) (hs : s.length ≤ 4294967296) : EF fuel (n + 4) 85 [vS s] [.c (.int .i64), .c (.int .i64)] = some ((bif candE s == 0 then (identE s).2.1 else 0), candE s, ()) := by
 refine (ref56_candidate_m (n + 3) s).trans ?_
 rw [bind_go (r09Parse_e n s hs)]
 unfold candE
 cases h : (identE s).2.2.1 != 0
 ·rw [cond_false, cond_false]
  cases h2 : (identE s).1 != 3 <;> rfl
 ·rw [cond_true, cond_true]
  rw [show ((identE s).2.2.1 == 0) = !((identE s).2.2.1 != 0) by rw [bne, Bool.not_not], h]
  rfl
end
end Go.Proofs.YtcggnmddcbhchaaGreatDoor
set_option linter.unusedSimpArgs false
set_option linter.unusedVariables false
namespace Go.Proofs.YtcggnmddcbhchaaGreatDoor
open Go.RowKit Lim
def fullS (c : UInt8) (s : List UInt8) : List (List UInt8) := splN c s s.length
theorem fullS_cut {c : UInt8} {x r : List UInt8} (h : c ∉ x) : fullS c (x ++ c :: r) = x :: fullS c r := by
 unfold fullS
 rw [show (x ++ c :: r).length = (x.length + r.length) + 1 by simp; omega, splN_cut _ x h, splN_many c r (x.length + r.length) (by omega)]
theorem fullS_one {c : UInt8} {x : List UInt8} (h : c ∉ x) : fullS c x = [x] := splN_one x _ h
theorem at_cases (c : UInt8) (s : List UInt8) : c ∉ s ∨ ∃ x r, s = x ++ c :: r ∧ c ∉ x := by
 rcases splN_head (c := c) s 0 with ⟨_, h⟩ | ⟨x, r, h1, h2, _⟩
 ·exact .inl h
 ·exact .inr ⟨x, r, h1, h2⟩
theorem fullS_pos (c : UInt8) (s : List UInt8) : 0 < (fullS c s).length := by
 rcases at_cases c s with h | ⟨x, r, rfl, h⟩
 ·rw [fullS_one h]; simp
 ·rw [fullS_cut h]; simp
theorem splN_full (c : UInt8) : ∀ (k : Nat) (s : List UInt8), ((fullS c s).length ≤ k + 1 → splN c s k = fullS c s) ∧ (k + 1 < (fullS c s).length → (splN c s k).length = k + 1)
 | 0, s => by
  rw [splN_zero]
  rcases at_cases c s with h | ⟨x, r, rfl, h⟩
  ·rw [fullS_one h]
   exact ⟨fun _ => rfl, fun _ => rfl⟩
  ·rw [fullS_cut h]
   have := fullS_pos c r
   exact ⟨fun hl => by simp only [List.length_cons] at hl; omega, fun _ => rfl⟩
 | k + 1, s => by
  rcases at_cases c s with h | ⟨x, r, rfl, h⟩
  ·rw [fullS_one h, splN_one s _ h]
   exact ⟨fun _ => rfl, fun hl => by simp at hl⟩
  ·obtain ⟨h1, h2⟩ := splN_full c k r
   rw [fullS_cut h, splN_cut k x h]
   exact ⟨fun hl => by rw [h1 (by simp only [List.length_cons] at hl; omega)], fun hl => by
    simp only [List.length_cons] at hl ⊢
    rw [h2 (by omega)]⟩
theorem split_same (c : UInt8) (s : List UInt8) (k : Nat) : (splN c s k = fullS c s) ∨ ((splN c s k).length ≠ k ∧ (fullS c s).length ≠ k) := by
 obtain ⟨h1, h2⟩ := splN_full c k s
 by_cases h : (fullS c s).length ≤ k + 1
 ·exact .inl (h1 h)
 ·exact .inr ⟨by rw [h2 (by omega)]; omega, by omega⟩
theorem fullS_len (c : UInt8) (s : List UInt8) : (fullS c s).length ≤ s.length + 1 := splN_len c s _
theorem mem_snoc {c b : UInt8} {m : List UInt8} (h1 : c ∉ m) (h2 : b ≠ c) : c ∉ m ++ [b] := fun h => by
 rcases List.mem_append.1 h with h | h
 ·exact h1 h
 ·simp at h; exact h2 h.symm
theorem split_all (n : Nat) (c : UInt8) (s : List UInt8) (hs : s.length ≤ 4294967280) : EF fuel (n + 1) 39 [vS s, .o (.c ⟨.int .u8, (c.toNat : Int)⟩)] [.c (.sl 1 .str)] = some (fullS c s, ()) := by
 refine (ref56_split_m n s (c.toNat : Int)).trans ?_
 refine congrArg (a₂ := some (Ans.ret ((fullS c s, ()) : denL [VT.sl 1 tS]))) unwrapA ?_
 have hfl := fullS_len c s
 refine loopA_inv (R := denL [VT.sl 1 tS]) (ts := [tI, tI, VT.sl 1 tS]) (fun x => ∃ (i f : Nat) (l : List (List UInt8)), x = ((i : Int), (f : Int), l, ()) ∧ ((i ≤ s.length ∧ f ≤ i ∧ c ∉ (s.take i).drop f ∧ l ++ fullS c (s.drop f) = fullS c s) ∨ (i = s.length + 1 ∧ l = fullS c s))) (fun (x : Int × Int × List (List UInt8) × Unit) => s.length + 1 - x.1.toNat) (fun x hx => ?_) _ ⟨0, 0, [], rfl, .inl ⟨Nat.zero_le _, Nat.le_refl _, by simp, rfl⟩⟩ (fuel_lt (by omega))
 obtain ⟨i, f, l, rfl, hI⟩ := hx
 dsimp only
 rcases hI with ⟨hi, hf, hno, hl⟩ | ⟨rfl, rfl⟩
 ·have hll : l.length ≤ s.length + 1 := by
   have := congrArg List.length hl
   rw [List.length_append] at this
   omega
  have hsub : sub s (f : Int) (i : Int) = some ((s.take i).drop f) := sub_le hf hi
  have hcap : capB (l.length + [(s.take i).drop f].length) 16 = true := capB_le (by simp only [List.length_cons, List.length_nil]; omega)
  have mu : s.length + 1 - ((i + 1 : Nat) : Int).toNat < s.length + 1 - (i : Int).toNat := by omega
  rw [decide_eq_true (show (i : Int) ≤ (s.length : Int) by omega), cond_true]
  by_cases hie : i = s.length
  ·subst hie
   refine .inr ⟨(((s.length + 1 : Nat) : Int), ((s.length + 1 : Nat) : Int), l ++ [(s.take s.length).drop f], ()), ?_, ⟨s.length + 1, s.length + 1, _, rfl, .inr ⟨rfl, ?_⟩⟩, mu⟩
   ·rw [beq_self_eq_true, cond_true, hsub, Option.bind_some, hcap, cond_true, w64n (by omega)]
   ·rw [List.take_length] at hno ⊢
    rw [← hl, fullS_one hno]
  ·have hi2 : i < s.length := by omega
   have hdrop : s.drop f = (s.take i).drop f ++ s[i] :: s.drop (i + 1) := by
    have h1 : s = s.take i ++ s[i] :: s.drop (i + 1) := by
     rw [← List.drop_eq_getElem_cons hi2]
     exact (List.take_append_drop i s).symm
    have h2 : (s.take i ++ s[i] :: s.drop (i + 1)).drop f = (s.take i).drop f ++ s[i] :: s.drop (i + 1) := List.drop_append_of_le_length (by simp; omega)
    rw [← h2, ← h1]
   have ec : ((s[i].toNat : Int) == (c.toNat : Int)) = (s[i] == c) := by
    rw [Bool.eq_iff_iff, beq_iff_eq, beq_iff_eq]
    exact ⟨fun h => UInt8.toNat_inj.1 (by omega), fun h => by rw [h]⟩
   rw [show (((i : Nat) : Int) == (s.length : Int)) = false by rw [beq_eq_false_iff_ne]; omega, cond_false, ix_lt hi2, Option.bind_some, ec]
   cases hc : s[i] == c
   ·refine .inr ⟨(((i + 1 : Nat) : Int), (f : Int), l, ()), ?_, ⟨i + 1, f, l, rfl, .inl ⟨by omega, by omega, ?_, hl⟩⟩, mu⟩
    ·rw [cond_false, w64n (by omega)]
    ·rw [List.take_add_one, List.getElem?_eq_getElem hi2, List.drop_append_of_le_length (by simp; omega)]
     exact mem_snoc hno (by rw [beq_eq_false_iff_ne] at hc; exact hc)
   ·have hc := eq_of_beq hc
    refine .inr ⟨(((i + 1 : Nat) : Int), ((i + 1 : Nat) : Int), l ++ [(s.take i).drop f], ()), ?_, ⟨i + 1, i + 1, _, rfl, .inl ⟨by omega, Nat.le_refl _, ?_, ?_⟩⟩, mu⟩
    ·rw [cond_true, hsub, Option.bind_some, hcap, cond_true, w64n (by omega)]
    ·rw [List.drop_eq_nil_of_le (by rw [List.length_take]; omega)]
     simp
    ·rw [← hl, hdrop, hc, fullS_cut hno]
     simp
 ·refine .inl ⟨?_, rfl⟩
  rw [decide_eq_false (show ¬ ((s.length + 1 : Nat) : Int) ≤ (s.length : Int) by omega), cond_false]
theorem wloop2 {R : Type} {f w : List (List UInt8)} {bad fin : Option (Ans R)} {u v : R} {a : List (List UInt8)} (hl : w.length = f.length) (hf : f.length ≤ 100) (hb : bad = some (.ret u)) (hfin : okW f w = true → fin = some (.ret v)) :
  loopA 0 [VT.sl 1 tS, tI, tI] (fun x => bif decide (x.2.1 < (Nat.cast (R := Int) (List.length f))) then (ix f x.2.1).bind fun y => bif !y == [] then (ix w x.2.1).bind fun y_1 => bif !y_1 == y then bad else some (.cont 0 [VT.sl 1 tS, tI, tI] (x.1, IntKind.i64.wrap (x.2.1 + 1), x.2.2.1, ())) else some (.cont 0 [VT.sl 1 tS, tI, tI] (x.1, IntKind.i64.wrap (x.2.1 + 1), x.2.2.1, ())) else fin) fuel (a, 0, 0, ()) = some (.ret (bif okW f w then v else u)) := by
 refine loopA_inv (ts := [VT.sl 1 tS, tI, tI]) (fun x => ∃ k, k ≤ f.length ∧ x = (a, (k : Int), 0, ()) ∧ okW (f.drop k) (w.drop k) = okW f w) (fun (x : List (List UInt8) × Int × Int × Unit) => f.length - x.2.1.toNat) (fun x hx => ?_) _ ⟨0, by omega, rfl, rfl⟩ (fuel_lt (by omega))
 obtain ⟨k, hk, rfl, ha⟩ := hx
 dsimp only
 by_cases hk2 : k = f.length
 ·subst hk2
  have : okW f w = true := by
   rw [← ha, List.drop_length]
   cases w.drop f.length <;> rfl
  exact .inl ⟨by rw [dge (Nat.le_refl _), cond_false, hfin this, this]; rfl, rfl⟩
 ·have hk3 : k < f.length := by omega
  have hk4 : k < w.length := by omega
  rw [List.drop_eq_getElem_cons hk3, List.drop_eq_getElem_cons hk4] at ha
  have ha : ((f[k] == [] || w[k] == f[k]) && okW (f.drop (k + 1)) (w.drop (k + 1))) = okW f w := ha
  have mu : f.length - ((k + 1 : Nat) : Int).toNat < f.length - (k : Int).toNat := by omega
  rw [dlt hk3, cond_true, ix_lt hk3, Option.bind_some]
  cases h1 : f[k] == []
  ·rw [h1, Bool.false_or] at ha
   rw [Bool.not_false, cond_true, ix_lt hk4, Option.bind_some]
   cases h2 : w[k] == f[k]
   ·rw [h2, Bool.false_and] at ha
    exact .inl ⟨by rw [Bool.not_false, cond_true, hb, ← ha]; rfl, rfl⟩
   ·rw [h2, Bool.true_and] at ha
    exact .inr ⟨_, by rw [Bool.not_true, cond_false, w64n (by omega)], ⟨k + 1, by omega, rfl, ha⟩, mu⟩
  ·rw [h1, Bool.true_or, Bool.true_and] at ha
   exact .inr ⟨_, by rw [Bool.not_true, cond_false, w64n (by omega)], ⟨k + 1, by omega, rfl, ha⟩, mu⟩
theorem ne_cast (a b : Nat) : ((a : Int) != (b : Int)) = !(a == b) := by
 rw [bne, show ((a : Int) == (b : Int)) = (a == b) by rw [Bool.eq_iff_iff, beq_iff_eq, beq_iff_eq]; omega]
theorem words_e (n : Nat) (s : List UInt8) (hs : s.length ≤ 4294967280) (f : List (List UInt8)) (hf : f.length ≤ 100) : EF fuel (n + 2) 84 [vS s, .o (.c ⟨.sl 1 .str, f⟩)] [.c (.sl 1 .str), .c (.int .i64)] = some (bif ((fullS 32 s).length == f.length) && okW f (fullS 32 s) then (fullS 32 s, 0, ()) else ([], 2, ())) := by
 refine (ref56_words_m (n + 1) s f).trans ?_
 have hsp : EF fuel (n + 1) 39 [vS s, .o (.c ⟨.int .u8, 32⟩)] [.c (.sl 1 .str)] = some (fullS 32 s, ()) := split_all n 32 s hs
 rw [bind_go hsp]
 dsimp only
 have e := ne_cast (fullS 32 s).length f.length
 rw [e]
 cases h : (fullS 32 s).length == f.length
 ·rw [Bool.not_false, cond_true, Bool.false_and, cond_false]
  rfl
 ·rw [Bool.not_true, cond_false, Bool.true_and]
  refine (congrArg unwrapA (wloop2 (f := f) (w := fullS 32 s) (u := (([], 2, ()) : denL [VT.sl 1 tS, tI])) (v := (fullS 32 s, 0, ())) (a := []) (eq_of_beq h) hf rfl (fun _ => rfl))).trans ?_
  cases okW f (fullS 32 s) <;> rfl
end Go.Proofs.YtcggnmddcbhchaaGreatDoor
set_option linter.unusedSimpArgs false
set_option linter.unusedVariables false
namespace Go.Proofs.YtcggnmddcbhchaaGreatDoor
open Go.RowKit Lim
theorem fullS_mem (c : UInt8) (s x : List UInt8) (h : x ∈ fullS c s) : x.length ≤ s.length := splN_mem c s _ x h
abbrev f0 : List (List UInt8) := [[99, 97, 110, 100, 105, 100, 97, 116, 101], []]
theorem words0 (s : List UInt8) (p : PS) : ((((fullS 32 s).length == f0.length) && okW f0 (fullS 32 s)) = false ∧ line0 s p = (2, p)) ∨ ((((fullS 32 s).length == f0.length) && okW f0 (fullS 32 s)) = true ∧ ∃ b, fullS 32 s = [[99, 97, 110, 100, 105, 100, 97, 116, 101], b] ∧ line0 s p = ((candE b, ⟨(bif candE b == 0 then (identE b).2.1 else p.c), p.r⟩))) := by
 unfold line0
 rcases split_same 32 s 2 with h | ⟨h1, h2⟩
 ·rw [h]
  by_cases hl : (fullS 32 s).length = 2
  ·obtain ⟨a, b, e⟩ := w2 hl
   rw [e]
   dsimp only
   have ek : okW f0 [a, b] = (a == [99, 97, 110, 100, 105, 100, 97, 116, 101]) := by simp [okW]
   rw [ek]
   cases hc : (a == [99, 97, 110, 100, 105, 100, 97, 116, 101])
   ·exact .inl ⟨by rw [Bool.and_false], rfl⟩
   ·refine .inr ⟨rfl, ?_⟩
    have ha := hc
    have ha := eq_of_beq ha
    subst ha
    exact ⟨b, rfl, rfl⟩
  ·refine .inl ⟨?_, ?_⟩
   ·have : ((fullS 32 s).length == f0.length) = false := by rw [beq_eq_false_iff_ne]; exact hl
    rw [this]; rfl
   ·split
    ·rename_i e; rw [e] at hl; exact absurd rfl hl
    ·rfl
 ·refine .inl ⟨?_, ?_⟩
  ·have : ((fullS 32 s).length == f0.length) = false := by rw [beq_eq_false_iff_ne]; exact h2
   rw [this]; rfl
  ·split
   ·rename_i e; rw [e] at h1; exact absurd rfl h1
   ·rfl
abbrev f1 : List (List UInt8) := [[115, 99, 111, 114, 101], []]
theorem words1 (s : List UInt8) (p : PS) : ((((fullS 32 s).length == f1.length) && okW f1 (fullS 32 s)) = false ∧ line1 s p = (2, p)) ∨ ((((fullS 32 s).length == f1.length) && okW f1 (fullS 32 s)) = true ∧ ∃ b, fullS 32 s = [[115, 99, 111, 114, 101], b] ∧ line1 s p = ((numE b, ⟨p.c, (bif numE b == 0 then { p.r with sc := intV b } else p.r)⟩))) := by
 unfold line1
 rcases split_same 32 s 2 with h | ⟨h1, h2⟩
 ·rw [h]
  by_cases hl : (fullS 32 s).length = 2
  ·obtain ⟨a, b, e⟩ := w2 hl
   rw [e]
   dsimp only
   have ek : okW f1 [a, b] = (a == [115, 99, 111, 114, 101]) := by simp [okW]
   rw [ek]
   cases hc : (a == [115, 99, 111, 114, 101])
   ·exact .inl ⟨by rw [Bool.and_false], rfl⟩
   ·refine .inr ⟨rfl, ?_⟩
    have ha := hc
    have ha := eq_of_beq ha
    subst ha
    exact ⟨b, rfl, rfl⟩
  ·refine .inl ⟨?_, ?_⟩
   ·have : ((fullS 32 s).length == f1.length) = false := by rw [beq_eq_false_iff_ne]; exact hl
    rw [this]; rfl
   ·split
    ·rename_i e; rw [e] at hl; exact absurd rfl hl
    ·rfl
 ·refine .inl ⟨?_, ?_⟩
  ·have : ((fullS 32 s).length == f1.length) = false := by rw [beq_eq_false_iff_ne]; exact h2
   rw [this]; rfl
  ·split
   ·rename_i e; rw [e] at h1; exact absurd rfl h1
   ·rfl
abbrev f2 : List (List UInt8) := [[97, 98, 105, 108, 105, 116, 121], [], [118, 97, 114, 105, 97, 110, 99, 101], []]
theorem words2 (s : List UInt8) (p : PS) : ((((fullS 32 s).length == f2.length) && okW f2 (fullS 32 s)) = false ∧ line2 s p = (2, p)) ∨ ((((fullS 32 s).length == f2.length) && okW f2 (fullS 32 s)) = true ∧ ∃ b d, fullS 32 s = [[97, 98, 105, 108, 105, 116, 121], b, [118, 97, 114, 105, 97, 110, 99, 101], d] ∧ line2 s p = (bif ratPE b == 0 then (ratPE d, ⟨p.c, (bif ratPE d == 0 then { p.r with m := ratQ b, v := ratQ d } else { p.r with m := ratQ b })⟩) else (ratPE b, p))) := by
 unfold line2
 rcases split_same 32 s 4 with h | ⟨h1, h2⟩
 ·rw [h]
  by_cases hl : (fullS 32 s).length = 4
  ·obtain ⟨a, b, c, d, e⟩ := w4 hl
   rw [e]
   dsimp only
   have ek : okW f2 [a, b, c, d] = (a == [97, 98, 105, 108, 105, 116, 121] && c == [118, 97, 114, 105, 97, 110, 99, 101]) := by simp [okW]
   rw [ek]
   cases hc : (a == [97, 98, 105, 108, 105, 116, 121] && c == [118, 97, 114, 105, 97, 110, 99, 101])
   ·exact .inl ⟨by rw [Bool.and_false], rfl⟩
   ·refine .inr ⟨rfl, ?_⟩
    rw [Bool.and_eq_true] at hc
    obtain ⟨ha, hc⟩ := hc
    have ha := eq_of_beq ha
    subst ha
    have hc := eq_of_beq hc
    subst hc
    exact ⟨b, d, rfl, rfl⟩
  ·refine .inl ⟨?_, ?_⟩
   ·have : ((fullS 32 s).length == f2.length) = false := by rw [beq_eq_false_iff_ne]; exact hl
    rw [this]; rfl
   ·split
    ·rename_i e; rw [e] at hl; exact absurd rfl hl
    ·rfl
 ·refine .inl ⟨?_, ?_⟩
  ·have : ((fullS 32 s).length == f2.length) = false := by rw [beq_eq_false_iff_ne]; exact h2
   rw [this]; rfl
  ·split
   ·rename_i e; rw [e] at h1; exact absurd rfl h1
   ·rfl
abbrev f3 : List (List UInt8) := [[105, 110, 116, 101, 114, 118, 97, 108], [], []]
theorem words3 (s : List UInt8) (p : PS) : ((((fullS 32 s).length == f3.length) && okW f3 (fullS 32 s)) = false ∧ line3 s p = (2, p)) ∨ ((((fullS 32 s).length == f3.length) && okW f3 (fullS 32 s)) = true ∧ ∃ b c, fullS 32 s = [[105, 110, 116, 101, 114, 118, 97, 108], b, c] ∧ line3 s p = (bif numE b == 0 then (numE c, ⟨p.c, (bif numE c == 0 then { p.r with lo := intV b, hi := intV c } else { p.r with lo := intV b })⟩) else (numE b, p))) := by
 unfold line3
 rcases split_same 32 s 3 with h | ⟨h1, h2⟩
 ·rw [h]
  by_cases hl : (fullS 32 s).length = 3
  ·obtain ⟨a, b, c, e⟩ := w3 hl
   rw [e]
   dsimp only
   have ek : okW f3 [a, b, c] = (a == [105, 110, 116, 101, 114, 118, 97, 108]) := by simp [okW]
   rw [ek]
   cases hc : (a == [105, 110, 116, 101, 114, 118, 97, 108])
   ·exact .inl ⟨by rw [Bool.and_false], rfl⟩
   ·refine .inr ⟨rfl, ?_⟩
    have ha := hc
    have ha := eq_of_beq ha
    subst ha
    exact ⟨b, c, rfl, rfl⟩
  ·refine .inl ⟨?_, ?_⟩
   ·have : ((fullS 32 s).length == f3.length) = false := by rw [beq_eq_false_iff_ne]; exact hl
    rw [this]; rfl
   ·split
    ·rename_i e; rw [e] at hl; exact absurd rfl hl
    ·rfl
 ·refine .inl ⟨?_, ?_⟩
  ·have : ((fullS 32 s).length == f3.length) = false := by rw [beq_eq_false_iff_ne]; exact h2
   rw [this]; rfl
  ·split
   ·rename_i e; rw [e] at h1; exact absurd rfl h1
   ·rfl
abbrev f4 : List (List UInt8) := [[105, 116, 101, 109, 115], [], []]
theorem words4 (s : List UInt8) (p : PS) : ((((fullS 32 s).length == f4.length) && okW f4 (fullS 32 s)) = false ∧ line4 s p = (2, p)) ∨ ((((fullS 32 s).length == f4.length) && okW f4 (fullS 32 s)) = true ∧ ∃ b c, fullS 32 s = [[105, 116, 101, 109, 115], b, c] ∧ line4 s p = (bif numE b == 0 then (reasE c, ⟨p.c, (bif reasE c == 0 then { p.r with sp := intV b, st := (firstR c : Int) } else { p.r with sp := intV b })⟩) else (numE b, p))) := by
 unfold line4
 rcases split_same 32 s 3 with h | ⟨h1, h2⟩
 ·rw [h]
  by_cases hl : (fullS 32 s).length = 3
  ·obtain ⟨a, b, c, e⟩ := w3 hl
   rw [e]
   dsimp only
   have ek : okW f4 [a, b, c] = (a == [105, 116, 101, 109, 115]) := by simp [okW]
   rw [ek]
   cases hc : (a == [105, 116, 101, 109, 115])
   ·exact .inl ⟨by rw [Bool.and_false], rfl⟩
   ·refine .inr ⟨rfl, ?_⟩
    have ha := hc
    have ha := eq_of_beq ha
    subst ha
    exact ⟨b, c, rfl, rfl⟩
  ·refine .inl ⟨?_, ?_⟩
   ·have : ((fullS 32 s).length == f4.length) = false := by rw [beq_eq_false_iff_ne]; exact hl
    rw [this]; rfl
   ·split
    ·rename_i e; rw [e] at hl; exact absurd rfl hl
    ·rfl
 ·refine .inl ⟨?_, ?_⟩
  ·have : ((fullS 32 s).length == f4.length) = false := by rw [beq_eq_false_iff_ne]; exact h2
   rw [this]; rfl
  ·split
   ·rename_i e; rw [e] at h1; exact absurd rfl h1
   ·rfl
abbrev f5 : List (List UInt8) := [[101, 115, 115, 97, 121], []]
theorem words5 (s : List UInt8) (p : PS) : ((((fullS 32 s).length == f5.length) && okW f5 (fullS 32 s)) = false ∧ line5 s p = (2, p)) ∨ ((((fullS 32 s).length == f5.length) && okW f5 (fullS 32 s)) = true ∧ ∃ b, fullS 32 s = [[101, 115, 115, 97, 121], b] ∧ line5 s p = ((numE b, ⟨p.c, (bif numE b == 0 then { p.r with es := intV b } else p.r)⟩))) := by
 unfold line5
 rcases split_same 32 s 2 with h | ⟨h1, h2⟩
 ·rw [h]
  by_cases hl : (fullS 32 s).length = 2
  ·obtain ⟨a, b, e⟩ := w2 hl
   rw [e]
   dsimp only
   have ek : okW f5 [a, b] = (a == [101, 115, 115, 97, 121]) := by simp [okW]
   rw [ek]
   cases hc : (a == [101, 115, 115, 97, 121])
   ·exact .inl ⟨by rw [Bool.and_false], rfl⟩
   ·refine .inr ⟨rfl, ?_⟩
    have ha := hc
    have ha := eq_of_beq ha
    subst ha
    exact ⟨b, rfl, rfl⟩
  ·refine .inl ⟨?_, ?_⟩
   ·have : ((fullS 32 s).length == f5.length) = false := by rw [beq_eq_false_iff_ne]; exact hl
    rw [this]; rfl
   ·split
    ·rename_i e; rw [e] at hl; exact absurd rfl hl
    ·rfl
 ·refine .inl ⟨?_, ?_⟩
  ·have : ((fullS 32 s).length == f5.length) = false := by rw [beq_eq_false_iff_ne]; exact h2
   rw [this]; rfl
  ·split
   ·rename_i e; rw [e] at h1; exact absurd rfl h1
   ·rfl
end Go.Proofs.YtcggnmddcbhchaaGreatDoor
set_option linter.unusedSimpArgs false
set_option linter.unusedVariables false
namespace Go.Proofs.YtcggnmddcbhchaaGreatDoor
open Go.RowKit Lim
theorem outP_err {e : Int} {q : PS} (h : (e == 0) = false) : outP (e, q) = (e, ⟨0, r0⟩) := by
 unfold outP
 rw [h]
 rfl
theorem goP_bad {L : List (List UInt8)} {k : Nat} {p q : PS} {e : Int} (h : lineP (5 - k) (L.getD (5 - k) []) p = (e, q)) (he : (e == 0) = false) : goP L (k + 1) p = (e, q) := by
 unfold goP
 rw [h, he]
 rfl
theorem neB {e : Int} (h : (e == 0) = false) : (e != 0) = true := by rw [bne, h]; rfl
theorem eqB {e : Int} (h : (e == 0) = true) : (e != 0) = false := by rw [bne, h]; rfl
def Good (L : List (List UInt8)) (c : Int) (r : Res) (e : Int) : Prop := (e = 0 ∧ goP L 6 ⟨0, r0⟩ = (0, ⟨c, r⟩) ∧ r.valid = 0) ∨ ((e == 0) = false ∧ outP (goP L 6 ⟨0, r0⟩) = (e, ⟨0, r0⟩))
theorem Good.bad {L : List (List UInt8)} {c : Int} {r : Res} {e : Int} {q : PS} (h : (e == 0) = false) (hg : goP L 6 ⟨0, r0⟩ = (e, q)) : Good L c r e := .inr ⟨h, by rw [hg]; exact outP_err h⟩
theorem fin_e {x : denL gPs.ts} {c : Int} {r : Res} {e : Int} {L : List (List UInt8)} (hx : x = (tP c r e : TP)) (h : Good L c r e) : ∃ c r e, unwrapA (some (Ans.ret x)) = some (tP c r e : TP) ∧ Good L c r e := ⟨c, r, e, by rw [hx]; rfl, h⟩
set_option maxHeartbeats 2000000 in
theorem pars_e (n : Nat) (a0 a1 a2 a3 a4 a5 a6 : List UInt8) (h0 : a0.length ≤ 4294967280) (h1 : a1.length ≤ 4294967280) (h2 : a2.length ≤ 4294967280) (h3 : a3.length ≤ 4294967280) (h4 : a4.length ≤ 4294967280) (h5 : a5.length ≤ 4294967280) :
  ∃ (c : Int) (r : Res) (e : Int), EF fuel (n + 6) 40 [.o (.c ⟨.sl 1 .str, [a0, a1, a2, a3, a4, a5, a6]⟩)] gPs = some (tP c r e : TP) ∧ Good [a0, a1, a2, a3, a4, a5, a6] c r e := by
 rw [ref56_pars_m (F := fuel) (n + 5) [a0, a1, a2, a3, a4, a5, a6]]
 have g0 : goP [a0, a1, a2, a3, a4, a5, a6] 6 ⟨0, r0⟩ = goP [a0, a1, a2, a3, a4, a5, a6] 6 ⟨0, r0⟩ := rfl
 rw [show ix [a0, a1, a2, a3, a4, a5, a6] 0 = some a0 from rfl, Option.bind_some, bind_go (words_e (n + 3) a0 h0 f0 (by decide))]
 rcases words0 a0 ⟨0, r0⟩ with ⟨hw0, hl0⟩ | ⟨hw0, b0, hb0, hl0⟩
 ·rw [hw0, cond_false]
  dsimp only
  rw [show ((2 : Int) != 0) = true from rfl, cond_true]
  exact fin_e (c := 0) (r := ⟨⟨_, _, _⟩, ⟨_, _, _⟩, _, _, _, _, _, _⟩) rfl (Good.bad (e := 2) rfl (g0.trans (goP_bad (k := 5) (L := [a0, a1, a2, a3, a4, a5, a6]) hl0 rfl)))
 have hm0 := fun x hx => fullS_mem 32 a0 x hx
 rw [hw0, cond_true, hb0]
 rw [hb0] at hm0
 dsimp only
 rw [bne_self_eq_false, cond_false]
 have lb0 : b0.length ≤ 4294967280 := by have := hm0 b0 (by simp); omega
 rw [show ix [[99, 97, 110, 100, 105, 100, 97, 116, 101], b0] 1 = some b0 from rfl, Option.bind_some, bind_go (r56cand_e (n + 1) b0 (by omega))]
 (try dsimp only)
 cases eb0 : candE b0 == 0
 ·rw [neB eb0, cond_true]
  exact fin_e (c := 0) (r := ⟨⟨_, _, _⟩, ⟨_, _, _⟩, _, _, _, _, _, _⟩) rfl (Good.bad eb0 (g0.trans (goP_bad (k := 5) (L := [a0, a1, a2, a3, a4, a5, a6]) hl0 eb0)))
 rw [eqB eb0, cond_false]
 rw [eb0] at hl0
 have g1 := g0.trans (goP_step (k := 5) (L := [a0, a1, a2, a3, a4, a5, a6]) (q := ⟨(identE b0).2.1, r0⟩) (hl0.trans (Prod.ext (eq_of_beq eb0) rfl)))
 simp only [eb0, cond_true]
 rw [show ix [a0, a1, a2, a3, a4, a5, a6] 1 = some a1 from rfl, Option.bind_some, bind_go (words_e (n + 3) a1 h1 f1 (by decide))]
 rcases words1 a1 ⟨(identE b0).2.1, r0⟩ with ⟨hw1, hl1⟩ | ⟨hw1, b1, hb1, hl1⟩
 ·rw [hw1, cond_false]
  dsimp only
  rw [show ((2 : Int) != 0) = true from rfl, cond_true]
  exact fin_e (c := 0) (r := ⟨⟨_, _, _⟩, ⟨_, _, _⟩, _, _, _, _, _, _⟩) rfl (Good.bad (e := 2) rfl (g1.trans (goP_bad (k := 4) (L := [a0, a1, a2, a3, a4, a5, a6]) hl1 rfl)))
 have hm1 := fun x hx => fullS_mem 32 a1 x hx
 rw [hw1, cond_true, hb1]
 rw [hb1] at hm1
 dsimp only
 rw [bne_self_eq_false, cond_false]
 have lb1 : b1.length ≤ 4294967280 := by have := hm1 b1 (by simp); omega
 rw [show ix [[115, 99, 111, 114, 101], b1] 1 = some b1 from rfl, Option.bind_some, bind_go (r56integer_e (n + 1) b1 (by omega))]
 (try dsimp only)
 cases eb1 : numE b1 == 0
 ·rw [neB eb1, cond_true]
  exact fin_e (c := 0) (r := ⟨⟨_, _, _⟩, ⟨_, _, _⟩, _, _, _, _, _, _⟩) rfl (Good.bad eb1 (g1.trans (goP_bad (k := 4) (L := [a0, a1, a2, a3, a4, a5, a6]) hl1 eb1)))
 rw [eqB eb1, cond_false]
 rw [eb1] at hl1
 have g2 := g1.trans (goP_step (k := 4) (L := [a0, a1, a2, a3, a4, a5, a6]) (q := ⟨(identE b0).2.1, { r0 with sc := intV b1 }⟩) (hl1.trans (Prod.ext (eq_of_beq eb1) rfl)))
 simp only [eb1, cond_true]
 rw [show ix [a0, a1, a2, a3, a4, a5, a6] 2 = some a2 from rfl, Option.bind_some, bind_go (words_e (n + 3) a2 h2 f2 (by decide))]
 rcases words2 a2 ⟨(identE b0).2.1, { r0 with sc := intV b1 }⟩ with ⟨hw2, hl2⟩ | ⟨hw2, b2, d2, hb2, hl2⟩
 ·rw [hw2, cond_false]
  dsimp only
  rw [show ((2 : Int) != 0) = true from rfl, cond_true]
  exact fin_e (c := 0) (r := ⟨⟨_, _, _⟩, ⟨_, _, _⟩, _, _, _, _, _, _⟩) rfl (Good.bad (e := 2) rfl (g2.trans (goP_bad (k := 3) (L := [a0, a1, a2, a3, a4, a5, a6]) hl2 rfl)))
 have hm2 := fun x hx => fullS_mem 32 a2 x hx
 rw [hw2, cond_true, hb2]
 rw [hb2] at hm2
 dsimp only
 rw [bne_self_eq_false, cond_false]
 have lb2 : b2.length ≤ 4294967280 := by have := hm2 b2 (by simp); omega
 have ld2 : d2.length ≤ 4294967280 := by have := hm2 d2 (by simp); omega
 rw [show ix [[97, 98, 105, 108, 105, 116, 121], b2, [118, 97, 114, 105, 97, 110, 99, 101], d2] 1 = some b2 from rfl, Option.bind_some, bind_go (r56ratio_e n b2 (by omega))]
 (try dsimp only)
 cases eb2 : ratPE b2 == 0
 ·rw [eb2, cond_false] at hl2
  rw [cond_false]
  dsimp only
  rw [neB eb2, cond_true]
  exact fin_e (c := 0) (r := ⟨⟨_, _, _⟩, ⟨_, _, _⟩, _, _, _, _, _, _⟩) rfl (Good.bad eb2 (g2.trans (goP_bad (k := 3) (L := [a0, a1, a2, a3, a4, a5, a6]) hl2 eb2)))
 rw [eb2, cond_true] at hl2
 rw [cond_true]
 dsimp only
 rw [bne_self_eq_false, cond_false]
 rw [show ix [[97, 98, 105, 108, 105, 116, 121], b2, [118, 97, 114, 105, 97, 110, 99, 101], d2] 3 = some d2 from rfl, Option.bind_some, bind_go (r56ratio_e n d2 (by omega))]
 (try dsimp only)
 cases ed2 : ratPE d2 == 0
 ·rw [cond_false]
  dsimp only
  rw [neB ed2, cond_true]
  exact fin_e (c := 0) (r := ⟨⟨_, _, _⟩, ⟨_, _, _⟩, _, _, _, _, _, _⟩) rfl (Good.bad ed2 (g2.trans (goP_bad (k := 3) (L := [a0, a1, a2, a3, a4, a5, a6]) hl2 ed2)))
 rw [ed2] at hl2
 rw [cond_true]
 dsimp only
 rw [bne_self_eq_false, cond_false]
 have g3 := g2.trans (goP_step (k := 3) (L := [a0, a1, a2, a3, a4, a5, a6]) (q := ⟨(identE b0).2.1, { r0 with sc := intV b1, m := ratQ b2, v := ratQ d2 }⟩) (hl2.trans (Prod.ext (eq_of_beq ed2) rfl)))
 rw [show ix [a0, a1, a2, a3, a4, a5, a6] 3 = some a3 from rfl, Option.bind_some, bind_go (words_e (n + 3) a3 h3 f3 (by decide))]
 rcases words3 a3 ⟨(identE b0).2.1, { r0 with sc := intV b1, m := ratQ b2, v := ratQ d2 }⟩ with ⟨hw3, hl3⟩ | ⟨hw3, b3, c3, hb3, hl3⟩
 ·rw [hw3, cond_false]
  dsimp only
  rw [show ((2 : Int) != 0) = true from rfl, cond_true]
  exact fin_e (c := 0) (r := ⟨⟨_, _, _⟩, ⟨_, _, _⟩, _, _, _, _, _, _⟩) rfl (Good.bad (e := 2) rfl (g3.trans (goP_bad (k := 2) (L := [a0, a1, a2, a3, a4, a5, a6]) hl3 rfl)))
 have hm3 := fun x hx => fullS_mem 32 a3 x hx
 rw [hw3, cond_true, hb3]
 rw [hb3] at hm3
 dsimp only
 rw [bne_self_eq_false, cond_false]
 have lb3 : b3.length ≤ 4294967280 := by have := hm3 b3 (by simp); omega
 have lc3 : c3.length ≤ 4294967280 := by have := hm3 c3 (by simp); omega
 rw [show ix [[105, 110, 116, 101, 114, 118, 97, 108], b3, c3] 1 = some b3 from rfl, Option.bind_some, bind_go (r56integer_e (n + 1) b3 (by omega))]
 (try dsimp only)
 cases eb3 : numE b3 == 0
 ·rw [eb3, cond_false] at hl3
  rw [neB eb3, cond_true]
  exact fin_e (c := 0) (r := ⟨⟨_, _, _⟩, ⟨_, _, _⟩, _, _, _, _, _, _⟩) rfl (Good.bad eb3 (g3.trans (goP_bad (k := 2) (L := [a0, a1, a2, a3, a4, a5, a6]) hl3 eb3)))
 rw [eb3, cond_true] at hl3
 rw [eqB eb3, cond_false]
 rw [show ix [[105, 110, 116, 101, 114, 118, 97, 108], b3, c3] 2 = some c3 from rfl, Option.bind_some, bind_go (r56integer_e (n + 1) c3 (by omega))]
 (try dsimp only)
 cases ec3 : numE c3 == 0
 ·rw [neB ec3, cond_true]
  exact fin_e (c := 0) (r := ⟨⟨_, _, _⟩, ⟨_, _, _⟩, _, _, _, _, _, _⟩) rfl (Good.bad ec3 (g3.trans (goP_bad (k := 2) (L := [a0, a1, a2, a3, a4, a5, a6]) hl3 ec3)))
 rw [ec3] at hl3
 rw [eqB ec3, cond_false]
 have g4 := g3.trans (goP_step (k := 2) (L := [a0, a1, a2, a3, a4, a5, a6]) (q := ⟨(identE b0).2.1, { r0 with sc := intV b1, m := ratQ b2, v := ratQ d2, lo := intV b3, hi := intV c3 }⟩) (hl3.trans (Prod.ext (eq_of_beq ec3) rfl)))
 simp only [eb3, ec3, cond_true]
 rw [show ix [a0, a1, a2, a3, a4, a5, a6] 4 = some a4 from rfl, Option.bind_some, bind_go (words_e (n + 3) a4 h4 f4 (by decide))]
 rcases words4 a4 ⟨(identE b0).2.1, { r0 with sc := intV b1, m := ratQ b2, v := ratQ d2, lo := intV b3, hi := intV c3 }⟩ with ⟨hw4, hl4⟩ | ⟨hw4, b4, c4, hb4, hl4⟩
 ·rw [hw4, cond_false]
  dsimp only
  rw [show ((2 : Int) != 0) = true from rfl, cond_true]
  exact fin_e (c := 0) (r := ⟨⟨_, _, _⟩, ⟨_, _, _⟩, _, _, _, _, _, _⟩) rfl (Good.bad (e := 2) rfl (g4.trans (goP_bad (k := 1) (L := [a0, a1, a2, a3, a4, a5, a6]) hl4 rfl)))
 have hm4 := fun x hx => fullS_mem 32 a4 x hx
 rw [hw4, cond_true, hb4]
 rw [hb4] at hm4
 dsimp only
 rw [bne_self_eq_false, cond_false]
 have lb4 : b4.length ≤ 4294967280 := by have := hm4 b4 (by simp); omega
 have lc4 : c4.length ≤ 4294967280 := by have := hm4 c4 (by simp); omega
 rw [show ix [[105, 116, 101, 109, 115], b4, c4] 1 = some b4 from rfl, Option.bind_some, bind_go (r56integer_e (n + 1) b4 (by omega))]
 (try dsimp only)
 cases eb4 : numE b4 == 0
 ·rw [eb4, cond_false] at hl4
  rw [neB eb4, cond_true]
  exact fin_e (c := 0) (r := ⟨⟨_, _, _⟩, ⟨_, _, _⟩, _, _, _, _, _, _⟩) rfl (Good.bad eb4 (g4.trans (goP_bad (k := 1) (L := [a0, a1, a2, a3, a4, a5, a6]) hl4 eb4)))
 rw [eb4, cond_true] at hl4
 rw [eqB eb4, cond_false]
 rw [show ix [[105, 116, 101, 109, 115], b4, c4] 2 = some c4 from rfl, Option.bind_some, bind_go (r56reas_e (n + 3) c4)]
 (try dsimp only)
 cases ec4 : reasE c4 == 0
 ·rw [neB ec4, cond_true]
  exact fin_e (c := 0) (r := ⟨⟨_, _, _⟩, ⟨_, _, _⟩, _, _, _, _, _, _⟩) rfl (Good.bad ec4 (g4.trans (goP_bad (k := 1) (L := [a0, a1, a2, a3, a4, a5, a6]) hl4 ec4)))
 rw [ec4] at hl4
 rw [eqB ec4, cond_false]
 have g5 := g4.trans (goP_step (k := 1) (L := [a0, a1, a2, a3, a4, a5, a6]) (q := ⟨(identE b0).2.1, { r0 with sc := intV b1, m := ratQ b2, v := ratQ d2, lo := intV b3, hi := intV c3, sp := intV b4, st := (firstR c4 : Int) }⟩) (hl4.trans (Prod.ext (eq_of_beq ec4) rfl)))
 simp only [eb4, cond_true]
 rw [show ix [a0, a1, a2, a3, a4, a5, a6] 5 = some a5 from rfl, Option.bind_some, bind_go (words_e (n + 3) a5 h5 f5 (by decide))]
 rcases words5 a5 ⟨(identE b0).2.1, { r0 with sc := intV b1, m := ratQ b2, v := ratQ d2, lo := intV b3, hi := intV c3, sp := intV b4, st := (firstR c4 : Int) }⟩ with ⟨hw5, hl5⟩ | ⟨hw5, b5, hb5, hl5⟩
 ·rw [hw5, cond_false]
  dsimp only
  rw [show ((2 : Int) != 0) = true from rfl, cond_true]
  exact fin_e (c := 0) (r := ⟨⟨_, _, _⟩, ⟨_, _, _⟩, _, _, _, _, _, _⟩) rfl (Good.bad (e := 2) rfl (g5.trans (goP_bad (k := 0) (L := [a0, a1, a2, a3, a4, a5, a6]) hl5 rfl)))
 have hm5 := fun x hx => fullS_mem 32 a5 x hx
 rw [hw5, cond_true, hb5]
 rw [hb5] at hm5
 dsimp only
 rw [bne_self_eq_false, cond_false]
 have lb5 : b5.length ≤ 4294967280 := by have := hm5 b5 (by simp); omega
 rw [show ix [[101, 115, 115, 97, 121], b5] 1 = some b5 from rfl, Option.bind_some, bind_go (r56integer_e (n + 1) b5 (by omega))]
 (try dsimp only)
 cases eb5 : numE b5 == 0
 ·rw [neB eb5, cond_true]
  exact fin_e (c := 0) (r := ⟨⟨_, _, _⟩, ⟨_, _, _⟩, _, _, _, _, _, _⟩) rfl (Good.bad eb5 (g5.trans (goP_bad (k := 0) (L := [a0, a1, a2, a3, a4, a5, a6]) hl5 eb5)))
 rw [eqB eb5, cond_false]
 rw [eb5] at hl5
 have g6 := g5.trans (goP_step (k := 0) (L := [a0, a1, a2, a3, a4, a5, a6]) (q := ⟨(identE b0).2.1, { r0 with sc := intV b1, m := ratQ b2, v := ratQ d2, lo := intV b3, hi := intV c3, sp := intV b4, st := (firstR c4 : Int), es := intV b5 }⟩) (hl5.trans (Prod.ext (eq_of_beq eb5) rfl)))
 simp only [eb5, cond_true]
 have hf : firstR c4 < 5 := by
  have := eq_of_beq ec4
  unfold reasE at this
  cases h5 : decide (firstR c4 < 5)
  ·rw [h5] at this; cases this
  ·exact of_decide_eq_true h5
 rw [decide_eq_true hf, cond_true]
 have hr : (Res.mk (ratQ b2) (ratQ d2) (intV b3) (intV c3) (intV b1) (intV b5) (firstR c4 : Int) (intV b4)).OK := ⟨ratQ_ok (ratPE_ok eb2).1, ratQ_ok (ratPE_ok ed2).1, numE_64 eb3, numE_64 ec3, numE_64 eb1, numE_64 eb5, firstR_64 c4, numE_64 eb4⟩
 have g7 : goP [a0, a1, a2, a3, a4, a5, a6] 6 ⟨0, r0⟩ = (0, ⟨(identE b0).2.1, Res.mk (ratQ b2) (ratQ d2) (intV b3) (intV c3) (intV b1) (intV b5) (firstR c4 : Int) (intV b4)⟩) := g6
 rw [bind_go (r56valid_e (n + 3) _ hr)]
 refine fin_e (c := (identE b0).2.1) (r := Res.mk (ratQ b2) (ratQ d2) (intV b3) (intV c3) (intV b1) (intV b5) (firstR c4 : Int) (intV b4)) rfl ?_
 generalize Res.mk (ratQ b2) (ratQ d2) (intV b3) (intV c3) (intV b1) (intV b5) (firstR c4 : Int) (intV b4) = r at *
 cases hv : r.valid == 0
 ·refine .inr ⟨hv, ?_⟩
  rw [g7]
  unfold outP
  dsimp only
  rw [beq_self_eq_true, cond_true, neB hv, cond_true]
 ·exact .inl ⟨eq_of_beq hv, g7, eq_of_beq hv⟩
theorem r56Parse_e (n : Nat) (t : List UInt8) (ht : t.length ≤ 4294967280) : EF fuel (n + 7) 17 [vS t] gPs = some (tP (parseP t).2.c (parseP t).2.r (parseP t).1 : TP) := by
 refine (ref56_Parse_m (n + 6) t).trans ?_
 have hsp : EF fuel (n + 6) 39 [vS t, .o (.c ⟨.int .u8, 10⟩)] [.c (.sl 1 .str)] = some (fullS 10 t, ()) := split_all (n + 5) 10 t ht
 rw [bind_go hsp]
 dsimp only
 unfold parseP
 have hm := fun x hx => fullS_mem 10 t x hx
 have e7 := ne_cast (fullS 10 t).length 7
 rw [show ((Nat.cast (R := Int) (List.length (fullS 10 t))) != 7) = !((fullS 10 t).length == 7) from e7]
 rcases split_same 10 t 7 with h | ⟨h1, h2⟩
 ·rw [h]
  cases h7 : (fullS 10 t).length == 7
  ·rw [show ((fullS 10 t).length != 7) = true by rw [bne, h7]; rfl]
   rfl
  ·rw [show ((fullS 10 t).length != 7) = false by rw [bne, h7]; rfl, Bool.not_true, cond_false, cond_false]
   obtain ⟨a0, a1, a2, a3, a4, a5, a6, e⟩ := w7 (eq_of_beq h7)
   rw [e] at hm ⊢
   rw [show ix [a0, a1, a2, a3, a4, a5, a6] 6 = some a6 from rfl, Option.bind_some, show [a0, a1, a2, a3, a4, a5, a6].getD 6 [] = a6 from rfl]
   cases h6 : a6 == []
   ·rfl
   ·rw [Bool.not_true, cond_false, cond_false]
    obtain ⟨c, r, e, p1, p2⟩ := pars_e n a0 a1 a2 a3 a4 a5 a6 (by have := hm a0 (by simp); omega) (by have := hm a1 (by simp); omega) (by have := hm a2 (by simp); omega) (by have := hm a3 (by simp); omega) (by have := hm a4 (by simp); omega) (by have := hm a5 (by simp); omega)
    rw [bind_go p1]
    dsimp only [tP]
    rcases p2 with ⟨rfl, g, hv⟩ | ⟨he, g⟩
    ·rw [bne_self_eq_false, cond_false, g]
     unfold outP
     dsimp only
     rw [beq_self_eq_true, cond_true, hv, bne_self_eq_false, cond_false]
     rfl
    ·rw [neB he, cond_true, g]
     rfl
 ·rw [show ((fullS 10 t).length == 7) = false by rw [beq_eq_false_iff_ne]; exact h2, show ((splN 10 t 7).length != 7) = true by rw [bne_iff_ne]; exact h1]
  rfl
theorem limbs_e (n : Nat) (l : List Nat) (hl : l.length ≤ 1099511627776) : EF fuel (n + 1) 89 [vN l, vN l] gB = some (true, ()) := by
 refine (law56_limbs_m n l l).trans ?_
 rw [bne_self_eq_false, cond_false]
 refine congrArg (a₂ := some (Ans.ret ((true, ()) : denL [tB]))) unwrapA ?_
 refine loopA_range (R := denL [tB]) (ts := [tI, tB]) (N := l.length) (fun i => ((i : Int), false, ())) (fun i hi => ?_) ?_ rfl (fuel_lt (by omega))
 ·dsimp only
  rw [dlt hi, cond_true, ix_lt hi, Option.bind_some, Option.bind_some, bne_self_eq_false, cond_false, w64n (by omega)]
 ·dsimp only
  rw [dge (Nat.le_refl _), cond_false]
theorem equal_e (n : Nat) (q : Q3) (h : q.OK) : EF fuel (n + 2) 41 [vQ q, vQ q] gB = some (true, ()) := by
 refine (law56_equal_m (n + 1) q.t q.a q.b q.t q.a q.b).trans ?_
 rw [beq_self_eq_true, cond_true, bind_go (limbs_e n q.a (by have := h.la; omega)), bind_go (limbs_e n q.b (by have := h.lb; omega))]
 rfl
theorem lsame_e (n : Nat) (r : Res) (h : r.OK) : EF fuel (n + 3) 18 [vR r, vR r] gB = some (true, ()) := by
 refine (law56_same_m (n + 2) r.m.t r.m.a r.m.b r.v.t r.v.a r.v.b r.lo r.hi r.sc r.es r.st r.sp r.m.t r.m.a r.m.b r.v.t r.v.a r.v.b r.lo r.hi r.sc r.es r.st r.sp).trans ?_
 rw [bind_go (equal_e n r.m h.m)]
 dsimp only
 rw [cond_true, bind_go (equal_e n r.v h.v)]
 simp only [beq_self_eq_true, cond_true]
 rfl
theorem gOK (L : List (List UInt8)) : ∀ (k : Nat) (p : PS), p.r.OK → (goP L k p).2.r.OK
 | 0, p, h => h
 | k + 1, p, h => by
  have h2 := lineP_ok (5 - k) (L.getD (5 - k) []) p h
  unfold goP
  cases (lineP (5 - k) (L.getD (5 - k) []) p).1 == 0
  ·exact h2
  ·exact gOK L k _ h2
theorem pOK (t : List UInt8) : (parseP t).2.r.OK := by
 unfold parseP
 cases (splN 10 t 7).length != 7
 ·cases (splN 10 t 7).getD 6 [] == []
  ·exact r0_ok
  ·have h := gOK (splN 10 t 7) 6 ⟨0, r0⟩ r0_ok
   generalize goP (splN 10 t 7) 6 ⟨0, r0⟩ = q at h
   show (outP q).2.r.OK
   unfold outP
   cases q.1 == 0
   ·exact r0_ok
   ·cases q.2.r.valid != 0
    ·exact h
    ·exact r0_ok
 ·exact r0_ok
theorem lawParses (t : List UInt8) (ht : t.length ≤ 4294967280) : EF fuel 21 4 [vS t] gB = some (true, ()) := by
 refine (law56_ReportParses_m 20 t).trans ?_
 rw [bind_go (parse_e 13 t ht), bind_go (r56Parse_e 13 t ht)]
 dsimp only [tP]
 rw [beq_self_eq_true, cond_true, bind_go (lsame_e 17 (parseP t).2.r (pOK t))]
 dsimp only
 rw [cond_true, beq_self_eq_true, cond_true, bind_go awake_e]
 rfl
theorem reportParses.law (as' : List AV) (h : OkA 1048576 [.str] as') : AC 4 as' (boo true) := by
 obtain ⟨d, rfl, h4⟩ := okA_one h
 obtain ⟨s, rfl, hs⟩ := h4.s
 exact E_calls (lawParses s (by omega)) rfl
end Go.Proofs.YtcggnmddcbhchaaGreatDoor
set_option linter.unusedSimpArgs false
set_option linter.unusedVariables false
namespace Go.Proofs.YtcggnmddcbhchaaGreatDoor
open Go.ChangeShapes Go.WideShapes Go.ChangeAt Go.RowKit Lim
def strD {H : Type} (ss : List (List UInt8)) : DataW H := .agg (ss.map fun s => .lit (.string s))
theorem cells_of_strs {H : Type} {enc : TypeId × Value → H} {P : Program} {w : World} {base : Nat} {sp : Nat → Bool} {held : Bool} {fuel : Nat} {t e : TypeId} {n : Nat} {cs : List Value} {ss : List (List UInt8)} {p : List MemPlace}
  (ht : P.underlying t = some (.array n e)) (he : P.underlying e = some .string) (hce : P.cellsOf e = 1)
  (h : DataW.trod enc P w base sp held fuel t cs = some (strD ss, p)) (i : Nat) (s : List UInt8) (hs : ss[i]? = some s) : cs[i]? = some (.string ⟨s.toArray⟩) := by
 cases fuel with
 | zero => simp [DataW.trod] at h
 | succ fuel =>
  simp only [DataW.trod, ht, hce, Nat.mul_one] at h
  split at h
  ·obtain ⟨xs, hm, hx⟩ := Option.map_eq_some_iff.1 h
   have hxs : xs.map (·.1) = ss.map fun s => (DataW.lit (.string s) : DataW H) := by
    have := congrArg Prod.fst hx
    simpa [strD] using this
   have hxl : xs.length = n := by simpa using Lib.mapM_length hm
   have hzl : ss.length = n := by
    have := congrArg List.length hxs
    simp at this
    omega
   have hi : i < n := by
    rw [← hzl]
    exact (List.getElem?_eq_some_iff.1 hs).1
   obtain ⟨b, hb, hf⟩ := Lib.mapM_at hm i i (by simp [hi])
   obtain ⟨z, hc, rfl, _⟩ := DataW.trod_string he hf
   have h1 : cs[i]? = some (.string z) := by
    have := congrArg (·[0]?) hc
    simpa [List.getElem?_take, List.getElem?_drop] using this
   have h2 : (xs.map (·.1))[i]? = some (DataW.lit (.string z.data.toList) : DataW H) := by simp [hb]
   rw [hxs, List.getElem?_map, hs] at h2
   simp only [Option.map_some, Option.some.injEq, DataW.lit.injEq, Lit.string.injEq] at h2
   rw [h1, h2]
  ·cases h
theorem strs_of_head {P : Program} {W : World} {name : String} {ss : List (List UInt8)} {rest : List (String × DataW Unit)} {g : Nat} {t e : TypeId} {n : Nat}
  (hg : P.globalNamed name = some g) (hty : (P.globals[g]?).map (·.type) = some t) (ht : P.underlying t = some (.array n e)) (he : P.underlying e = some .string) (hce : P.cellsOf e = 1)
  (h : laidMet P ((name, strD ss) :: rest) W) (i : Nat) (s : List UInt8) (hs : ss[i]? = some s) : W.cell? ⟨g, i, none⟩ = some (.string ⟨s.toArray⟩) := by
 obtain ⟨ps, ⟨g', t', cs, fuel, p, q, hg', ht', hvar, hd, _, _⟩, _⟩ := h
 obtain rfl := Option.some.inj (hg.symm.trans hg')
 obtain rfl := Option.some.inj (hty.symm.trans ht')
 rw [World.var?_cell hg hvar i]
 simpa using cells_of_strs ht he hce hd i s hs
theorem glob_of {W : World} {rest : List (String × DataW Unit)} (h : laidMet Tryz.prog (("examboard/ident.prefixes", strD [[73, 84, 77], [70, 82, 77], [67, 65, 78], [83, 69, 83], [82, 65, 84], [65, 83, 84]]) :: rest) W) : GlobOK W := by
 intro g cs hg q v hv
 unfold globT at hg
 cases hb : Nat.beq g 0 with
 | false => rw [hb] at hg; cases hg
 | true =>
  rw [hb] at hg
  cases hg
  have hb := Nat.eq_of_beq_eq_true hb
  subst hb
  have key := strs_of_head (g := 0) (t := 97) (e := 9) (n := 6) (by kernel_rfl) (by kernel_rfl) Tryz.underlying97 Tryz.underlying9 (by kernel_rfl) h q
  rcases q with _ | _ | _ | _ | _ | _ | q
  ·cases hv; exact ⟨key _ rfl, rfl⟩
  ·cases hv; exact ⟨key _ rfl, rfl⟩
  ·cases hv; exact ⟨key _ rfl, rfl⟩
  ·cases hv; exact ⟨key _ rfl, rfl⟩
  ·cases hv; exact ⟨key _ rfl, rfl⟩
  ·cases hv; exact ⟨key _ rfl, rfl⟩
  ·simp at hv
end Go.Proofs.YtcggnmddcbhchaaGreatDoor
