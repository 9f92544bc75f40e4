/- decimal.Integer; the law's rounds, awake, valid. -/
import Derived.Test.YtnifjdhjimjihaaGreatDoorWa
set_option linter.unusedSimpArgs false
set_option linter.unusedVariables false
namespace Go.Proofs.YtnifjdhjimjihaaGreatDoor
open Go.RowKit Lim

abbrev u32 (n : Int) : AV := .lit (.int .u32 n)
theorem val_one (n : Nat) : val [n] = n := by simp [val_cons, val_nil]
set_option maxHeartbeats 1000000 in
theorem dint_mode (t : Bool) (l m : List Nat) (mode : Int) (h : mode < 1 ∨ 7 < mode) : AC 12 [ratA t l m, i64 mode] (.tup [.agg [boo false, .nat []], i64 1]) := by
  refine ACalls.of 8 (fn := Tryz.f12) Tryz.func12 rfl rfl rfl (by kernel_rfl) (by kernel_rfl) (Nat.le_of_ble_eq_true rfl) ?_
  simp -implicitDefEqProofs only [go_sem, awp_seq, Nat.reduceBNe, Nat.reduceBEq, Nat.reduceAdd, Nat.reduceSub, Nat.reduceMul, Nat.reduceLeDiff, Nat.reduceLT, Nat.reduceEqDiff, Nat.reduceBneDiff]
  refine callA_mk (dround_mode t l m 0 mode (by omega) (by omega) h) ?_
  simp -implicitDefEqProofs only [go_sem, awp_seq, Nat.reduceBNe, Nat.reduceBEq, Nat.reduceAdd, Nat.reduceSub, Nat.reduceMul, Nat.reduceLeDiff, Nat.reduceLT, Nat.reduceEqDiff, Nat.reduceBneDiff]
set_option maxHeartbeats 1000000 in
theorem dint_c {a : AV} {z : Int} {d : Nat} (ha : IsR a z d) (mode : Int) (hm1 : 1 ≤ mode) (hm2 : mode ≤ 7) (hl1 : nlen z.natAbs + 8 < 1099511627776) (hl2 : nlen d + 8 < 1099511627776) :
    AC 12 [a, i64 mode] (.tup [intN (rndU (rn (pz z d) (pd d)) (rd (pz z d) (pd d)) 0 mode), i64 0]) := by
  have R := dround_c ha 0 mode (by omega) hm1 hm2 hl1 hl2
  obtain ⟨_, _, _, rfl, _⟩ := ha
  refine ACalls.of 8 (fn := Tryz.f12) Tryz.func12 rfl rfl rfl (by kernel_rfl) (by kernel_rfl) (Nat.le_of_ble_eq_true rfl) ?_
  simp -implicitDefEqProofs only [go_sem, awp_seq, Nat.reduceBNe, Nat.reduceBEq, Nat.reduceAdd, Nat.reduceSub, Nat.reduceMul, Nat.reduceLeDiff, Nat.reduceLT, Nat.reduceEqDiff, Nat.reduceBneDiff]
  refine callA_mk R ?_
  simp -implicitDefEqProofs only [go_sem, awp_seq, Nat.reduceBNe, Nat.reduceBEq, Nat.reduceAdd, Nat.reduceSub, Nat.reduceMul, Nat.reduceLeDiff, Nat.reduceLT, Nat.reduceEqDiff, Nat.reduceBneDiff]
theorem nlen_u32 {n : Nat} (h : n < 4294967296) : nlen n ≤ 1 := nlen_le (by have h1 : pw 1 = 4294967296 := (by decide); omega)
theorem rndU_nlen (N : Int) (D p : Nat) (mode : Int) (hp : p ≤ 9) : nlen (rndU N D p mode).natAbs ≤ nlen N.natAbs + 2 := by
  have h1 : (N * ((10 ^ p : Nat) : Int) / (D : Int)).natAbs ≤ (N * ((10 ^ p : Nat) : Int)).natAbs := Int.natAbs_ediv_le_natAbs _ _
  have h2 : nlen (N * ((10 ^ p : Nat) : Int)).natAbs ≤ nlen N.natAbs + 1 := by
    rw [Int.natAbs_mul, Int.natAbs_natCast]
    have := nlen_mul N.natAbs (10 ^ p)
    have := nlen_pow10 hp
    omega
  have h3 : (rndU N D p mode).natAbs ≤ (N * ((10 ^ p : Nat) : Int)).natAbs + 1 := by
    unfold rndU
    split
    · omega
    · split
      · omega
      · omega
  have h4 := nlen_mono h3
  have h5 := nlen_add (N * ((10 ^ p : Nat) : Int)).natAbs 1
  have h6 : nlen 1 = 1 := nlen_one
  rcases Nat.eq_zero_or_pos (nlen (N * ((10 ^ p : Nat) : Int)).natAbs) with h0 | h0
  · omega
  · omega
theorem nlen_rnp (z : Int) (d : Nat) : nlen (rn (pz z d) (pd d)).natAbs ≤ nlen z.natAbs := by
  have h1 := nlen_mono (show (rn (pz z d) (pd d)).natAbs ≤ (pz z d).natAbs by rw [rn_abs]; exact Nat.div_le_self _ _)
  have h2 := nlen_pz' z d
  omega
set_option maxHeartbeats 1000000 in
theorem rounds_c (num den : Nat) (neg : Bool) (p : Nat) (mode : Int) (want : List UInt8) (b : Bool) (hn : num < 4294967296) (hd : den < 4294967296) (hp : p ≤ 9) (hm1 : 1 ≤ mode) (hm2 : mode ≤ 7)
    (hb : (decTx (rndU (rn (pz (sg neg num) den) (pd den)) (rd (pz (sg neg num) den) (pd den)) p mode) p == want) = b) :
    AC 50 [u32 (num : Nat), u32 (den : Nat), boo neg, i64 (p : Nat), i64 mode, str want] (boo b) := by
  have c1 : ((num : Int) < 4294967296) = True := by simp; omega
  have c2 : ((den : Int) < 4294967296) = True := by simp; omega
  have n1 := nlen_u32 hn
  have n2 := nlen_u32 hd
  have ha : IsR (ratA neg [num] [den]) (sg neg num) den := ⟨neg, [num], [den], rfl, by rw [val_one], val_one den, by simp, by simp⟩
  have R := dround_c ha p mode hp hm1 hm2 (by rw [sg_abs]; omega) (by omega)
  have hu : nlen (rndU (rn (pz (sg neg num) den) (pd den)) (rd (pz (sg neg num) den) (pd den)) p mode).natAbs < 1099511627776 := by
    have h1 := rndU_nlen (rn (pz (sg neg num) den) (pd den)) (rd (pz (sg neg num) den) (pd den)) p mode hp
    have h2 := nlen_rnp (sg neg num) den
    rw [sg_abs] at h2
    omega
  generalize rndU (rn (pz (sg neg num) den) (pd den)) (rd (pz (sg neg num) den) (pd den)) p mode = u at *
  refine ACalls.of 16 (fn := Tryz.f50) Tryz.func50 rfl rfl rfl (by kernel_rfl) (by kernel_rfl) (Nat.le_of_ble_eq_true rfl) ?_
  simp -implicitDefEqProofs only [Int.natCast_nonneg, c1, c2, Int.toNat_natCast, go_sem, awp_seq, Nat.reduceBNe, Nat.reduceBEq, Nat.reduceAdd, Nat.reduceSub, Nat.reduceMul, Nat.reduceLeDiff, Nat.reduceLT, Nat.reduceEqDiff, Nat.reduceBneDiff]
  refine callA_mk R ?_
  simp -implicitDefEqProofs only [bne_self_eq_false, go_sem, awp_seq, Nat.reduceBNe, Nat.reduceBEq, Nat.reduceAdd, Nat.reduceSub, Nat.reduceMul, Nat.reduceLeDiff, Nat.reduceLT, Nat.reduceEqDiff, Nat.reduceBneDiff]
  refine callA_mk (dprint_c (isI u hu) p hp) ?_
  simp -implicitDefEqProofs only [BEq.rfl, toList_bs, hb, go_sem, awp_seq, Nat.reduceBNe, Nat.reduceBEq, Nat.reduceAdd, Nat.reduceSub, Nat.reduceMul, Nat.reduceLeDiff, Nat.reduceLT, Nat.reduceEqDiff, Nat.reduceBneDiff]
set_option maxHeartbeats 4000000 in
theorem awake_c : AC 15 [] (boo true) := by
  have r1 := rounds_c 2 3 false 3 1 [48, 46, 54, 54, 55] true (by omega) (by omega) (by omega) (by omega) (by omega) (by decide +kernel)
  have r2 := rounds_c 2 3 true 3 6 [45, 48, 46, 54, 54, 55] true (by omega) (by omega) (by omega) (by omega) (by omega) (by decide +kernel)
  have r3 := rounds_c 1 8 false 2 1 [48, 46, 49, 50] true (by omega) (by omega) (by omega) (by omega) (by omega) (by decide +kernel)
  have r4 := rounds_c 1 8 false 2 2 [48, 46, 49, 51] true (by omega) (by omega) (by omega) (by omega) (by omega) (by decide +kernel)
  have r5 := rounds_c 5 2 true 0 3 [45, 50] true (by omega) (by omega) (by omega) (by omega) (by omega) (by decide +kernel)
  have r6 := rounds_c 5 2 true 0 4 [45, 51] true (by omega) (by omega) (by omega) (by omega) (by omega) (by decide +kernel)
  have r7 := rounds_c 5 2 false 0 5 [50] true (by omega) (by omega) (by omega) (by omega) (by omega) (by decide +kernel)
  have r8 := rounds_c 7 3 false 0 7 [51] true (by omega) (by omega) (by omega) (by omega) (by omega) (by decide +kernel)
  have p1 : AC 16 [str [45, 48, 46, 53, 48]] (.tup [.agg [boo true, .nat [50], i64 2], i64 0]) := by
    refine dparse_good [45, 48, 46, 53, 48] (by decide) (by decide +kernel) (fun h => absurd h (by decide +kernel)) _ (fun h => absurd h (by decide +kernel)) (fun _ h => absurd h (by decide +kernel)) (fun _ _ => ?_)
    have e1 : decide (sg (pNeg [45, 48, 46, 53, 48]) (valD (pBef [45, 48, 46, 53, 48] ++ pAft [45, 48, 46, 53, 48])) < 0) = true := by decide +kernel
    have e2 : limbs (sg (pNeg [45, 48, 46, 53, 48]) (valD (pBef [45, 48, 46, 53, 48] ++ pAft [45, 48, 46, 53, 48]))).natAbs = [50] := by decide +kernel
    have e3 : ((pAft [45, 48, 46, 53, 48]).length : Int) = 2 := by decide +kernel
    simp only [decN, e1, e2, e3]
  have p2 : AC 16 [str [45, 48, 46, 48, 48]] (zErr 2) :=
    dparse_good [45, 48, 46, 48, 48] (by decide) (by decide +kernel) (fun h => absurd h (by decide +kernel)) _ (fun _ => rfl) (fun h => absurd h (by decide +kernel)) (fun h => absurd h (by decide +kernel))
  have i50 : IsI (.agg [boo true, .nat [50]]) (-50) := ⟨true, [50], rfl, by rw [val_one]; rfl, by simp⟩
  have v1 := dvalue_c i50 2 (by omega)
  have n1 : nlen (rn (-50) (10 ^ 2)).natAbs + 8 < 1099511627776 := by decide +kernel
  have n2 : nlen (rd (-50) (10 ^ 2)) + 8 < 1099511627776 := by decide +kernel
  have q1 := rprint_c (isR (rn (-50) (10 ^ 2)) (rd (-50) (10 ^ 2)) (by omega) (by omega)) n2
  have q2 : (ratTx (rn (pz (rn (-50) (10 ^ 2)) (rd (-50) (10 ^ 2))) (pd (rd (-50) (10 ^ 2)))) (rd (pz (rn (-50) (10 ^ 2)) (rd (-50) (10 ^ 2))) (pd (rd (-50) (10 ^ 2)))) == [45, 49, 47, 50]) = true := by decide +kernel
  generalize rn (-50) (10 ^ 2) = vz at *
  generalize rd (-50) (10 ^ 2) = vd at *
  generalize ratTx (rn (pz vz vd) (pd vd)) (rd (pz vz vd) (pd vd)) = tx at *
  refine ACalls.of 8 (fn := Tryz.f15) Tryz.func15 rfl rfl rfl (by kernel_rfl) (by kernel_rfl) (Nat.le_of_ble_eq_true rfl) ?_
  simp -implicitDefEqProofs only [mk_bs, go_sem, awp_seq, Nat.reduceBNe, Nat.reduceBEq, Nat.reduceAdd, Nat.reduceSub, Nat.reduceMul, Nat.reduceLeDiff, Nat.reduceLT, Nat.reduceEqDiff, Nat.reduceBneDiff]
  refine callA_mk r1 ?_
  simp -implicitDefEqProofs only [mk_bs, go_sem, awp_seq, Nat.reduceBNe, Nat.reduceBEq, Nat.reduceAdd, Nat.reduceSub, Nat.reduceMul, Nat.reduceLeDiff, Nat.reduceLT, Nat.reduceEqDiff, Nat.reduceBneDiff]
  refine callA_mk r2 ?_
  simp -implicitDefEqProofs only [mk_bs, go_sem, awp_seq, Nat.reduceBNe, Nat.reduceBEq, Nat.reduceAdd, Nat.reduceSub, Nat.reduceMul, Nat.reduceLeDiff, Nat.reduceLT, Nat.reduceEqDiff, Nat.reduceBneDiff]
  refine callA_mk r3 ?_
  simp -implicitDefEqProofs only [mk_bs, go_sem, awp_seq, Nat.reduceBNe, Nat.reduceBEq, Nat.reduceAdd, Nat.reduceSub, Nat.reduceMul, Nat.reduceLeDiff, Nat.reduceLT, Nat.reduceEqDiff, Nat.reduceBneDiff]
  refine callA_mk r4 ?_
  simp -implicitDefEqProofs only [mk_bs, go_sem, awp_seq, Nat.reduceBNe, Nat.reduceBEq, Nat.reduceAdd, Nat.reduceSub, Nat.reduceMul, Nat.reduceLeDiff, Nat.reduceLT, Nat.reduceEqDiff, Nat.reduceBneDiff]
  refine callA_mk r5 ?_
  simp -implicitDefEqProofs only [mk_bs, go_sem, awp_seq, Nat.reduceBNe, Nat.reduceBEq, Nat.reduceAdd, Nat.reduceSub, Nat.reduceMul, Nat.reduceLeDiff, Nat.reduceLT, Nat.reduceEqDiff, Nat.reduceBneDiff]
  refine callA_mk r6 ?_
  simp -implicitDefEqProofs only [mk_bs, go_sem, awp_seq, Nat.reduceBNe, Nat.reduceBEq, Nat.reduceAdd, Nat.reduceSub, Nat.reduceMul, Nat.reduceLeDiff, Nat.reduceLT, Nat.reduceEqDiff, Nat.reduceBneDiff]
  refine callA_mk r7 ?_
  simp -implicitDefEqProofs only [mk_bs, go_sem, awp_seq, Nat.reduceBNe, Nat.reduceBEq, Nat.reduceAdd, Nat.reduceSub, Nat.reduceMul, Nat.reduceLeDiff, Nat.reduceLT, Nat.reduceEqDiff, Nat.reduceBneDiff]
  refine callA_mk r8 ?_
  simp -implicitDefEqProofs only [mk_bs, go_sem, awp_seq, Nat.reduceBNe, Nat.reduceBEq, Nat.reduceAdd, Nat.reduceSub, Nat.reduceMul, Nat.reduceLeDiff, Nat.reduceLT, Nat.reduceEqDiff, Nat.reduceBneDiff]
  refine callA_mk p1 ?_
  simp -implicitDefEqProofs only [bne_self_eq_false, Int.toNat_zero, Int.le_refl, Int.cast_ofNat_Int, go_sem, awp_seq, Nat.reduceBNe, Nat.reduceBEq, Nat.reduceAdd, Nat.reduceSub, Nat.reduceMul, Nat.reduceLeDiff, Nat.reduceLT, Nat.reduceEqDiff, Nat.reduceBneDiff]
  refine callA_mk v1 ?_
  simp -implicitDefEqProofs only [bne_self_eq_false, go_sem, awp_seq, Nat.reduceBNe, Nat.reduceBEq, Nat.reduceAdd, Nat.reduceSub, Nat.reduceMul, Nat.reduceLeDiff, Nat.reduceLT, Nat.reduceEqDiff, Nat.reduceBneDiff]
  refine callA_mk q1 ?_
  simp -implicitDefEqProofs only [q2, mk_bs, toList_bs, go_sem, awp_seq, Nat.reduceBNe, Nat.reduceBEq, Nat.reduceAdd, Nat.reduceSub, Nat.reduceMul, Nat.reduceLeDiff, Nat.reduceLT, Nat.reduceEqDiff, Nat.reduceBneDiff]
  refine callA_mk p2 ?_
  simp -implicitDefEqProofs only [go_sem, awp_seq, Nat.reduceBNe, Nat.reduceBEq, Nat.reduceAdd, Nat.reduceSub, Nat.reduceMul, Nat.reduceLeDiff, Nat.reduceLT, Nat.reduceEqDiff, Nat.reduceBneDiff]
  refine callA_mk (dround_range _ _ _ 10 9 (by omega)) ?_
  simp -implicitDefEqProofs only [go_sem, awp_seq, Nat.reduceBNe, Nat.reduceBEq, Nat.reduceAdd, Nat.reduceSub, Nat.reduceMul, Nat.reduceLeDiff, Nat.reduceLT, Nat.reduceEqDiff, Nat.reduceBneDiff]
  refine callA_mk (dint_mode _ _ _ 9 (by omega)) ?_
  simp -implicitDefEqProofs only [BEq.rfl, go_sem, awp_seq, Nat.reduceBNe, Nat.reduceBEq, Nat.reduceAdd, Nat.reduceSub, Nat.reduceMul, Nat.reduceLeDiff, Nat.reduceLT, Nat.reduceEqDiff, Nat.reduceBneDiff]
end Go.Proofs.YtnifjdhjimjihaaGreatDoor
