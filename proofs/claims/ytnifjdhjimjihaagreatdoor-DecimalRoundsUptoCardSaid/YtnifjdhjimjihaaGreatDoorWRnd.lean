import Derived.Test.YtnifjdhjimjihaaGreatDoorWrA
/- The law DecimalRounds: its walk. INTS -/
set_option linter.unusedSimpArgs false
set_option linter.unusedVariables false
namespace Go.Proofs.YtnifjdhjimjihaaGreatDoor
open Go.RowKit Lim

section
variable (t : Bool) (l m : List Nat) (places mode : Int) (hl : l.length ≤ 1048576) (hm : m.length ≤ 1048576) (hd : Dig l) (hd2 : Dig m)
include hl hm hd hd2
/-- Both roundings return the same. -/
theorem both_round : ∃ t' l' p' e, AC 9 [ratA t l m, i64 places, i64 mode] (.tup [decA t' l' p', i64 e]) ∧ AT 10 [ratA t l m, i64 places, i64 mode] (.tup [decA t' l' p', i64 e]) ∧ l'.length < 1099511627776 := by
  by_cases h1 : places < 0 ∨ 9 < places
  · exact ⟨false, [], 0, 3, dround_range t l m places mode h1, r4round_range t l m places mode h1, by simp⟩
  · by_cases h2 : mode < 1 ∨ 7 < mode
    · exact ⟨false, [], 0, 1, dround_mode t l m places mode (by omega) (by omega) h2, r4round_mode t l m places mode (by omega) (by omega) h2, by simp⟩
    · obtain ⟨p, rfl⟩ := Int.eq_ofNat_of_zero_le (show 0 ≤ places by omega)
      have n1 := nlen_val hd
      have n2 := nlen_val hd2
      have e1 : (sg t (val l)).natAbs = val l := sg_natAbs _ _
      have i1 : IsR (ratA t l m) (sg t (val l)) (val m) := ⟨t, l, m, rfl, rfl, rfl, by omega, by omega⟩
      have i2 : DR (ratA t l m) (sg t (val l)) (val m) := ⟨t, l, m, rfl, hd, hd2, rfl, rfl, by omega, by omega⟩
      have R1 := dround_c i1 p mode (by omega) (by omega) (by omega) (by rw [e1]; omega) (by omega)
      have R2 := r4round_c i2 p mode (by omega) (by omega) (by omega) (by rw [e1]; omega) (by omega)
      have h3 := rndU_nlen (rn (pz (sg t (val l)) (val m)) (pd (val m))) (rd (pz (sg t (val l)) (val m)) (pd (val m))) p mode (by omega)
      have h4 := nlen_rnp (sg t (val l)) (val m)
      rw [e1] at h4
      exact ⟨_, _, _, _, R1, R2, by show nlen _ < _; omega⟩
theorem both_int : ∃ t' l' e, AC 12 [ratA t l m, i64 mode] (.tup [intA t' l', i64 e]) ∧ AT 13 [ratA t l m, i64 mode] (.tup [intA t' l', i64 e]) ∧ l'.length < 1099511627776 := by
  by_cases h2 : mode < 1 ∨ 7 < mode
  · exact ⟨false, [], 1, dint_mode t l m mode h2, r4int_mode t l m mode h2, by simp⟩
  · have n1 := nlen_val hd
    have n2 := nlen_val hd2
    have e1 : (sg t (val l)).natAbs = val l := sg_natAbs _ _
    have i1 : IsR (ratA t l m) (sg t (val l)) (val m) := ⟨t, l, m, rfl, rfl, rfl, by omega, by omega⟩
    have i2 : DR (ratA t l m) (sg t (val l)) (val m) := ⟨t, l, m, rfl, hd, hd2, rfl, rfl, by omega, by omega⟩
    have R1 := dint_c i1 mode (by omega) (by omega) (by rw [e1]; omega) (by omega)
    have R2 := r4int_c i2 mode (by omega) (by omega) (by rw [e1]; omega) (by omega)
    have h3 := rndU_nlen (rn (pz (sg t (val l)) (val m)) (pd (val m))) (rd (pz (sg t (val l)) (val m)) (pd (val m))) 0 mode (by omega)
    have h4 := nlen_rnp (sg t (val l)) (val m)
    rw [e1] at h4
    exact ⟨_, _, _, R1, R2, by show nlen _ < _; omega⟩
set_option maxHeartbeats 1000000 in
theorem drounds_c : AC 3 [ratA t l m, i64 places, i64 mode] (boo true) := by
  obtain ⟨t1, l1, p1, e1, A1, B1, h1⟩ := both_round t l m places mode hl hm hd hd2
  obtain ⟨t2, l2, e2, A2, B2, h2⟩ := both_int t l m mode hl hm hd hd2
  refine ACalls.of 13 (fn := Tryz.f3) Tryz.func3 rfl rfl rfl (by kernel_rfl) (by kernel_rfl) (Nat.le_of_ble_eq_true rfl) ?_
  simp -implicitDefEqProofs only [go_sem, awp_seq, Nat.reduceBNe, Nat.reduceBEq, Nat.reduceAdd, Nat.reduceSub, Nat.reduceMul, Nat.reduceLeDiff, Nat.reduceLT, Nat.reduceEqDiff, Nat.reduceBneDiff, Int.reduceLE, Int.reduceLT, Int.reduceToNat, Int.reduceBEq, Int.reduceBNe, Int.reduceAdd, Int.reduceSub]
  refine callA_mk A1 ?_
  simp -implicitDefEqProofs only [go_sem, awp_seq, Nat.reduceBNe, Nat.reduceBEq, Nat.reduceAdd, Nat.reduceSub, Nat.reduceMul, Nat.reduceLeDiff, Nat.reduceLT, Nat.reduceEqDiff, Nat.reduceBneDiff, Int.reduceLE, Int.reduceLT, Int.reduceToNat, Int.reduceBEq, Int.reduceBNe, Int.reduceAdd, Int.reduceSub]
  refine callA_t B1 ?_
  simp -implicitDefEqProofs only [bne_self_eq_false, go_sem, awp_seq, Nat.reduceBNe, Nat.reduceBEq, Nat.reduceAdd, Nat.reduceSub, Nat.reduceMul, Nat.reduceLeDiff, Nat.reduceLT, Nat.reduceEqDiff, Nat.reduceBneDiff, Int.reduceLE, Int.reduceLT, Int.reduceToNat, Int.reduceBEq, Int.reduceBNe, Int.reduceAdd, Int.reduceSub]
  refine callA_mk (same04_c t1 l1 p1 h1) ?_
  simp -implicitDefEqProofs only [go_sem, awp_seq, Nat.reduceBNe, Nat.reduceBEq, Nat.reduceAdd, Nat.reduceSub, Nat.reduceMul, Nat.reduceLeDiff, Nat.reduceLT, Nat.reduceEqDiff, Nat.reduceBneDiff, Int.reduceLE, Int.reduceLT, Int.reduceToNat, Int.reduceBEq, Int.reduceBNe, Int.reduceAdd, Int.reduceSub]
  refine callA_mk A2 ?_
  simp -implicitDefEqProofs only [go_sem, awp_seq, Nat.reduceBNe, Nat.reduceBEq, Nat.reduceAdd, Nat.reduceSub, Nat.reduceMul, Nat.reduceLeDiff, Nat.reduceLT, Nat.reduceEqDiff, Nat.reduceBneDiff, Int.reduceLE, Int.reduceLT, Int.reduceToNat, Int.reduceBEq, Int.reduceBNe, Int.reduceAdd, Int.reduceSub]
  refine callA_t B2 ?_
  simp -implicitDefEqProofs only [BEq.rfl, go_sem, awp_seq, Nat.reduceBNe, Nat.reduceBEq, Nat.reduceAdd, Nat.reduceSub, Nat.reduceMul, Nat.reduceLeDiff, Nat.reduceLT, Nat.reduceEqDiff, Nat.reduceBneDiff, Int.reduceLE, Int.reduceLT, Int.reduceToNat, Int.reduceBEq, Int.reduceBNe, Int.reduceAdd, Int.reduceSub]
  refine callA_mk (sameInt_c t2 l2 h2) ?_
  simp -implicitDefEqProofs only [go_sem, awp_seq, Nat.reduceBNe, Nat.reduceBEq, Nat.reduceAdd, Nat.reduceSub, Nat.reduceMul, Nat.reduceLeDiff, Nat.reduceLT, Nat.reduceEqDiff, Nat.reduceBneDiff, Int.reduceLE, Int.reduceLT, Int.reduceToNat, Int.reduceBEq, Int.reduceBNe, Int.reduceAdd, Int.reduceSub]
  refine callA_mk awake_c ?_
  simp -implicitDefEqProofs only [go_sem, awp_seq, Nat.reduceBNe, Nat.reduceBEq, Nat.reduceAdd, Nat.reduceSub, Nat.reduceMul, Nat.reduceLeDiff, Nat.reduceLT, Nat.reduceEqDiff, Nat.reduceBneDiff, Int.reduceLE, Int.reduceLT, Int.reduceToNat, Int.reduceBEq, Int.reduceBNe, Int.reduceAdd, Int.reduceSub]
end
end Go.Proofs.YtnifjdhjimjihaaGreatDoor
