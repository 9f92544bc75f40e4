import Derived.Test.YtkmicjpoekbhfaaGreatDoorP1
import Derived.Lib.SplitLaws
import Derived.Lib.ItoaLen
/- Texts merged: Wk8 Wk9 WkA WkB WkC WkD WkE WkF WkG WkU. -/
/- Chapter 40: the first reason why an answer does not fit an item. INTS -/
set_option linter.unusedSimpArgs false
set_option linter.unusedVariables false
namespace Go.Proofs.YtkmicjpoekbhfaaGreatDoor
open Go.RowKit Lim

theorem toList_nil : (ByteArray.mk #[]).toList = [] := toList_bs []
def badB (it : ItV) (a : AnsV) : Bool := (decide ((0 : Int) < (a.ch.length : Nat)) && (a.om || !hasChB it.kind)) || ((a.val != 0) && (a.om || it.kind != 4)) || (!(a.text == []) && (a.om || !hasTxB it.kind))
def validE (it : ItV) (a : AnsV) : Int :=
  bif itemE it != 0 then itemE it else bif a.item != it.id then 6 else bif badB it a then 1 else bif a.om then 0 else
    bif it.kind == 4 then (bif decide (a.val < -9999999) || decide ((9999999 : Int) < a.val) then 3 else 0) else bif it.kind == 5 then (bif decide ((200 : Int) < (a.text.length : Nat)) then 5 else 0) else
      bif it.kind == 6 then (bif decide ((2000 : Int) < (a.text.length : Nat)) then 5 else 0) else chE it.kind (it.opts.length : Nat) a.ch
theorem item_kind {it : ItV} (h : (itemE it != 0) = false) : 1 ≤ it.kind ∧ it.kind ≤ 6 := by
  have h0 : itemE it = 0 := by simpa using h
  unfold itemE at h0
  cases b1 : numsB it <;> rw [b1] at h0 <;> simp only [Bool.not_false, Bool.not_true, cond_true, cond_false] at h0
  · cases h0
  cases b2 : withinB it.kind 1 6 <;> rw [b2] at h0 <;> simp only [Bool.not_false, Bool.not_true, cond_true, cond_false] at h0
  · cases h0
  simpa [withinB] using b2
set_option maxHeartbeats 4000000 in
theorem kv_om (it : ItV) (h : IOK it) (a : AnsV) (ha : ANOK a) (c0 : (itemE it != 0) = false) (c1 : (a.item != it.id) = false) (om : a.om = true) : AC 12 [itA it, ansA a] (i64 (validE it a)) := by
  have I := itemValid_c it h
  unfold validE badB
  generalize itemE it = e0 at *
  refine ACalls.of ⟨63, [], []⟩ (fn := Tryz.f12) Tryz.func12 rfl rfl rfl (by kernel_rfl) (by kernel_rfl) (Nat.le_of_ble_eq_true rfl) ?_
  simp (maxSteps := 1000000) -implicitDefEqProofs only [List.length_map, bs_size, toList_bs, toList_nil, Bool.not_true, Bool.not_false, Bool.or_true, Bool.true_or, Bool.or_false, Bool.false_or, Bool.and_true, Bool.true_and, Bool.false_and, Bool.and_false, om, go_sem, awp_seq, Nat.reduceBNe, Nat.reduceBEq, Nat.reduceAdd, Nat.reduceSub, Nat.reduceMul, Nat.reduceLeDiff, Nat.reduceLT, Nat.reduceEqDiff, Nat.reduceBneDiff, Int.reduceLE, Int.reduceLT, Int.reduceToNat, Int.reduceBEq, Int.reduceBNe, Int.reduceAdd, Int.reduceSub, Int.cast_ofNat_Int]
  refine callA_mk I ?_
  simp (maxSteps := 1000000) -implicitDefEqProofs only [List.length_map, bs_size, toList_bs, toList_nil, Bool.not_true, Bool.not_false, Bool.or_true, Bool.true_or, Bool.or_false, Bool.false_or, Bool.and_true, Bool.true_and, Bool.false_and, Bool.and_false, om, c0, c1, go_sem, awp_seq, Nat.reduceBNe, Nat.reduceBEq, Nat.reduceAdd, Nat.reduceSub, Nat.reduceMul, Nat.reduceLeDiff, Nat.reduceLT, Nat.reduceEqDiff, Nat.reduceBneDiff, Int.reduceLE, Int.reduceLT, Int.reduceToNat, Int.reduceBEq, Int.reduceBNe, Int.reduceAdd, Int.reduceSub, Int.cast_ofNat_Int]
  cases cA : decide ((0 : Int) < (a.ch.length : Nat)) with
  | true =>
    simp (maxSteps := 1000000) -implicitDefEqProofs only [List.length_map, bs_size, toList_bs, toList_nil, Bool.not_true, Bool.not_false, Bool.or_true, Bool.true_or, Bool.or_false, Bool.false_or, Bool.and_true, Bool.true_and, Bool.false_and, Bool.and_false, om, c0, c1, cA, go_sem, awp_seq, Nat.reduceBNe, Nat.reduceBEq, Nat.reduceAdd, Nat.reduceSub, Nat.reduceMul, Nat.reduceLeDiff, Nat.reduceLT, Nat.reduceEqDiff, Nat.reduceBneDiff, Int.reduceLE, Int.reduceLT, Int.reduceToNat, Int.reduceBEq, Int.reduceBNe, Int.reduceAdd, Int.reduceSub, Int.cast_ofNat_Int]
  | false =>
    cases cV : a.val != 0 with
    | true =>
      simp (maxSteps := 1000000) -implicitDefEqProofs only [List.length_map, bs_size, toList_bs, toList_nil, Bool.not_true, Bool.not_false, Bool.or_true, Bool.true_or, Bool.or_false, Bool.false_or, Bool.and_true, Bool.true_and, Bool.false_and, Bool.and_false, om, c0, c1, cA, cV, go_sem, awp_seq, Nat.reduceBNe, Nat.reduceBEq, Nat.reduceAdd, Nat.reduceSub, Nat.reduceMul, Nat.reduceLeDiff, Nat.reduceLT, Nat.reduceEqDiff, Nat.reduceBneDiff, Int.reduceLE, Int.reduceLT, Int.reduceToNat, Int.reduceBEq, Int.reduceBNe, Int.reduceAdd, Int.reduceSub, Int.cast_ofNat_Int]
    | false =>
      cases cT : a.text == [] with
      | true =>
        simp (maxSteps := 1000000) -implicitDefEqProofs only [List.length_map, bs_size, toList_bs, toList_nil, Bool.not_true, Bool.not_false, Bool.or_true, Bool.true_or, Bool.or_false, Bool.false_or, Bool.and_true, Bool.true_and, Bool.false_and, Bool.and_false, om, c0, c1, cA, cV, cT, go_sem, awp_seq, Nat.reduceBNe, Nat.reduceBEq, Nat.reduceAdd, Nat.reduceSub, Nat.reduceMul, Nat.reduceLeDiff, Nat.reduceLT, Nat.reduceEqDiff, Nat.reduceBneDiff, Int.reduceLE, Int.reduceLT, Int.reduceToNat, Int.reduceBEq, Int.reduceBNe, Int.reduceAdd, Int.reduceSub, Int.cast_ofNat_Int]
      | false =>
        simp (maxSteps := 1000000) -implicitDefEqProofs only [List.length_map, bs_size, toList_bs, toList_nil, Bool.not_true, Bool.not_false, Bool.or_true, Bool.true_or, Bool.or_false, Bool.false_or, Bool.and_true, Bool.true_and, Bool.false_and, Bool.and_false, om, c0, c1, cA, cV, cT, go_sem, awp_seq, Nat.reduceBNe, Nat.reduceBEq, Nat.reduceAdd, Nat.reduceSub, Nat.reduceMul, Nat.reduceLeDiff, Nat.reduceLT, Nat.reduceEqDiff, Nat.reduceBneDiff, Int.reduceLE, Int.reduceLT, Int.reduceToNat, Int.reduceBEq, Int.reduceBNe, Int.reduceAdd, Int.reduceSub, Int.cast_ofNat_Int]
set_option maxHeartbeats 4000000 in
theorem kv_C (it : ItV) (h : IOK it) (a : AnsV) (ha : ANOK a) (c0 : (itemE it != 0) = false) (c1 : (a.item != it.id) = false) (om : a.om = false) (k1 : hasChB it.kind = true) (k2 : hasTxB it.kind = false) (k4 : (it.kind == 4) = false) (k5 : (it.kind == 5) = false) (k6 : (it.kind == 6) = false) : AC 12 [itA it, ansA a] (i64 (validE it a)) := by
  have I := itemValid_c it h
  have k4n : (it.kind != 4) = true := by simp only [bne, k4, Bool.not_true, Bool.not_false]
  have H1 := hasChoices_c it.kind
  have H2 := hasText_c it.kind
  rw [k1] at H1
  rw [k2] at H2
  have K := checkChoices_c it h a.ch ha.ch
  unfold validE badB
  generalize itemE it = e0 at *
  refine ACalls.of ⟨63, [], []⟩ (fn := Tryz.f12) Tryz.func12 rfl rfl rfl (by kernel_rfl) (by kernel_rfl) (Nat.le_of_ble_eq_true rfl) ?_
  simp (maxSteps := 1000000) -implicitDefEqProofs only [List.length_map, bs_size, toList_bs, toList_nil, Bool.not_true, Bool.not_false, Bool.or_true, Bool.true_or, Bool.or_false, Bool.false_or, Bool.and_true, Bool.true_and, Bool.false_and, Bool.and_false, om, k1, k2, k4, k4n, k5, k6, go_sem, awp_seq, Nat.reduceBNe, Nat.reduceBEq, Nat.reduceAdd, Nat.reduceSub, Nat.reduceMul, Nat.reduceLeDiff, Nat.reduceLT, Nat.reduceEqDiff, Nat.reduceBneDiff, Int.reduceLE, Int.reduceLT, Int.reduceToNat, Int.reduceBEq, Int.reduceBNe, Int.reduceAdd, Int.reduceSub, Int.cast_ofNat_Int]
  refine callA_mk I ?_
  simp (maxSteps := 1000000) -implicitDefEqProofs only [List.length_map, bs_size, toList_bs, toList_nil, Bool.not_true, Bool.not_false, Bool.or_true, Bool.true_or, Bool.or_false, Bool.false_or, Bool.and_true, Bool.true_and, Bool.false_and, Bool.and_false, om, k1, k2, k4, k4n, k5, k6, c0, c1, go_sem, awp_seq, Nat.reduceBNe, Nat.reduceBEq, Nat.reduceAdd, Nat.reduceSub, Nat.reduceMul, Nat.reduceLeDiff, Nat.reduceLT, Nat.reduceEqDiff, Nat.reduceBneDiff, Int.reduceLE, Int.reduceLT, Int.reduceToNat, Int.reduceBEq, Int.reduceBNe, Int.reduceAdd, Int.reduceSub, Int.cast_ofNat_Int]
  cases cA : decide ((0 : Int) < (a.ch.length : Nat)) with
  | true =>
    simp (maxSteps := 1000000) -implicitDefEqProofs only [List.length_map, bs_size, toList_bs, toList_nil, Bool.not_true, Bool.not_false, Bool.or_true, Bool.true_or, Bool.or_false, Bool.false_or, Bool.and_true, Bool.true_and, Bool.false_and, Bool.and_false, om, k1, k2, k4, k4n, k5, k6, c0, c1, cA, go_sem, awp_seq, Nat.reduceBNe, Nat.reduceBEq, Nat.reduceAdd, Nat.reduceSub, Nat.reduceMul, Nat.reduceLeDiff, Nat.reduceLT, Nat.reduceEqDiff, Nat.reduceBneDiff, Int.reduceLE, Int.reduceLT, Int.reduceToNat, Int.reduceBEq, Int.reduceBNe, Int.reduceAdd, Int.reduceSub, Int.cast_ofNat_Int]
    refine callA_t H1 ?_
    simp (maxSteps := 1000000) -implicitDefEqProofs only [List.length_map, bs_size, toList_bs, toList_nil, Bool.not_true, Bool.not_false, Bool.or_true, Bool.true_or, Bool.or_false, Bool.false_or, Bool.and_true, Bool.true_and, Bool.false_and, Bool.and_false, om, k1, k2, k4, k4n, k5, k6, c0, c1, cA, go_sem, awp_seq, Nat.reduceBNe, Nat.reduceBEq, Nat.reduceAdd, Nat.reduceSub, Nat.reduceMul, Nat.reduceLeDiff, Nat.reduceLT, Nat.reduceEqDiff, Nat.reduceBneDiff, Int.reduceLE, Int.reduceLT, Int.reduceToNat, Int.reduceBEq, Int.reduceBNe, Int.reduceAdd, Int.reduceSub, Int.cast_ofNat_Int]
    cases cV : a.val != 0 with
    | true =>
      simp (maxSteps := 1000000) -implicitDefEqProofs only [List.length_map, bs_size, toList_bs, toList_nil, Bool.not_true, Bool.not_false, Bool.or_true, Bool.true_or, Bool.or_false, Bool.false_or, Bool.and_true, Bool.true_and, Bool.false_and, Bool.and_false, om, k1, k2, k4, k4n, k5, k6, c0, c1, cA, cV, go_sem, awp_seq, Nat.reduceBNe, Nat.reduceBEq, Nat.reduceAdd, Nat.reduceSub, Nat.reduceMul, Nat.reduceLeDiff, Nat.reduceLT, Nat.reduceEqDiff, Nat.reduceBneDiff, Int.reduceLE, Int.reduceLT, Int.reduceToNat, Int.reduceBEq, Int.reduceBNe, Int.reduceAdd, Int.reduceSub, Int.cast_ofNat_Int]
    | false =>
      cases cT : a.text == [] with
      | true =>
        simp (maxSteps := 1000000) -implicitDefEqProofs only [List.length_map, bs_size, toList_bs, toList_nil, Bool.not_true, Bool.not_false, Bool.or_true, Bool.true_or, Bool.or_false, Bool.false_or, Bool.and_true, Bool.true_and, Bool.false_and, Bool.and_false, om, k1, k2, k4, k4n, k5, k6, c0, c1, cA, cV, cT, go_sem, awp_seq, Nat.reduceBNe, Nat.reduceBEq, Nat.reduceAdd, Nat.reduceSub, Nat.reduceMul, Nat.reduceLeDiff, Nat.reduceLT, Nat.reduceEqDiff, Nat.reduceBneDiff, Int.reduceLE, Int.reduceLT, Int.reduceToNat, Int.reduceBEq, Int.reduceBNe, Int.reduceAdd, Int.reduceSub, Int.cast_ofNat_Int]
        refine callA_t K ?_
        simp (maxSteps := 1000000) -implicitDefEqProofs only [List.length_map, bs_size, toList_bs, toList_nil, Bool.not_true, Bool.not_false, Bool.or_true, Bool.true_or, Bool.or_false, Bool.false_or, Bool.and_true, Bool.true_and, Bool.false_and, Bool.and_false, om, k1, k2, k4, k4n, k5, k6, c0, c1, cA, cV, cT, go_sem, awp_seq, Nat.reduceBNe, Nat.reduceBEq, Nat.reduceAdd, Nat.reduceSub, Nat.reduceMul, Nat.reduceLeDiff, Nat.reduceLT, Nat.reduceEqDiff, Nat.reduceBneDiff, Int.reduceLE, Int.reduceLT, Int.reduceToNat, Int.reduceBEq, Int.reduceBNe, Int.reduceAdd, Int.reduceSub, Int.cast_ofNat_Int]
      | false =>
        simp (maxSteps := 1000000) -implicitDefEqProofs only [List.length_map, bs_size, toList_bs, toList_nil, Bool.not_true, Bool.not_false, Bool.or_true, Bool.true_or, Bool.or_false, Bool.false_or, Bool.and_true, Bool.true_and, Bool.false_and, Bool.and_false, om, k1, k2, k4, k4n, k5, k6, c0, c1, cA, cV, cT, go_sem, awp_seq, Nat.reduceBNe, Nat.reduceBEq, Nat.reduceAdd, Nat.reduceSub, Nat.reduceMul, Nat.reduceLeDiff, Nat.reduceLT, Nat.reduceEqDiff, Nat.reduceBneDiff, Int.reduceLE, Int.reduceLT, Int.reduceToNat, Int.reduceBEq, Int.reduceBNe, Int.reduceAdd, Int.reduceSub, Int.cast_ofNat_Int]
        refine callA_t H2 ?_
        simp (maxSteps := 1000000) -implicitDefEqProofs only [List.length_map, bs_size, toList_bs, toList_nil, Bool.not_true, Bool.not_false, Bool.or_true, Bool.true_or, Bool.or_false, Bool.false_or, Bool.and_true, Bool.true_and, Bool.false_and, Bool.and_false, om, k1, k2, k4, k4n, k5, k6, c0, c1, cA, cV, cT, go_sem, awp_seq, Nat.reduceBNe, Nat.reduceBEq, Nat.reduceAdd, Nat.reduceSub, Nat.reduceMul, Nat.reduceLeDiff, Nat.reduceLT, Nat.reduceEqDiff, Nat.reduceBneDiff, Int.reduceLE, Int.reduceLT, Int.reduceToNat, Int.reduceBEq, Int.reduceBNe, Int.reduceAdd, Int.reduceSub, Int.cast_ofNat_Int]
  | false =>
    cases cV : a.val != 0 with
    | true =>
      simp (maxSteps := 1000000) -implicitDefEqProofs only [List.length_map, bs_size, toList_bs, toList_nil, Bool.not_true, Bool.not_false, Bool.or_true, Bool.true_or, Bool.or_false, Bool.false_or, Bool.and_true, Bool.true_and, Bool.false_and, Bool.and_false, om, k1, k2, k4, k4n, k5, k6, c0, c1, cA, cV, go_sem, awp_seq, Nat.reduceBNe, Nat.reduceBEq, Nat.reduceAdd, Nat.reduceSub, Nat.reduceMul, Nat.reduceLeDiff, Nat.reduceLT, Nat.reduceEqDiff, Nat.reduceBneDiff, Int.reduceLE, Int.reduceLT, Int.reduceToNat, Int.reduceBEq, Int.reduceBNe, Int.reduceAdd, Int.reduceSub, Int.cast_ofNat_Int]
    | false =>
      cases cT : a.text == [] with
      | true =>
        simp (maxSteps := 1000000) -implicitDefEqProofs only [List.length_map, bs_size, toList_bs, toList_nil, Bool.not_true, Bool.not_false, Bool.or_true, Bool.true_or, Bool.or_false, Bool.false_or, Bool.and_true, Bool.true_and, Bool.false_and, Bool.and_false, om, k1, k2, k4, k4n, k5, k6, c0, c1, cA, cV, cT, go_sem, awp_seq, Nat.reduceBNe, Nat.reduceBEq, Nat.reduceAdd, Nat.reduceSub, Nat.reduceMul, Nat.reduceLeDiff, Nat.reduceLT, Nat.reduceEqDiff, Nat.reduceBneDiff, Int.reduceLE, Int.reduceLT, Int.reduceToNat, Int.reduceBEq, Int.reduceBNe, Int.reduceAdd, Int.reduceSub, Int.cast_ofNat_Int]
        refine callA_t K ?_
        simp (maxSteps := 1000000) -implicitDefEqProofs only [List.length_map, bs_size, toList_bs, toList_nil, Bool.not_true, Bool.not_false, Bool.or_true, Bool.true_or, Bool.or_false, Bool.false_or, Bool.and_true, Bool.true_and, Bool.false_and, Bool.and_false, om, k1, k2, k4, k4n, k5, k6, c0, c1, cA, cV, cT, go_sem, awp_seq, Nat.reduceBNe, Nat.reduceBEq, Nat.reduceAdd, Nat.reduceSub, Nat.reduceMul, Nat.reduceLeDiff, Nat.reduceLT, Nat.reduceEqDiff, Nat.reduceBneDiff, Int.reduceLE, Int.reduceLT, Int.reduceToNat, Int.reduceBEq, Int.reduceBNe, Int.reduceAdd, Int.reduceSub, Int.cast_ofNat_Int]
      | false =>
        simp (maxSteps := 1000000) -implicitDefEqProofs only [List.length_map, bs_size, toList_bs, toList_nil, Bool.not_true, Bool.not_false, Bool.or_true, Bool.true_or, Bool.or_false, Bool.false_or, Bool.and_true, Bool.true_and, Bool.false_and, Bool.and_false, om, k1, k2, k4, k4n, k5, k6, c0, c1, cA, cV, cT, go_sem, awp_seq, Nat.reduceBNe, Nat.reduceBEq, Nat.reduceAdd, Nat.reduceSub, Nat.reduceMul, Nat.reduceLeDiff, Nat.reduceLT, Nat.reduceEqDiff, Nat.reduceBneDiff, Int.reduceLE, Int.reduceLT, Int.reduceToNat, Int.reduceBEq, Int.reduceBNe, Int.reduceAdd, Int.reduceSub, Int.cast_ofNat_Int]
        refine callA_t H2 ?_
        simp (maxSteps := 1000000) -implicitDefEqProofs only [List.length_map, bs_size, toList_bs, toList_nil, Bool.not_true, Bool.not_false, Bool.or_true, Bool.true_or, Bool.or_false, Bool.false_or, Bool.and_true, Bool.true_and, Bool.false_and, Bool.and_false, om, k1, k2, k4, k4n, k5, k6, c0, c1, cA, cV, cT, go_sem, awp_seq, Nat.reduceBNe, Nat.reduceBEq, Nat.reduceAdd, Nat.reduceSub, Nat.reduceMul, Nat.reduceLeDiff, Nat.reduceLT, Nat.reduceEqDiff, Nat.reduceBneDiff, Int.reduceLE, Int.reduceLT, Int.reduceToNat, Int.reduceBEq, Int.reduceBNe, Int.reduceAdd, Int.reduceSub, Int.cast_ofNat_Int]
set_option maxHeartbeats 4000000 in
theorem kv_N (it : ItV) (h : IOK it) (a : AnsV) (ha : ANOK a) (c0 : (itemE it != 0) = false) (c1 : (a.item != it.id) = false) (om : a.om = false) (hk : it.kind = 4) : AC 12 [itA it, ansA a] (i64 (validE it a)) := by
  have I := itemValid_c it h
  have k4 : (it.kind == 4) = true := by rw [hk]; rfl
  have k5 : (it.kind == 5) = false := by rw [hk]; rfl
  have k6 : (it.kind == 6) = false := by rw [hk]; rfl
  have k1 : hasChB it.kind = false := by rw [hk]; rfl
  have k2 : hasTxB it.kind = false := by rw [hk]; rfl
  have k4n : (it.kind != 4) = false := by simp only [bne, k4, Bool.not_true, Bool.not_false]
  have H1 := hasChoices_c it.kind
  have H2 := hasText_c it.kind
  rw [k1] at H1
  rw [k2] at H2
  unfold validE badB
  generalize itemE it = e0 at *
  refine ACalls.of ⟨63, [], []⟩ (fn := Tryz.f12) Tryz.func12 rfl rfl rfl (by kernel_rfl) (by kernel_rfl) (Nat.le_of_ble_eq_true rfl) ?_
  simp (maxSteps := 1000000) -implicitDefEqProofs only [List.length_map, bs_size, toList_bs, toList_nil, Bool.not_true, Bool.not_false, Bool.or_true, Bool.true_or, Bool.or_false, Bool.false_or, Bool.and_true, Bool.true_and, Bool.false_and, Bool.and_false, om, k1, k2, k4, k4n, k5, k6, go_sem, awp_seq, Nat.reduceBNe, Nat.reduceBEq, Nat.reduceAdd, Nat.reduceSub, Nat.reduceMul, Nat.reduceLeDiff, Nat.reduceLT, Nat.reduceEqDiff, Nat.reduceBneDiff, Int.reduceLE, Int.reduceLT, Int.reduceToNat, Int.reduceBEq, Int.reduceBNe, Int.reduceAdd, Int.reduceSub, Int.cast_ofNat_Int]
  refine callA_mk I ?_
  simp (maxSteps := 1000000) -implicitDefEqProofs only [List.length_map, bs_size, toList_bs, toList_nil, Bool.not_true, Bool.not_false, Bool.or_true, Bool.true_or, Bool.or_false, Bool.false_or, Bool.and_true, Bool.true_and, Bool.false_and, Bool.and_false, om, k1, k2, k4, k4n, k5, k6, c0, c1, go_sem, awp_seq, Nat.reduceBNe, Nat.reduceBEq, Nat.reduceAdd, Nat.reduceSub, Nat.reduceMul, Nat.reduceLeDiff, Nat.reduceLT, Nat.reduceEqDiff, Nat.reduceBneDiff, Int.reduceLE, Int.reduceLT, Int.reduceToNat, Int.reduceBEq, Int.reduceBNe, Int.reduceAdd, Int.reduceSub, Int.cast_ofNat_Int]
  cases cA : decide ((0 : Int) < (a.ch.length : Nat)) with
  | true =>
    simp (maxSteps := 1000000) -implicitDefEqProofs only [List.length_map, bs_size, toList_bs, toList_nil, Bool.not_true, Bool.not_false, Bool.or_true, Bool.true_or, Bool.or_false, Bool.false_or, Bool.and_true, Bool.true_and, Bool.false_and, Bool.and_false, om, k1, k2, k4, k4n, k5, k6, c0, c1, cA, go_sem, awp_seq, Nat.reduceBNe, Nat.reduceBEq, Nat.reduceAdd, Nat.reduceSub, Nat.reduceMul, Nat.reduceLeDiff, Nat.reduceLT, Nat.reduceEqDiff, Nat.reduceBneDiff, Int.reduceLE, Int.reduceLT, Int.reduceToNat, Int.reduceBEq, Int.reduceBNe, Int.reduceAdd, Int.reduceSub, Int.cast_ofNat_Int]
    refine callA_t H1 ?_
    simp (maxSteps := 1000000) -implicitDefEqProofs only [List.length_map, bs_size, toList_bs, toList_nil, Bool.not_true, Bool.not_false, Bool.or_true, Bool.true_or, Bool.or_false, Bool.false_or, Bool.and_true, Bool.true_and, Bool.false_and, Bool.and_false, om, k1, k2, k4, k4n, k5, k6, c0, c1, cA, go_sem, awp_seq, Nat.reduceBNe, Nat.reduceBEq, Nat.reduceAdd, Nat.reduceSub, Nat.reduceMul, Nat.reduceLeDiff, Nat.reduceLT, Nat.reduceEqDiff, Nat.reduceBneDiff, Int.reduceLE, Int.reduceLT, Int.reduceToNat, Int.reduceBEq, Int.reduceBNe, Int.reduceAdd, Int.reduceSub, Int.cast_ofNat_Int]
  | false =>
    cases cV : a.val != 0 with
    | true =>
      simp (maxSteps := 1000000) -implicitDefEqProofs only [List.length_map, bs_size, toList_bs, toList_nil, Bool.not_true, Bool.not_false, Bool.or_true, Bool.true_or, Bool.or_false, Bool.false_or, Bool.and_true, Bool.true_and, Bool.false_and, Bool.and_false, om, k1, k2, k4, k4n, k5, k6, c0, c1, cA, cV, go_sem, awp_seq, Nat.reduceBNe, Nat.reduceBEq, Nat.reduceAdd, Nat.reduceSub, Nat.reduceMul, Nat.reduceLeDiff, Nat.reduceLT, Nat.reduceEqDiff, Nat.reduceBneDiff, Int.reduceLE, Int.reduceLT, Int.reduceToNat, Int.reduceBEq, Int.reduceBNe, Int.reduceAdd, Int.reduceSub, Int.cast_ofNat_Int]
      cases cT : a.text == [] with
      | true =>
        cases d1 : decide (a.val < -9999999) with
        | true =>
          simp (maxSteps := 1000000) -implicitDefEqProofs only [List.length_map, bs_size, toList_bs, toList_nil, Bool.not_true, Bool.not_false, Bool.or_true, Bool.true_or, Bool.or_false, Bool.false_or, Bool.and_true, Bool.true_and, Bool.false_and, Bool.and_false, om, k1, k2, k4, k4n, k5, k6, c0, c1, cA, cV, cT, d1, go_sem, awp_seq, Nat.reduceBNe, Nat.reduceBEq, Nat.reduceAdd, Nat.reduceSub, Nat.reduceMul, Nat.reduceLeDiff, Nat.reduceLT, Nat.reduceEqDiff, Nat.reduceBneDiff, Int.reduceLE, Int.reduceLT, Int.reduceToNat, Int.reduceBEq, Int.reduceBNe, Int.reduceAdd, Int.reduceSub, Int.cast_ofNat_Int]
        | false =>
          cases d2 : decide ((9999999 : Int) < a.val) with
          | true =>
            simp (maxSteps := 1000000) -implicitDefEqProofs only [List.length_map, bs_size, toList_bs, toList_nil, Bool.not_true, Bool.not_false, Bool.or_true, Bool.true_or, Bool.or_false, Bool.false_or, Bool.and_true, Bool.true_and, Bool.false_and, Bool.and_false, om, k1, k2, k4, k4n, k5, k6, c0, c1, cA, cV, cT, d1, d2, go_sem, awp_seq, Nat.reduceBNe, Nat.reduceBEq, Nat.reduceAdd, Nat.reduceSub, Nat.reduceMul, Nat.reduceLeDiff, Nat.reduceLT, Nat.reduceEqDiff, Nat.reduceBneDiff, Int.reduceLE, Int.reduceLT, Int.reduceToNat, Int.reduceBEq, Int.reduceBNe, Int.reduceAdd, Int.reduceSub, Int.cast_ofNat_Int]
          | false =>
            simp (maxSteps := 1000000) -implicitDefEqProofs only [List.length_map, bs_size, toList_bs, toList_nil, Bool.not_true, Bool.not_false, Bool.or_true, Bool.true_or, Bool.or_false, Bool.false_or, Bool.and_true, Bool.true_and, Bool.false_and, Bool.and_false, om, k1, k2, k4, k4n, k5, k6, c0, c1, cA, cV, cT, d1, d2, go_sem, awp_seq, Nat.reduceBNe, Nat.reduceBEq, Nat.reduceAdd, Nat.reduceSub, Nat.reduceMul, Nat.reduceLeDiff, Nat.reduceLT, Nat.reduceEqDiff, Nat.reduceBneDiff, Int.reduceLE, Int.reduceLT, Int.reduceToNat, Int.reduceBEq, Int.reduceBNe, Int.reduceAdd, Int.reduceSub, Int.cast_ofNat_Int]
      | false =>
        simp (maxSteps := 1000000) -implicitDefEqProofs only [List.length_map, bs_size, toList_bs, toList_nil, Bool.not_true, Bool.not_false, Bool.or_true, Bool.true_or, Bool.or_false, Bool.false_or, Bool.and_true, Bool.true_and, Bool.false_and, Bool.and_false, om, k1, k2, k4, k4n, k5, k6, c0, c1, cA, cV, cT, go_sem, awp_seq, Nat.reduceBNe, Nat.reduceBEq, Nat.reduceAdd, Nat.reduceSub, Nat.reduceMul, Nat.reduceLeDiff, Nat.reduceLT, Nat.reduceEqDiff, Nat.reduceBneDiff, Int.reduceLE, Int.reduceLT, Int.reduceToNat, Int.reduceBEq, Int.reduceBNe, Int.reduceAdd, Int.reduceSub, Int.cast_ofNat_Int]
        refine callA_t H2 ?_
        simp (maxSteps := 1000000) -implicitDefEqProofs only [List.length_map, bs_size, toList_bs, toList_nil, Bool.not_true, Bool.not_false, Bool.or_true, Bool.true_or, Bool.or_false, Bool.false_or, Bool.and_true, Bool.true_and, Bool.false_and, Bool.and_false, om, k1, k2, k4, k4n, k5, k6, c0, c1, cA, cV, cT, go_sem, awp_seq, Nat.reduceBNe, Nat.reduceBEq, Nat.reduceAdd, Nat.reduceSub, Nat.reduceMul, Nat.reduceLeDiff, Nat.reduceLT, Nat.reduceEqDiff, Nat.reduceBneDiff, Int.reduceLE, Int.reduceLT, Int.reduceToNat, Int.reduceBEq, Int.reduceBNe, Int.reduceAdd, Int.reduceSub, Int.cast_ofNat_Int]
    | false =>
      cases cT : a.text == [] with
      | true =>
        cases d1 : decide (a.val < -9999999) with
        | true =>
          simp (maxSteps := 1000000) -implicitDefEqProofs only [List.length_map, bs_size, toList_bs, toList_nil, Bool.not_true, Bool.not_false, Bool.or_true, Bool.true_or, Bool.or_false, Bool.false_or, Bool.and_true, Bool.true_and, Bool.false_and, Bool.and_false, om, k1, k2, k4, k4n, k5, k6, c0, c1, cA, cV, cT, d1, go_sem, awp_seq, Nat.reduceBNe, Nat.reduceBEq, Nat.reduceAdd, Nat.reduceSub, Nat.reduceMul, Nat.reduceLeDiff, Nat.reduceLT, Nat.reduceEqDiff, Nat.reduceBneDiff, Int.reduceLE, Int.reduceLT, Int.reduceToNat, Int.reduceBEq, Int.reduceBNe, Int.reduceAdd, Int.reduceSub, Int.cast_ofNat_Int]
        | false =>
          cases d2 : decide ((9999999 : Int) < a.val) with
          | true =>
            simp (maxSteps := 1000000) -implicitDefEqProofs only [List.length_map, bs_size, toList_bs, toList_nil, Bool.not_true, Bool.not_false, Bool.or_true, Bool.true_or, Bool.or_false, Bool.false_or, Bool.and_true, Bool.true_and, Bool.false_and, Bool.and_false, om, k1, k2, k4, k4n, k5, k6, c0, c1, cA, cV, cT, d1, d2, go_sem, awp_seq, Nat.reduceBNe, Nat.reduceBEq, Nat.reduceAdd, Nat.reduceSub, Nat.reduceMul, Nat.reduceLeDiff, Nat.reduceLT, Nat.reduceEqDiff, Nat.reduceBneDiff, Int.reduceLE, Int.reduceLT, Int.reduceToNat, Int.reduceBEq, Int.reduceBNe, Int.reduceAdd, Int.reduceSub, Int.cast_ofNat_Int]
          | false =>
            simp (maxSteps := 1000000) -implicitDefEqProofs only [List.length_map, bs_size, toList_bs, toList_nil, Bool.not_true, Bool.not_false, Bool.or_true, Bool.true_or, Bool.or_false, Bool.false_or, Bool.and_true, Bool.true_and, Bool.false_and, Bool.and_false, om, k1, k2, k4, k4n, k5, k6, c0, c1, cA, cV, cT, d1, d2, go_sem, awp_seq, Nat.reduceBNe, Nat.reduceBEq, Nat.reduceAdd, Nat.reduceSub, Nat.reduceMul, Nat.reduceLeDiff, Nat.reduceLT, Nat.reduceEqDiff, Nat.reduceBneDiff, Int.reduceLE, Int.reduceLT, Int.reduceToNat, Int.reduceBEq, Int.reduceBNe, Int.reduceAdd, Int.reduceSub, Int.cast_ofNat_Int]
      | false =>
        simp (maxSteps := 1000000) -implicitDefEqProofs only [List.length_map, bs_size, toList_bs, toList_nil, Bool.not_true, Bool.not_false, Bool.or_true, Bool.true_or, Bool.or_false, Bool.false_or, Bool.and_true, Bool.true_and, Bool.false_and, Bool.and_false, om, k1, k2, k4, k4n, k5, k6, c0, c1, cA, cV, cT, go_sem, awp_seq, Nat.reduceBNe, Nat.reduceBEq, Nat.reduceAdd, Nat.reduceSub, Nat.reduceMul, Nat.reduceLeDiff, Nat.reduceLT, Nat.reduceEqDiff, Nat.reduceBneDiff, Int.reduceLE, Int.reduceLT, Int.reduceToNat, Int.reduceBEq, Int.reduceBNe, Int.reduceAdd, Int.reduceSub, Int.cast_ofNat_Int]
        refine callA_t H2 ?_
        simp (maxSteps := 1000000) -implicitDefEqProofs only [List.length_map, bs_size, toList_bs, toList_nil, Bool.not_true, Bool.not_false, Bool.or_true, Bool.true_or, Bool.or_false, Bool.false_or, Bool.and_true, Bool.true_and, Bool.false_and, Bool.and_false, om, k1, k2, k4, k4n, k5, k6, c0, c1, cA, cV, cT, go_sem, awp_seq, Nat.reduceBNe, Nat.reduceBEq, Nat.reduceAdd, Nat.reduceSub, Nat.reduceMul, Nat.reduceLeDiff, Nat.reduceLT, Nat.reduceEqDiff, Nat.reduceBneDiff, Int.reduceLE, Int.reduceLT, Int.reduceToNat, Int.reduceBEq, Int.reduceBNe, Int.reduceAdd, Int.reduceSub, Int.cast_ofNat_Int]
set_option maxHeartbeats 4000000 in
theorem kv_T (it : ItV) (h : IOK it) (a : AnsV) (ha : ANOK a) (c0 : (itemE it != 0) = false) (c1 : (a.item != it.id) = false) (om : a.om = false) (hk : it.kind = 5) : AC 12 [itA it, ansA a] (i64 (validE it a)) := by
  have I := itemValid_c it h
  have k4 : (it.kind == 4) = false := by rw [hk]; rfl
  have k5 : (it.kind == 5) = true := by rw [hk]; rfl
  have k6 : (it.kind == 6) = false := by rw [hk]; rfl
  have k1 : hasChB it.kind = false := by rw [hk]; rfl
  have k2 : hasTxB it.kind = true := by rw [hk]; rfl
  have k4n : (it.kind != 4) = true := by simp only [bne, k4, Bool.not_true, Bool.not_false]
  have H1 := hasChoices_c it.kind
  have H2 := hasText_c it.kind
  rw [k1] at H1
  rw [k2] at H2
  unfold validE badB
  generalize itemE it = e0 at *
  refine ACalls.of ⟨63, [], []⟩ (fn := Tryz.f12) Tryz.func12 rfl rfl rfl (by kernel_rfl) (by kernel_rfl) (Nat.le_of_ble_eq_true rfl) ?_
  simp (maxSteps := 1000000) -implicitDefEqProofs only [List.length_map, bs_size, toList_bs, toList_nil, Bool.not_true, Bool.not_false, Bool.or_true, Bool.true_or, Bool.or_false, Bool.false_or, Bool.and_true, Bool.true_and, Bool.false_and, Bool.and_false, om, k1, k2, k4, k4n, k5, k6, go_sem, awp_seq, Nat.reduceBNe, Nat.reduceBEq, Nat.reduceAdd, Nat.reduceSub, Nat.reduceMul, Nat.reduceLeDiff, Nat.reduceLT, Nat.reduceEqDiff, Nat.reduceBneDiff, Int.reduceLE, Int.reduceLT, Int.reduceToNat, Int.reduceBEq, Int.reduceBNe, Int.reduceAdd, Int.reduceSub, Int.cast_ofNat_Int]
  refine callA_mk I ?_
  simp (maxSteps := 1000000) -implicitDefEqProofs only [List.length_map, bs_size, toList_bs, toList_nil, Bool.not_true, Bool.not_false, Bool.or_true, Bool.true_or, Bool.or_false, Bool.false_or, Bool.and_true, Bool.true_and, Bool.false_and, Bool.and_false, om, k1, k2, k4, k4n, k5, k6, c0, c1, go_sem, awp_seq, Nat.reduceBNe, Nat.reduceBEq, Nat.reduceAdd, Nat.reduceSub, Nat.reduceMul, Nat.reduceLeDiff, Nat.reduceLT, Nat.reduceEqDiff, Nat.reduceBneDiff, Int.reduceLE, Int.reduceLT, Int.reduceToNat, Int.reduceBEq, Int.reduceBNe, Int.reduceAdd, Int.reduceSub, Int.cast_ofNat_Int]
  cases cA : decide ((0 : Int) < (a.ch.length : Nat)) with
  | true =>
    simp (maxSteps := 1000000) -implicitDefEqProofs only [List.length_map, bs_size, toList_bs, toList_nil, Bool.not_true, Bool.not_false, Bool.or_true, Bool.true_or, Bool.or_false, Bool.false_or, Bool.and_true, Bool.true_and, Bool.false_and, Bool.and_false, om, k1, k2, k4, k4n, k5, k6, c0, c1, cA, go_sem, awp_seq, Nat.reduceBNe, Nat.reduceBEq, Nat.reduceAdd, Nat.reduceSub, Nat.reduceMul, Nat.reduceLeDiff, Nat.reduceLT, Nat.reduceEqDiff, Nat.reduceBneDiff, Int.reduceLE, Int.reduceLT, Int.reduceToNat, Int.reduceBEq, Int.reduceBNe, Int.reduceAdd, Int.reduceSub, Int.cast_ofNat_Int]
    refine callA_t H1 ?_
    simp (maxSteps := 1000000) -implicitDefEqProofs only [List.length_map, bs_size, toList_bs, toList_nil, Bool.not_true, Bool.not_false, Bool.or_true, Bool.true_or, Bool.or_false, Bool.false_or, Bool.and_true, Bool.true_and, Bool.false_and, Bool.and_false, om, k1, k2, k4, k4n, k5, k6, c0, c1, cA, go_sem, awp_seq, Nat.reduceBNe, Nat.reduceBEq, Nat.reduceAdd, Nat.reduceSub, Nat.reduceMul, Nat.reduceLeDiff, Nat.reduceLT, Nat.reduceEqDiff, Nat.reduceBneDiff, Int.reduceLE, Int.reduceLT, Int.reduceToNat, Int.reduceBEq, Int.reduceBNe, Int.reduceAdd, Int.reduceSub, Int.cast_ofNat_Int]
  | false =>
    cases cV : a.val != 0 with
    | true =>
      simp (maxSteps := 1000000) -implicitDefEqProofs only [List.length_map, bs_size, toList_bs, toList_nil, Bool.not_true, Bool.not_false, Bool.or_true, Bool.true_or, Bool.or_false, Bool.false_or, Bool.and_true, Bool.true_and, Bool.false_and, Bool.and_false, om, k1, k2, k4, k4n, k5, k6, c0, c1, cA, cV, go_sem, awp_seq, Nat.reduceBNe, Nat.reduceBEq, Nat.reduceAdd, Nat.reduceSub, Nat.reduceMul, Nat.reduceLeDiff, Nat.reduceLT, Nat.reduceEqDiff, Nat.reduceBneDiff, Int.reduceLE, Int.reduceLT, Int.reduceToNat, Int.reduceBEq, Int.reduceBNe, Int.reduceAdd, Int.reduceSub, Int.cast_ofNat_Int]
    | false =>
      cases cT : a.text == [] with
      | true =>
        cases d3 : decide ((200 : Int) < (a.text.length : Nat)) with
        | true =>
          simp (maxSteps := 1000000) -implicitDefEqProofs only [List.length_map, bs_size, toList_bs, toList_nil, Bool.not_true, Bool.not_false, Bool.or_true, Bool.true_or, Bool.or_false, Bool.false_or, Bool.and_true, Bool.true_and, Bool.false_and, Bool.and_false, om, k1, k2, k4, k4n, k5, k6, c0, c1, cA, cV, cT, d3, go_sem, awp_seq, Nat.reduceBNe, Nat.reduceBEq, Nat.reduceAdd, Nat.reduceSub, Nat.reduceMul, Nat.reduceLeDiff, Nat.reduceLT, Nat.reduceEqDiff, Nat.reduceBneDiff, Int.reduceLE, Int.reduceLT, Int.reduceToNat, Int.reduceBEq, Int.reduceBNe, Int.reduceAdd, Int.reduceSub, Int.cast_ofNat_Int]
        | false =>
          simp (maxSteps := 1000000) -implicitDefEqProofs only [List.length_map, bs_size, toList_bs, toList_nil, Bool.not_true, Bool.not_false, Bool.or_true, Bool.true_or, Bool.or_false, Bool.false_or, Bool.and_true, Bool.true_and, Bool.false_and, Bool.and_false, om, k1, k2, k4, k4n, k5, k6, c0, c1, cA, cV, cT, d3, go_sem, awp_seq, Nat.reduceBNe, Nat.reduceBEq, Nat.reduceAdd, Nat.reduceSub, Nat.reduceMul, Nat.reduceLeDiff, Nat.reduceLT, Nat.reduceEqDiff, Nat.reduceBneDiff, Int.reduceLE, Int.reduceLT, Int.reduceToNat, Int.reduceBEq, Int.reduceBNe, Int.reduceAdd, Int.reduceSub, Int.cast_ofNat_Int]
      | false =>
        simp (maxSteps := 1000000) -implicitDefEqProofs only [List.length_map, bs_size, toList_bs, toList_nil, Bool.not_true, Bool.not_false, Bool.or_true, Bool.true_or, Bool.or_false, Bool.false_or, Bool.and_true, Bool.true_and, Bool.false_and, Bool.and_false, om, k1, k2, k4, k4n, k5, k6, c0, c1, cA, cV, cT, go_sem, awp_seq, Nat.reduceBNe, Nat.reduceBEq, Nat.reduceAdd, Nat.reduceSub, Nat.reduceMul, Nat.reduceLeDiff, Nat.reduceLT, Nat.reduceEqDiff, Nat.reduceBneDiff, Int.reduceLE, Int.reduceLT, Int.reduceToNat, Int.reduceBEq, Int.reduceBNe, Int.reduceAdd, Int.reduceSub, Int.cast_ofNat_Int]
        refine callA_t H2 ?_
        simp (maxSteps := 1000000) -implicitDefEqProofs only [List.length_map, bs_size, toList_bs, toList_nil, Bool.not_true, Bool.not_false, Bool.or_true, Bool.true_or, Bool.or_false, Bool.false_or, Bool.and_true, Bool.true_and, Bool.false_and, Bool.and_false, om, k1, k2, k4, k4n, k5, k6, c0, c1, cA, cV, cT, go_sem, awp_seq, Nat.reduceBNe, Nat.reduceBEq, Nat.reduceAdd, Nat.reduceSub, Nat.reduceMul, Nat.reduceLeDiff, Nat.reduceLT, Nat.reduceEqDiff, Nat.reduceBneDiff, Int.reduceLE, Int.reduceLT, Int.reduceToNat, Int.reduceBEq, Int.reduceBNe, Int.reduceAdd, Int.reduceSub, Int.cast_ofNat_Int]
        cases d3 : decide ((200 : Int) < (a.text.length : Nat)) with
        | true =>
          simp (maxSteps := 1000000) -implicitDefEqProofs only [List.length_map, bs_size, toList_bs, toList_nil, Bool.not_true, Bool.not_false, Bool.or_true, Bool.true_or, Bool.or_false, Bool.false_or, Bool.and_true, Bool.true_and, Bool.false_and, Bool.and_false, om, k1, k2, k4, k4n, k5, k6, c0, c1, cA, cV, cT, d3, go_sem, awp_seq, Nat.reduceBNe, Nat.reduceBEq, Nat.reduceAdd, Nat.reduceSub, Nat.reduceMul, Nat.reduceLeDiff, Nat.reduceLT, Nat.reduceEqDiff, Nat.reduceBneDiff, Int.reduceLE, Int.reduceLT, Int.reduceToNat, Int.reduceBEq, Int.reduceBNe, Int.reduceAdd, Int.reduceSub, Int.cast_ofNat_Int]
        | false =>
          simp (maxSteps := 1000000) -implicitDefEqProofs only [List.length_map, bs_size, toList_bs, toList_nil, Bool.not_true, Bool.not_false, Bool.or_true, Bool.true_or, Bool.or_false, Bool.false_or, Bool.and_true, Bool.true_and, Bool.false_and, Bool.and_false, om, k1, k2, k4, k4n, k5, k6, c0, c1, cA, cV, cT, d3, go_sem, awp_seq, Nat.reduceBNe, Nat.reduceBEq, Nat.reduceAdd, Nat.reduceSub, Nat.reduceMul, Nat.reduceLeDiff, Nat.reduceLT, Nat.reduceEqDiff, Nat.reduceBneDiff, Int.reduceLE, Int.reduceLT, Int.reduceToNat, Int.reduceBEq, Int.reduceBNe, Int.reduceAdd, Int.reduceSub, Int.cast_ofNat_Int]
set_option maxHeartbeats 4000000 in
theorem kv_E (it : ItV) (h : IOK it) (a : AnsV) (ha : ANOK a) (c0 : (itemE it != 0) = false) (c1 : (a.item != it.id) = false) (om : a.om = false) (hk : it.kind = 6) : AC 12 [itA it, ansA a] (i64 (validE it a)) := by
  have I := itemValid_c it h
  have k4 : (it.kind == 4) = false := by rw [hk]; rfl
  have k5 : (it.kind == 5) = false := by rw [hk]; rfl
  have k6 : (it.kind == 6) = true := by rw [hk]; rfl
  have k1 : hasChB it.kind = false := by rw [hk]; rfl
  have k2 : hasTxB it.kind = true := by rw [hk]; rfl
  have k4n : (it.kind != 4) = true := by simp only [bne, k4, Bool.not_true, Bool.not_false]
  have H1 := hasChoices_c it.kind
  have H2 := hasText_c it.kind
  rw [k1] at H1
  rw [k2] at H2
  unfold validE badB
  generalize itemE it = e0 at *
  refine ACalls.of ⟨63, [], []⟩ (fn := Tryz.f12) Tryz.func12 rfl rfl rfl (by kernel_rfl) (by kernel_rfl) (Nat.le_of_ble_eq_true rfl) ?_
  simp (maxSteps := 1000000) -implicitDefEqProofs only [List.length_map, bs_size, toList_bs, toList_nil, Bool.not_true, Bool.not_false, Bool.or_true, Bool.true_or, Bool.or_false, Bool.false_or, Bool.and_true, Bool.true_and, Bool.false_and, Bool.and_false, om, k1, k2, k4, k4n, k5, k6, go_sem, awp_seq, Nat.reduceBNe, Nat.reduceBEq, Nat.reduceAdd, Nat.reduceSub, Nat.reduceMul, Nat.reduceLeDiff, Nat.reduceLT, Nat.reduceEqDiff, Nat.reduceBneDiff, Int.reduceLE, Int.reduceLT, Int.reduceToNat, Int.reduceBEq, Int.reduceBNe, Int.reduceAdd, Int.reduceSub, Int.cast_ofNat_Int]
  refine callA_mk I ?_
  simp (maxSteps := 1000000) -implicitDefEqProofs only [List.length_map, bs_size, toList_bs, toList_nil, Bool.not_true, Bool.not_false, Bool.or_true, Bool.true_or, Bool.or_false, Bool.false_or, Bool.and_true, Bool.true_and, Bool.false_and, Bool.and_false, om, k1, k2, k4, k4n, k5, k6, c0, c1, go_sem, awp_seq, Nat.reduceBNe, Nat.reduceBEq, Nat.reduceAdd, Nat.reduceSub, Nat.reduceMul, Nat.reduceLeDiff, Nat.reduceLT, Nat.reduceEqDiff, Nat.reduceBneDiff, Int.reduceLE, Int.reduceLT, Int.reduceToNat, Int.reduceBEq, Int.reduceBNe, Int.reduceAdd, Int.reduceSub, Int.cast_ofNat_Int]
  cases cA : decide ((0 : Int) < (a.ch.length : Nat)) with
  | true =>
    simp (maxSteps := 1000000) -implicitDefEqProofs only [List.length_map, bs_size, toList_bs, toList_nil, Bool.not_true, Bool.not_false, Bool.or_true, Bool.true_or, Bool.or_false, Bool.false_or, Bool.and_true, Bool.true_and, Bool.false_and, Bool.and_false, om, k1, k2, k4, k4n, k5, k6, c0, c1, cA, go_sem, awp_seq, Nat.reduceBNe, Nat.reduceBEq, Nat.reduceAdd, Nat.reduceSub, Nat.reduceMul, Nat.reduceLeDiff, Nat.reduceLT, Nat.reduceEqDiff, Nat.reduceBneDiff, Int.reduceLE, Int.reduceLT, Int.reduceToNat, Int.reduceBEq, Int.reduceBNe, Int.reduceAdd, Int.reduceSub, Int.cast_ofNat_Int]
    refine callA_t H1 ?_
    simp (maxSteps := 1000000) -implicitDefEqProofs only [List.length_map, bs_size, toList_bs, toList_nil, Bool.not_true, Bool.not_false, Bool.or_true, Bool.true_or, Bool.or_false, Bool.false_or, Bool.and_true, Bool.true_and, Bool.false_and, Bool.and_false, om, k1, k2, k4, k4n, k5, k6, c0, c1, cA, go_sem, awp_seq, Nat.reduceBNe, Nat.reduceBEq, Nat.reduceAdd, Nat.reduceSub, Nat.reduceMul, Nat.reduceLeDiff, Nat.reduceLT, Nat.reduceEqDiff, Nat.reduceBneDiff, Int.reduceLE, Int.reduceLT, Int.reduceToNat, Int.reduceBEq, Int.reduceBNe, Int.reduceAdd, Int.reduceSub, Int.cast_ofNat_Int]
  | false =>
    cases cV : a.val != 0 with
    | true =>
      simp (maxSteps := 1000000) -implicitDefEqProofs only [List.length_map, bs_size, toList_bs, toList_nil, Bool.not_true, Bool.not_false, Bool.or_true, Bool.true_or, Bool.or_false, Bool.false_or, Bool.and_true, Bool.true_and, Bool.false_and, Bool.and_false, om, k1, k2, k4, k4n, k5, k6, c0, c1, cA, cV, go_sem, awp_seq, Nat.reduceBNe, Nat.reduceBEq, Nat.reduceAdd, Nat.reduceSub, Nat.reduceMul, Nat.reduceLeDiff, Nat.reduceLT, Nat.reduceEqDiff, Nat.reduceBneDiff, Int.reduceLE, Int.reduceLT, Int.reduceToNat, Int.reduceBEq, Int.reduceBNe, Int.reduceAdd, Int.reduceSub, Int.cast_ofNat_Int]
    | false =>
      cases cT : a.text == [] with
      | true =>
        cases d4 : decide ((2000 : Int) < (a.text.length : Nat)) with
        | true =>
          simp (maxSteps := 1000000) -implicitDefEqProofs only [List.length_map, bs_size, toList_bs, toList_nil, Bool.not_true, Bool.not_false, Bool.or_true, Bool.true_or, Bool.or_false, Bool.false_or, Bool.and_true, Bool.true_and, Bool.false_and, Bool.and_false, om, k1, k2, k4, k4n, k5, k6, c0, c1, cA, cV, cT, d4, go_sem, awp_seq, Nat.reduceBNe, Nat.reduceBEq, Nat.reduceAdd, Nat.reduceSub, Nat.reduceMul, Nat.reduceLeDiff, Nat.reduceLT, Nat.reduceEqDiff, Nat.reduceBneDiff, Int.reduceLE, Int.reduceLT, Int.reduceToNat, Int.reduceBEq, Int.reduceBNe, Int.reduceAdd, Int.reduceSub, Int.cast_ofNat_Int]
        | false =>
          simp (maxSteps := 1000000) -implicitDefEqProofs only [List.length_map, bs_size, toList_bs, toList_nil, Bool.not_true, Bool.not_false, Bool.or_true, Bool.true_or, Bool.or_false, Bool.false_or, Bool.and_true, Bool.true_and, Bool.false_and, Bool.and_false, om, k1, k2, k4, k4n, k5, k6, c0, c1, cA, cV, cT, d4, go_sem, awp_seq, Nat.reduceBNe, Nat.reduceBEq, Nat.reduceAdd, Nat.reduceSub, Nat.reduceMul, Nat.reduceLeDiff, Nat.reduceLT, Nat.reduceEqDiff, Nat.reduceBneDiff, Int.reduceLE, Int.reduceLT, Int.reduceToNat, Int.reduceBEq, Int.reduceBNe, Int.reduceAdd, Int.reduceSub, Int.cast_ofNat_Int]
      | false =>
        simp (maxSteps := 1000000) -implicitDefEqProofs only [List.length_map, bs_size, toList_bs, toList_nil, Bool.not_true, Bool.not_false, Bool.or_true, Bool.true_or, Bool.or_false, Bool.false_or, Bool.and_true, Bool.true_and, Bool.false_and, Bool.and_false, om, k1, k2, k4, k4n, k5, k6, c0, c1, cA, cV, cT, go_sem, awp_seq, Nat.reduceBNe, Nat.reduceBEq, Nat.reduceAdd, Nat.reduceSub, Nat.reduceMul, Nat.reduceLeDiff, Nat.reduceLT, Nat.reduceEqDiff, Nat.reduceBneDiff, Int.reduceLE, Int.reduceLT, Int.reduceToNat, Int.reduceBEq, Int.reduceBNe, Int.reduceAdd, Int.reduceSub, Int.cast_ofNat_Int]
        refine callA_t H2 ?_
        simp (maxSteps := 1000000) -implicitDefEqProofs only [List.length_map, bs_size, toList_bs, toList_nil, Bool.not_true, Bool.not_false, Bool.or_true, Bool.true_or, Bool.or_false, Bool.false_or, Bool.and_true, Bool.true_and, Bool.false_and, Bool.and_false, om, k1, k2, k4, k4n, k5, k6, c0, c1, cA, cV, cT, go_sem, awp_seq, Nat.reduceBNe, Nat.reduceBEq, Nat.reduceAdd, Nat.reduceSub, Nat.reduceMul, Nat.reduceLeDiff, Nat.reduceLT, Nat.reduceEqDiff, Nat.reduceBneDiff, Int.reduceLE, Int.reduceLT, Int.reduceToNat, Int.reduceBEq, Int.reduceBNe, Int.reduceAdd, Int.reduceSub, Int.cast_ofNat_Int]
        cases d4 : decide ((2000 : Int) < (a.text.length : Nat)) with
        | true =>
          simp (maxSteps := 1000000) -implicitDefEqProofs only [List.length_map, bs_size, toList_bs, toList_nil, Bool.not_true, Bool.not_false, Bool.or_true, Bool.true_or, Bool.or_false, Bool.false_or, Bool.and_true, Bool.true_and, Bool.false_and, Bool.and_false, om, k1, k2, k4, k4n, k5, k6, c0, c1, cA, cV, cT, d4, go_sem, awp_seq, Nat.reduceBNe, Nat.reduceBEq, Nat.reduceAdd, Nat.reduceSub, Nat.reduceMul, Nat.reduceLeDiff, Nat.reduceLT, Nat.reduceEqDiff, Nat.reduceBneDiff, Int.reduceLE, Int.reduceLT, Int.reduceToNat, Int.reduceBEq, Int.reduceBNe, Int.reduceAdd, Int.reduceSub, Int.cast_ofNat_Int]
        | false =>
          simp (maxSteps := 1000000) -implicitDefEqProofs only [List.length_map, bs_size, toList_bs, toList_nil, Bool.not_true, Bool.not_false, Bool.or_true, Bool.true_or, Bool.or_false, Bool.false_or, Bool.and_true, Bool.true_and, Bool.false_and, Bool.and_false, om, k1, k2, k4, k4n, k5, k6, c0, c1, cA, cV, cT, d4, go_sem, awp_seq, Nat.reduceBNe, Nat.reduceBEq, Nat.reduceAdd, Nat.reduceSub, Nat.reduceMul, Nat.reduceLeDiff, Nat.reduceLT, Nat.reduceEqDiff, Nat.reduceBneDiff, Int.reduceLE, Int.reduceLT, Int.reduceToNat, Int.reduceBEq, Int.reduceBNe, Int.reduceAdd, Int.reduceSub, Int.cast_ofNat_Int]
theorem keyingValid_c (it : ItV) (h : IOK it) (a : AnsV) (ha : ANOK a) : AC 12 [itA it, ansA a] (i64 (validE it a)) := by
  cases c0 : itemE it != 0 with
  | true =>
    have I := itemValid_c it h
    unfold validE
    generalize itemE it = e0 at *
    refine ACalls.of ⟨63, [], []⟩ (fn := Tryz.f12) Tryz.func12 rfl rfl rfl (by kernel_rfl) (by kernel_rfl) (Nat.le_of_ble_eq_true rfl) ?_
    simp (maxSteps := 1000000) -implicitDefEqProofs only [go_sem, awp_seq, Nat.reduceBNe, Nat.reduceBEq, Nat.reduceAdd, Nat.reduceSub, Nat.reduceMul, Nat.reduceLeDiff, Nat.reduceLT, Nat.reduceEqDiff, Nat.reduceBneDiff, Int.reduceLE, Int.reduceLT, Int.reduceToNat, Int.reduceBEq, Int.reduceBNe, Int.reduceAdd, Int.reduceSub, Int.cast_ofNat_Int]
    refine callA_mk I ?_
    simp (maxSteps := 1000000) -implicitDefEqProofs only [c0, go_sem, awp_seq, Nat.reduceBNe, Nat.reduceBEq, Nat.reduceAdd, Nat.reduceSub, Nat.reduceMul, Nat.reduceLeDiff, Nat.reduceLT, Nat.reduceEqDiff, Nat.reduceBneDiff, Int.reduceLE, Int.reduceLT, Int.reduceToNat, Int.reduceBEq, Int.reduceBNe, Int.reduceAdd, Int.reduceSub, Int.cast_ofNat_Int]
  | false =>
  cases c1 : a.item != it.id with
  | true =>
    have I := itemValid_c it h
    unfold validE
    generalize itemE it = e0 at *
    refine ACalls.of ⟨63, [], []⟩ (fn := Tryz.f12) Tryz.func12 rfl rfl rfl (by kernel_rfl) (by kernel_rfl) (Nat.le_of_ble_eq_true rfl) ?_
    simp (maxSteps := 1000000) -implicitDefEqProofs only [go_sem, awp_seq, Nat.reduceBNe, Nat.reduceBEq, Nat.reduceAdd, Nat.reduceSub, Nat.reduceMul, Nat.reduceLeDiff, Nat.reduceLT, Nat.reduceEqDiff, Nat.reduceBneDiff, Int.reduceLE, Int.reduceLT, Int.reduceToNat, Int.reduceBEq, Int.reduceBNe, Int.reduceAdd, Int.reduceSub, Int.cast_ofNat_Int]
    refine callA_mk I ?_
    simp (maxSteps := 1000000) -implicitDefEqProofs only [c0, c1, go_sem, awp_seq, Nat.reduceBNe, Nat.reduceBEq, Nat.reduceAdd, Nat.reduceSub, Nat.reduceMul, Nat.reduceLeDiff, Nat.reduceLT, Nat.reduceEqDiff, Nat.reduceBneDiff, Int.reduceLE, Int.reduceLT, Int.reduceToNat, Int.reduceBEq, Int.reduceBNe, Int.reduceAdd, Int.reduceSub, Int.cast_ofNat_Int]
  | false =>
  have hk := item_kind c0
  cases om : a.om with
  | true => exact kv_om it h a ha c0 c1 om
  | false =>
    by_cases h4 : it.kind = 4
    · exact kv_N it h a ha c0 c1 om h4
    by_cases h5 : it.kind = 5
    · exact kv_T it h a ha c0 c1 om h5
    by_cases h6 : it.kind = 6
    · exact kv_E it h a ha c0 c1 om h6
    have hh : it.kind = 1 ∨ it.kind = 2 ∨ it.kind = 3 := by omega
    refine kv_C it h a ha c0 c1 om ?_ ?_ (by simpa using h4) (by simpa using h5) (by simpa using h6)
    · rcases hh with h | h | h <;> rw [h] <;> rfl
    · rcases hh with h | h | h <;> rw [h] <;> rfl
end Go.Proofs.YtkmicjpoekbhfaaGreatDoor

/- Chapter 40: the scores of choices and of orders. INTS -/
set_option linter.unusedSimpArgs false
set_option linter.unusedVariables false
namespace Go.Proofs.YtkmicjpoekbhfaaGreatDoor
open Go.RowKit Lim

def dM (key : List Int) (c : Int) : Int := bif key.contains c then 1 else -1
/-- The choices of the key less the others. -/
def netM (key : List Int) : List Int → Int
  | [] => 0
  | c :: r => dM key c + netM key r
theorem dM_le (key : List Int) (c : Int) : -1 ≤ dM key c ∧ dM key c ≤ 1 := by unfold dM; cases key.contains c <;> simp
theorem netM_le (key : List Int) : ∀ l : List Int, -(l.length : Int) ≤ netM key l ∧ netM key l ≤ (l.length : Int)
  | [] => by simp [netM]
  | c :: r => by
    have h1 := netM_le key r
    have h2 := dM_le key c
    simp only [netM, List.length_cons]
    omega
def maxI (x y : Int) : Int := if y > x then y else x
def multiV (it : ItV) (l : List Int) : Int := (maxI (netM it.key l) 0 * it.pts).tdiv ((it.key.length : Nat) : Int)
theorem tdiv_small {x d : Int} (h0 : 0 ≤ x) (hx : x ≤ 1000000000000000) (hd : 0 < d) : IntKind.i64.wrap (x.tdiv d) = x.tdiv d := by
  have h1 : 0 ≤ x.tdiv d := Int.tdiv_nonneg h0 (by omega)
  have h2 : x.tdiv d ≤ x := by
    rw [Int.tdiv_eq_ediv_of_nonneg h0]
    exact Int.ediv_le_self d h0
  rw [IntWalk.i64_in _ (by omega)]
theorem maxI_le {x : Int} {n : Int} (h : x ≤ n) (hn : 0 ≤ n) : 0 ≤ maxI x 0 ∧ maxI x 0 ≤ n := by
  unfold maxI; split <;> omega
theorem mul_small {x p : Int} (h0 : 0 ≤ x) (hx : x ≤ 10000000000000) (hp : 1 ≤ p ∧ p ≤ 5) : IntKind.i64.wrap (x * p) = x * p ∧ 0 ≤ x * p ∧ x * p ≤ 1000000000000000 := by
  have h1 : 0 ≤ x * p := Int.mul_nonneg h0 (by omega)
  have h2 : x * p ≤ x * 5 := Int.mul_le_mul_of_nonneg_left hp.2 h0
  refine ⟨by rw [IntWalk.i64_in _ (by omega)], h1, by omega⟩
set_option maxHeartbeats 2000000 in
theorem scoreMulti_c (it : ItV) (h : IOK it) (l : List Int) (hl : l.length ≤ 2000000) (hp : 1 ≤ it.pts ∧ it.pts ≤ 5) (hk : 0 < it.key.length) : AT 20 [itA it, ints l] (i64 (multiV it l)) := by
  have kn := h.key
  have C := fun c => contains_c it.key c (by omega)
  have nl := netM_le it.key l
  have m1 := maxI_le (n := (l.length : Int)) nl.2 (by omega)
  have m2 := mul_small m1.1 (by omega) hp
  have m3 := tdiv_small (d := ((it.key.length : Nat) : Int)) m2.2.1 m2.2.2 (by omega)
  have d0 : ¬ ((it.key.length : Nat) : Int) = 0 := by omega
  unfold multiV
  have hT : netM it.key (l.drop 0) = netM it.key l := by rw [List.drop_zero]
  generalize netM it.key l = T at *
  refine ACalls.of ⟨11, [], []⟩ (fn := Tryz.f20) Tryz.func20 rfl rfl rfl (by kernel_rfl) (by kernel_rfl) (Nat.le_of_ble_eq_true rfl) ?_
  simp (maxSteps := 1000000) -implicitDefEqProofs only [List.length_map, go_sem, awp_seq, Nat.reduceBNe, Nat.reduceBEq, Nat.reduceAdd, Nat.reduceSub, Nat.reduceMul, Nat.reduceLeDiff, Nat.reduceLT, Nat.reduceEqDiff, Nat.reduceBneDiff, Int.reduceLE, Int.reduceLT, Int.reduceToNat, Int.reduceBEq, Int.reduceBNe, Int.reduceAdd, Int.reduceSub, Int.cast_ofNat_Int]
  refine loop_mk (α := {x : Nat × Int // x.1 ≤ l.length ∧ -(x.1 : Int) ≤ x.2 ∧ x.2 ≤ (x.1 : Int) ∧ x.2 + netM it.key (l.drop x.1) = T}) (fun x => [(0, some (.av (itA it))), (1, some (.av (ints l))), (2, some (.ref 2 0)), (4, some (.av (i64 0))), (5, some (.av (i64 x.1.2))), (8, some (.av (ints l))), (9, some (.av (i64 (l.length : Nat)))), (10, some (.av (i64 (x.1.1 : Nat))))]) (fun _ => [(2, itC it)]) (fun _ => []) (fun x => l.length - x.1.1) ⟨(0, 0), by simp, by simp, by simp, by simpa using hT⟩ ?_ ?_
  · simp (maxSteps := 1000000) -implicitDefEqProofs only [List.length_map, go_sem, awp_seq, Nat.reduceBNe, Nat.reduceBEq, Nat.reduceAdd, Nat.reduceSub, Nat.reduceMul, Nat.reduceLeDiff, Nat.reduceLT, Nat.reduceEqDiff, Nat.reduceBneDiff, Int.reduceLE, Int.reduceLT, Int.reduceToNat, Int.reduceBEq, Int.reduceBNe, Int.reduceAdd, Int.reduceSub, Int.cast_ofNat_Int]
  · rintro ⟨⟨k, s⟩, hk1, hs1, hs2, hs3⟩
    dsimp only at hk1 hs1 hs2 hs3
    by_cases hlt : k < l.length
    · have g1 : decide (((k : Nat) : Int) < (l.length : Nat)) = true := by simp; omega
      have e1 := ints_get l k
      rw [List.getElem?_eq_getElem hlt] at e1
      simp only [Option.map_some] at e1
      have w1 : IntKind.i64.wrap ((k : Int) + 1) = ((k + 1 : Nat) : Int) := by rw [IntWalk.i64_in _ (by omega)]; omega
      have w2 : IntKind.i64.wrap (s + 1) = s + 1 := by rw [IntWalk.i64_in _ (by omega)]
      have w3 : IntKind.i64.wrap (s - 1) = s - 1 := by rw [IntWalk.i64_in _ (by omega)]
      rw [List.drop_eq_getElem_cons hlt] at hs3
      simp only [netM] at hs3
      have W := C l[k]
      unfold dM at hs3
      simp (maxSteps := 1000000) -implicitDefEqProofs only [g1, e1, Int.toNat_natCast, Int.natCast_nonneg, go_sem, awp_seq, Nat.reduceBNe, Nat.reduceBEq, Nat.reduceAdd, Nat.reduceSub, Nat.reduceMul, Nat.reduceLeDiff, Nat.reduceLT, Nat.reduceEqDiff, Nat.reduceBneDiff, Int.reduceLE, Int.reduceLT, Int.reduceToNat, Int.reduceBEq, Int.reduceBNe, Int.reduceAdd, Int.reduceSub, Int.cast_ofNat_Int]
      refine callA_tt W ?_
      cases hc : it.key.contains l[k] with
      | true =>
        rw [hc] at hs3
        simp only [cond_true] at hs3
        simp (maxSteps := 1000000) -implicitDefEqProofs only [w1, w2, go_sem, awp_seq, Nat.reduceBNe, Nat.reduceBEq, Nat.reduceAdd, Nat.reduceSub, Nat.reduceMul, Nat.reduceLeDiff, Nat.reduceLT, Nat.reduceEqDiff, Nat.reduceBneDiff, Int.reduceLE, Int.reduceLT, Int.reduceToNat, Int.reduceBEq, Int.reduceBNe, Int.reduceAdd, Int.reduceSub, Int.cast_ofNat_Int]
        refine roundK_mk ⟨(k + 1, s + 1), by show k + 1 ≤ _; omega, by show -((k + 1 : Nat) : Int) ≤ s + 1; omega, by show s + 1 ≤ ((k + 1 : Nat) : Int); omega, by show s + 1 + netM it.key (l.drop (k + 1)) = T; omega⟩ ?_ (by show l.length - (k + 1) < l.length - k; omega)
        simp (maxSteps := 1000000) -implicitDefEqProofs only [go_sem, awp_seq, Nat.reduceBNe, Nat.reduceBEq, Nat.reduceAdd, Nat.reduceSub, Nat.reduceMul, Nat.reduceLeDiff, Nat.reduceLT, Nat.reduceEqDiff, Nat.reduceBneDiff, Int.reduceLE, Int.reduceLT, Int.reduceToNat, Int.reduceBEq, Int.reduceBNe, Int.reduceAdd, Int.reduceSub, Int.cast_ofNat_Int]
      | false =>
        rw [hc] at hs3
        simp only [cond_false] at hs3
        simp (maxSteps := 1000000) -implicitDefEqProofs only [w1, w3, go_sem, awp_seq, Nat.reduceBNe, Nat.reduceBEq, Nat.reduceAdd, Nat.reduceSub, Nat.reduceMul, Nat.reduceLeDiff, Nat.reduceLT, Nat.reduceEqDiff, Nat.reduceBneDiff, Int.reduceLE, Int.reduceLT, Int.reduceToNat, Int.reduceBEq, Int.reduceBNe, Int.reduceAdd, Int.reduceSub, Int.cast_ofNat_Int]
        refine roundK_mk ⟨(k + 1, s - 1), by show k + 1 ≤ _; omega, by show -((k + 1 : Nat) : Int) ≤ s - 1; omega, by show s - 1 ≤ ((k + 1 : Nat) : Int); omega, by show s - 1 + netM it.key (l.drop (k + 1)) = T; omega⟩ ?_ (by show l.length - (k + 1) < l.length - k; omega)
        simp (maxSteps := 1000000) -implicitDefEqProofs only [go_sem, awp_seq, Nat.reduceBNe, Nat.reduceBEq, Nat.reduceAdd, Nat.reduceSub, Nat.reduceMul, Nat.reduceLeDiff, Nat.reduceLT, Nat.reduceEqDiff, Nat.reduceBneDiff, Int.reduceLE, Int.reduceLT, Int.reduceToNat, Int.reduceBEq, Int.reduceBNe, Int.reduceAdd, Int.reduceSub, Int.cast_ofNat_Int]
    · have g1 : decide (((k : Nat) : Int) < (l.length : Nat)) = false := by simp; omega
      rw [List.drop_of_length_le (by omega)] at hs3
      simp only [netM, Int.add_zero] at hs3
      subst hs3
      have m0 : (if (0 : Int) > s then (0 : Int) else s) = maxI s 0 := rfl
      simp (maxSteps := 1000000) -implicitDefEqProofs only [List.length_map, g1, m0, m2.1, m3, d0, go_sem, awp_seq, Nat.reduceBNe, Nat.reduceBEq, Nat.reduceAdd, Nat.reduceSub, Nat.reduceMul, Nat.reduceLeDiff, Nat.reduceLT, Nat.reduceEqDiff, Nat.reduceBneDiff, Int.reduceLE, Int.reduceLT, Int.reduceToNat, Int.reduceBEq, Int.reduceBNe, Int.reduceAdd, Int.reduceSub, Int.cast_ofNat_Int]
theorem slice_ints {e : TypeId} {lm : Bool} {z : List AV} {b : Nat} {k : TV → Prop} (l : List Int) {c : Nat} (h : c ≤ l.length) (hk : k (.av (ints (l.drop c)))) : sliceK ⟨.slc e 1 lm, z, b⟩ (.av (ints l)) (some (.av (i64 (c : Nat)))) none k := by
  refine ⟨_, ⟨rfl, c, (l.map (fun x => i64 x)).length, ⟨rfl, by omega, by simp; omega, by simp⟩, rfl⟩, ?_⟩
  rw [List.take_length, ← List.map_drop]
  exact hk
/-! Orders. -/
def dO (key : List Int) (x y : Int) : Int := bif decide (Lib.idxOf key x < Lib.idxOf key y) then 1 else -1
def rowN (key : List Int) (x : Int) : List Int → Int
  | [] => 0
  | y :: r => dO key x y + rowN key x r
def ordN (key : List Int) : List Int → Int
  | [] => 0
  | x :: r => rowN key x r + ordN key r
def pairN : List Int → Nat
  | [] => 0
  | _ :: r => r.length + pairN r
theorem dO_le (key : List Int) (x y : Int) : -1 ≤ dO key x y ∧ dO key x y ≤ 1 := by unfold dO; cases decide (Lib.idxOf key x < Lib.idxOf key y) <;> simp
theorem rowN_le (key : List Int) (x : Int) : ∀ l : List Int, -(l.length : Int) ≤ rowN key x l ∧ rowN key x l ≤ (l.length : Int)
  | [] => by simp [rowN]
  | y :: r => by
    have h1 := rowN_le key x r
    have h2 := dO_le key x y
    simp only [rowN, List.length_cons]
    omega
theorem ordN_le (key : List Int) : ∀ l : List Int, -(pairN l : Int) ≤ ordN key l ∧ ordN key l ≤ (pairN l : Int)
  | [] => by simp [ordN, pairN]
  | x :: r => by
    have h1 := ordN_le key r
    have h2 := rowN_le key x r
    simp only [ordN, pairN]
    omega
theorem pairN_le : ∀ l : List Int, pairN l ≤ l.length * l.length
  | [] => by simp [pairN]
  | _ :: r => by
    have h := pairN_le r
    simp only [pairN, List.length_cons]
    have : (r.length + 1) * (r.length + 1) = r.length * r.length + 2 * r.length + 1 := by grind
    omega
def orderV (it : ItV) (l : List Int) : Int := (maxI (ordN it.key l) 0 * it.pts).tdiv ((pairN l : Nat) : Int)
set_option maxHeartbeats 4000000 in
theorem scoreOrder_c (it : ItV) (h : IOK it) (l : List Int) (hl : l.length ≤ 2000000) (hp : 1 ≤ it.pts ∧ it.pts ≤ 5) (h2 : 2 ≤ l.length) : AT 21 [itA it, ints l] (i64 (orderV it l)) := by
  have kn := h.key
  have C := fun c => index_c it.key c (by omega)
  have nl := ordN_le it.key l
  have pl := pairN_le l
  have hsq : l.length * l.length ≤ 2000000 * 2000000 := Nat.mul_le_mul hl hl
  have hp0 : 0 < pairN l := by
    cases l with
    | nil => simp at h2
    | cons x r => simp only [List.length_cons] at h2; simp only [pairN]; omega
  have m1 := maxI_le (n := (pairN l : Int)) nl.2 (by omega)
  have m2 := mul_small m1.1 (by omega) hp
  have m3 := tdiv_small (d := ((pairN l : Nat) : Int)) m2.2.1 m2.2.2 (by omega)
  have d0 : ¬ ((pairN l : Nat) : Int) = 0 := by omega
  unfold orderV
  have hT : ordN it.key (l.drop 0) = ordN it.key l := by rw [List.drop_zero]
  have hTP : pairN (l.drop 0) = pairN l := by rw [List.drop_zero]
  generalize ordN it.key l = T at *
  generalize pairN l = TP at *
  refine ACalls.of ⟨24, [], []⟩ (fn := Tryz.f21) Tryz.func21 rfl rfl rfl (by kernel_rfl) (by kernel_rfl) (Nat.le_of_ble_eq_true rfl) ?_
  simp (maxSteps := 1000000) -implicitDefEqProofs only [List.length_map, go_sem, awp_seq, Nat.reduceBNe, Nat.reduceBEq, Nat.reduceAdd, Nat.reduceSub, Nat.reduceMul, Nat.reduceLeDiff, Nat.reduceLT, Nat.reduceEqDiff, Nat.reduceBneDiff, Int.reduceLE, Int.reduceLT, Int.reduceToNat, Int.reduceBEq, Int.reduceBNe, Int.reduceAdd, Int.reduceSub, Int.cast_ofNat_Int]
  refine loop_mk (α := {x : Nat × Int × Nat // x.1 ≤ l.length ∧ -(x.2.2 : Int) ≤ x.2.1 ∧ x.2.1 ≤ (x.2.2 : Int) ∧ x.2.1 + ordN it.key (l.drop x.1) = T ∧ x.2.2 + pairN (l.drop x.1) = TP}) (fun x => [(0, some (.av (itA it))), (1, some (.av (ints l))), (2, some (.ref 2 0)), (4, some (.av (i64 0))), (5, some (.av (i64 x.1.2.1))), (6, some (.av (i64 (x.1.2.2 : Nat)))), (11, some (.av (ints l))), (12, some (.av (i64 (l.length : Nat)))), (13, some (.av (i64 (x.1.1 : Nat))))]) (fun _ => [(2, itC it)]) (fun _ => []) (fun x => l.length - x.1.1) ⟨(0, 0, 0), by simp, by simp, by simp, by simpa using hT, by simpa using hTP⟩ ?_ ?_
  · simp (maxSteps := 1000000) -implicitDefEqProofs only [List.length_map, Int.cast_ofNat_Int, go_sem, awp_seq, Nat.reduceBNe, Nat.reduceBEq, Nat.reduceAdd, Nat.reduceSub, Nat.reduceMul, Nat.reduceLeDiff, Nat.reduceLT, Nat.reduceEqDiff, Nat.reduceBneDiff, Int.reduceLE, Int.reduceLT, Int.reduceToNat, Int.reduceBEq, Int.reduceBNe, Int.reduceAdd, Int.reduceSub, Int.cast_ofNat_Int]
  · rintro ⟨⟨k, s, p⟩, hk1, hs1, hs2, hs3, hs4⟩
    dsimp only at hk1 hs1 hs2 hs3 hs4
    by_cases hlt : k < l.length
    · have g1 : decide (((k : Nat) : Int) < (l.length : Nat)) = true := by simp; omega
      have e1 := ints_get l k
      rw [List.getElem?_eq_getElem hlt] at e1
      simp only [Option.map_some] at e1
      have w1 : IntKind.i64.wrap ((k : Int) + 1) = ((k + 1 : Nat) : Int) := by rw [IntWalk.i64_in _ (by omega)]; omega
      rw [List.drop_eq_getElem_cons hlt] at hs3 hs4
      simp only [ordN, pairN] at hs3 hs4
      obtain ⟨r, hr⟩ : ∃ r, r = l.drop (k + 1) := ⟨_, rfl⟩
      have hrl : r.length = l.length - (k + 1) := by rw [hr]; simp
      rw [← hr] at hs3 hs4
      have e2 : (List.map (fun x => i64 x) l).drop (k + 1) = List.map (fun x => i64 x) r := by rw [hr, List.map_drop]
      generalize l[k] = x at *
      simp (maxSteps := 1000000) -implicitDefEqProofs only [List.length_map, g1, e1, w1, Int.toNat_natCast, Int.natCast_nonneg, go_sem, awp_seq, Nat.reduceBNe, Nat.reduceBEq, Nat.reduceAdd, Nat.reduceSub, Nat.reduceMul, Nat.reduceLeDiff, Nat.reduceLT, Nat.reduceEqDiff, Nat.reduceBneDiff, Int.reduceLE, Int.reduceLT, Int.reduceToNat, Int.reduceBEq, Int.reduceBNe, Int.reduceAdd, Int.reduceSub, Int.cast_ofNat_Int]
      refine slice_ints l (by omega) ?_
      rw [← hr]
      have rn : r.length ≤ 2000000 := by omega
      simp (maxSteps := 1000000) -implicitDefEqProofs only [List.length_map, go_sem, awp_seq, Nat.reduceBNe, Nat.reduceBEq, Nat.reduceAdd, Nat.reduceSub, Nat.reduceMul, Nat.reduceLeDiff, Nat.reduceLT, Nat.reduceEqDiff, Nat.reduceBneDiff, Int.reduceLE, Int.reduceLT, Int.reduceToNat, Int.reduceBEq, Int.reduceBNe, Int.reduceAdd, Int.reduceSub, Int.cast_ofNat_Int]
      have hT2 : rowN it.key x (r.drop 0) = rowN it.key x r := by rw [List.drop_zero]
      have hrl2 := rowN_le it.key x r
      refine loop_mk (α := {y : Nat × Int × Nat // y.1 ≤ r.length ∧ -(y.2.2 : Int) ≤ y.2.1 ∧ y.2.1 ≤ (y.2.2 : Int) ∧ y.2.1 + rowN it.key x (r.drop y.1) = s + rowN it.key x r ∧ y.2.2 = p + y.1}) (fun y => [(0, some (.av (itA it))), (1, some (.av (ints l))), (2, some (.ref 2 0)), (4, some (.av (i64 0))), (5, some (.av (i64 y.1.2.1))), (6, some (.av (i64 (y.1.2.2 : Nat)))), (7, some (.av (i64 (k : Nat)))), (8, some (.av (i64 x))), (11, some (.av (ints l))), (12, some (.av (i64 (l.length : Nat)))), (13, some (.av (i64 (k : Nat)))), (21, some (.av (ints r))), (22, some (.av (i64 (r.length : Nat)))), (23, some (.av (i64 (y.1.1 : Nat))))]) (fun _ => [(2, itC it)]) (fun _ => []) (fun y => r.length - y.1.1) ⟨(0, s, p), by simp, hs1, hs2, by rw [hT2], by simp⟩ ?_ ?_
      · simp (maxSteps := 1000000) -implicitDefEqProofs only [List.length_map, Int.cast_ofNat_Int, go_sem, awp_seq, Nat.reduceBNe, Nat.reduceBEq, Nat.reduceAdd, Nat.reduceSub, Nat.reduceMul, Nat.reduceLeDiff, Nat.reduceLT, Nat.reduceEqDiff, Nat.reduceBneDiff, Int.reduceLE, Int.reduceLT, Int.reduceToNat, Int.reduceBEq, Int.reduceBNe, Int.reduceAdd, Int.reduceSub, Int.cast_ofNat_Int]
      · rintro ⟨⟨j, s', p'⟩, hj1, hj2, hj3, hj4, hj5⟩
        dsimp only at hj1 hj2 hj3 hj4 hj5
        by_cases hjl : j < r.length
        · have g2 : decide (((j : Nat) : Int) < (r.length : Nat)) = true := by simp; omega
          have e3 := ints_get r j
          rw [List.getElem?_eq_getElem hjl] at e3
          simp only [Option.map_some] at e3
          have w2 : IntKind.i64.wrap ((j : Int) + 1) = ((j + 1 : Nat) : Int) := by rw [IntWalk.i64_in _ (by omega)]; omega
          have w3 : IntKind.i64.wrap ((p' : Int) + 1) = ((p' + 1 : Nat) : Int) := by rw [IntWalk.i64_in _ (by omega)]; omega
          have w4 : IntKind.i64.wrap (s' + 1) = s' + 1 := by rw [IntWalk.i64_in _ (by omega)]
          have w5 : IntKind.i64.wrap (s' - 1) = s' - 1 := by rw [IntWalk.i64_in _ (by omega)]
          rw [List.drop_eq_getElem_cons hjl] at hj4
          simp only [rowN] at hj4
          have W1 := C x
          have W2 := C r[j]
          unfold dO at hj4
          generalize r[j] = y at *
          simp (maxSteps := 1000000) -implicitDefEqProofs only [List.length_map, g2, e3, w3, Int.toNat_natCast, Int.natCast_nonneg, go_sem, awp_seq, Nat.reduceBNe, Nat.reduceBEq, Nat.reduceAdd, Nat.reduceSub, Nat.reduceMul, Nat.reduceLeDiff, Nat.reduceLT, Nat.reduceEqDiff, Nat.reduceBneDiff, Int.reduceLE, Int.reduceLT, Int.reduceToNat, Int.reduceBEq, Int.reduceBNe, Int.reduceAdd, Int.reduceSub, Int.cast_ofNat_Int]
          refine callA_tt W1 ?_
          simp (maxSteps := 1000000) -implicitDefEqProofs only [go_sem, awp_seq, Nat.reduceBNe, Nat.reduceBEq, Nat.reduceAdd, Nat.reduceSub, Nat.reduceMul, Nat.reduceLeDiff, Nat.reduceLT, Nat.reduceEqDiff, Nat.reduceBneDiff, Int.reduceLE, Int.reduceLT, Int.reduceToNat, Int.reduceBEq, Int.reduceBNe, Int.reduceAdd, Int.reduceSub, Int.cast_ofNat_Int]
          refine callA_tt W2 ?_
          cases hc : decide (Lib.idxOf it.key x < Lib.idxOf it.key y) with
          | true =>
            rw [hc] at hj4
            simp only [cond_true] at hj4
            simp (maxSteps := 1000000) -implicitDefEqProofs only [hc, w2, w4, go_sem, awp_seq, Nat.reduceBNe, Nat.reduceBEq, Nat.reduceAdd, Nat.reduceSub, Nat.reduceMul, Nat.reduceLeDiff, Nat.reduceLT, Nat.reduceEqDiff, Nat.reduceBneDiff, Int.reduceLE, Int.reduceLT, Int.reduceToNat, Int.reduceBEq, Int.reduceBNe, Int.reduceAdd, Int.reduceSub, Int.cast_ofNat_Int]
            refine roundK_mk ⟨(j + 1, s' + 1, p' + 1), by show j + 1 ≤ _; omega, by show -((p' + 1 : Nat) : Int) ≤ s' + 1; omega, by show s' + 1 ≤ ((p' + 1 : Nat) : Int); omega, by show s' + 1 + rowN it.key x (r.drop (j + 1)) = _; omega, by show p' + 1 = p + (j + 1); omega⟩ ?_ (by show r.length - (j + 1) < r.length - j; omega)
            simp (maxSteps := 1000000) -implicitDefEqProofs only [go_sem, awp_seq, Nat.reduceBNe, Nat.reduceBEq, Nat.reduceAdd, Nat.reduceSub, Nat.reduceMul, Nat.reduceLeDiff, Nat.reduceLT, Nat.reduceEqDiff, Nat.reduceBneDiff, Int.reduceLE, Int.reduceLT, Int.reduceToNat, Int.reduceBEq, Int.reduceBNe, Int.reduceAdd, Int.reduceSub, Int.cast_ofNat_Int]
          | false =>
            rw [hc] at hj4
            simp only [cond_false] at hj4
            simp (maxSteps := 1000000) -implicitDefEqProofs only [hc, w2, w5, go_sem, awp_seq, Nat.reduceBNe, Nat.reduceBEq, Nat.reduceAdd, Nat.reduceSub, Nat.reduceMul, Nat.reduceLeDiff, Nat.reduceLT, Nat.reduceEqDiff, Nat.reduceBneDiff, Int.reduceLE, Int.reduceLT, Int.reduceToNat, Int.reduceBEq, Int.reduceBNe, Int.reduceAdd, Int.reduceSub, Int.cast_ofNat_Int]
            refine roundK_mk ⟨(j + 1, s' - 1, p' + 1), by show j + 1 ≤ _; omega, by show -((p' + 1 : Nat) : Int) ≤ s' - 1; omega, by show s' - 1 ≤ ((p' + 1 : Nat) : Int); omega, by show s' - 1 + rowN it.key x (r.drop (j + 1)) = _; omega, by show p' + 1 = p + (j + 1); omega⟩ ?_ (by show r.length - (j + 1) < r.length - j; omega)
            simp (maxSteps := 1000000) -implicitDefEqProofs only [go_sem, awp_seq, Nat.reduceBNe, Nat.reduceBEq, Nat.reduceAdd, Nat.reduceSub, Nat.reduceMul, Nat.reduceLeDiff, Nat.reduceLT, Nat.reduceEqDiff, Nat.reduceBneDiff, Int.reduceLE, Int.reduceLT, Int.reduceToNat, Int.reduceBEq, Int.reduceBNe, Int.reduceAdd, Int.reduceSub, Int.cast_ofNat_Int]
        · have g2 : decide (((j : Nat) : Int) < (r.length : Nat)) = false := by simp; omega
          rw [List.drop_of_length_le (by omega)] at hj4
          simp only [rowN, Int.add_zero] at hj4
          have hj : j = r.length := by omega
          subst hj
          simp (maxSteps := 1000000) -implicitDefEqProofs only [List.length_map, g2, w1, go_sem, awp_seq, Nat.reduceBNe, Nat.reduceBEq, Nat.reduceAdd, Nat.reduceSub, Nat.reduceMul, Nat.reduceLeDiff, Nat.reduceLT, Nat.reduceEqDiff, Nat.reduceBneDiff, Int.reduceLE, Int.reduceLT, Int.reduceToNat, Int.reduceBEq, Int.reduceBNe, Int.reduceAdd, Int.reduceSub, Int.cast_ofNat_Int]
          refine roundK_mk ⟨(k + 1, s', p'), by show k + 1 ≤ _; omega, hj2, hj3, by show s' + ordN it.key (l.drop (k + 1)) = T; rw [← hr]; omega, by show p' + pairN (l.drop (k + 1)) = TP; rw [← hr]; omega⟩ ?_ (by show l.length - (k + 1) < l.length - k; omega)
          simp (maxSteps := 1000000) -implicitDefEqProofs only [go_sem, awp_seq, Nat.reduceBNe, Nat.reduceBEq, Nat.reduceAdd, Nat.reduceSub, Nat.reduceMul, Nat.reduceLeDiff, Nat.reduceLT, Nat.reduceEqDiff, Nat.reduceBneDiff, Int.reduceLE, Int.reduceLT, Int.reduceToNat, Int.reduceBEq, Int.reduceBNe, Int.reduceAdd, Int.reduceSub, Int.cast_ofNat_Int]
    · have g1 : decide (((k : Nat) : Int) < (l.length : Nat)) = false := by simp; omega
      rw [List.drop_of_length_le (by omega)] at hs3 hs4
      simp only [ordN, pairN, Int.add_zero, Nat.add_zero] at hs3 hs4
      subst hs3 hs4
      have m0 : (if (0 : Int) > s then (0 : Int) else s) = maxI s 0 := rfl
      simp (maxSteps := 1000000) -implicitDefEqProofs only [List.length_map, g1, m0, m2.1, m3, d0, go_sem, awp_seq, Nat.reduceBNe, Nat.reduceBEq, Nat.reduceAdd, Nat.reduceSub, Nat.reduceMul, Nat.reduceLeDiff, Nat.reduceLT, Nat.reduceEqDiff, Nat.reduceBneDiff, Int.reduceLE, Int.reduceLT, Int.reduceToNat, Int.reduceBEq, Int.reduceBNe, Int.reduceAdd, Int.reduceSub, Int.cast_ofNat_Int]
end Go.Proofs.YtkmicjpoekbhfaaGreatDoor

/- Chapter 40: normal forms of short answers. INTS -/
set_option linter.unusedSimpArgs false
set_option linter.unusedVariables false
namespace Go.Proofs.YtkmicjpoekbhfaaGreatDoor
open Go.RowKit Lim

def upB (c : UInt8) : Bool := decide ((65 : Int) ≤ (c.toNat : Int)) && decide ((c.toNat : Int) ≤ 90)
def loB (c : UInt8) : Bool := decide ((97 : Int) ≤ (c.toNat : Int)) && decide ((c.toNat : Int) ≤ 122)
def dgB (c : UInt8) : Bool := decide ((48 : Int) ≤ (c.toNat : Int)) && decide ((c.toNat : Int) ≤ 57)
def nput (out : List UInt8) (blank : Bool) (c : UInt8) : List UInt8 := bif blank then out ++ [32, c] else out ++ [c]
def nstep (st : List UInt8 × Bool) (c : UInt8) : List UInt8 × Bool :=
  bif upB c then (nput st.1 st.2 (c + 32), false) else bif loB c || dgB c then (nput st.1 st.2 c, false) else bif (c.toNat : Int) == 32 then (st.1, decide ((0 : Int) < (st.1.length : Nat))) else st
def normV (s : List UInt8) : List UInt8 := (s.foldl nstep ([], false)).1
abbrev bRow (out : List UInt8) : List AV := out.map byteA
def bT (out : List UInt8) : TV := bif out.isEmpty then .av (.lit (.slice none 0 0)) else .osl 50 1 0 out.length
def bQ (out : List UInt8) : LQ := bif out.isEmpty then [] else [(50, .row 5 1 (bRow out))]
theorem up_wrap {c : UInt8} (h : upB c = true) : IntKind.u8.wrap (((c.toNat : Nat) : Int) + 32) = (((c + 32).toNat : Nat) : Int) := by
  simp only [upB, Bool.and_eq_true, decide_eq_true_eq] at h
  have e : (c + 32).toNat = c.toNat + 32 := by
    rw [UInt8.toNat_add]
    show (c.toNat + 32) % 256 = _
    omega
  rw [e, IntWalk.u8_in _ (by omega)]
  omega
theorem nstep_up {o : List UInt8} {b : Bool} {c : UInt8} (h : upB c = true) : nstep (o, b) c = (nput o b (c + 32), false) := by simp only [nstep, h, cond_true]
theorem nstep_emit {o : List UInt8} {b : Bool} {c : UInt8} (h : upB c = false) (h2 : (loB c || dgB c) = true) : nstep (o, b) c = (nput o b c, false) := by simp only [nstep, h, h2, cond_true, cond_false]
theorem nstep_blank {o : List UInt8} {b : Bool} {c : UInt8} (h : upB c = false) (h2 : (loB c || dgB c) = false) (h3 : ((c.toNat : Int) == 32) = true) : nstep (o, b) c = (o, decide ((0 : Int) < (o.length : Nat))) := by simp only [nstep, h, h2, h3, cond_true, cond_false]
theorem nstep_skip {o : List UInt8} {b : Bool} {c : UInt8} (h : upB c = false) (h2 : (loB c || dgB c) = false) (h3 : ((c.toNat : Int) == 32) = false) : nstep (o, b) c = (o, b) := by simp only [nstep, h, h2, h3, cond_false]
theorem app_ne (o r : List UInt8) (c : UInt8) : (o ++ c :: r).isEmpty = false := by cases o <;> rfl
set_option maxHeartbeats 8000000 in
theorem normal_c (s : List UInt8) (hs : s.length ≤ 2000000) : AT 19 [str s] (str (normV s)) := by
  obtain ⟨R, hR⟩ : ∃ R, R = normV s := ⟨_, rfl⟩
  rw [← hR]
  refine ACalls.of ⟨25, [], []⟩ (fn := Tryz.f19) Tryz.func19 rfl rfl rfl (by kernel_rfl) (by kernel_rfl) (Nat.le_of_ble_eq_true rfl) ?_
  simp (maxSteps := 1000000) -implicitDefEqProofs only [bs_size, go_sem, awp_seq, Nat.reduceBNe, Nat.reduceBEq, Nat.reduceAdd, Nat.reduceSub, Nat.reduceMul, Nat.reduceLeDiff, Nat.reduceLT, Nat.reduceEqDiff, Nat.reduceBneDiff, Int.reduceLE, Int.reduceLT, Int.reduceToNat, Int.reduceBEq, Int.reduceBNe, Int.reduceAdd, Int.reduceSub, Int.cast_ofNat_Int]
  refine loop_mk (α := {x : Nat × List UInt8 × Bool // x.1 ≤ s.length ∧ x.2.1.length ≤ 2 * x.1 ∧ (x.2.1 = [] → x.2.2 = false) ∧ R = ((s.drop x.1).foldl nstep (x.2.1, x.2.2)).1}) (fun x => [(0, some (.av (str s))), (2, some (.av (.lit (.string ⟨#[]⟩)))), (3, some (bT x.1.2.1)), (4, some (.av (boo x.1.2.2))), (7, some (.av (str s))), (8, some (.av (i64 (s.length : Nat)))), (9, some (.av (i64 (x.1.1 : Nat))))]) (fun _ => []) (fun x => bQ x.1.2.1) (fun x => s.length - x.1.1) ⟨(0, [], false), by simp, by simp, by simp, by simpa [normV] using hR⟩ ?_ ?_
  · simp (maxSteps := 1000000) -implicitDefEqProofs only [bT, bQ, List.isEmpty_nil, cond_true, bs_size, Int.cast_ofNat_Int, go_sem, awp_seq, Nat.reduceBNe, Nat.reduceBEq, Nat.reduceAdd, Nat.reduceSub, Nat.reduceMul, Nat.reduceLeDiff, Nat.reduceLT, Nat.reduceEqDiff, Nat.reduceBneDiff, Int.reduceLE, Int.reduceLT, Int.reduceToNat, Int.reduceBEq, Int.reduceBNe, Int.reduceAdd, Int.reduceSub, Int.cast_ofNat_Int]
  · clear hR
    rintro ⟨⟨k, out, bl⟩, hk, h1, h2, hR⟩
    dsimp only at hk h1 h2 hR
    by_cases hlt : k < s.length
    · have g1 : decide (((k : Nat) : Int) < (s.length : Nat)) = true := by simp; omega
      have e1 : s[k]? = some s[k] := List.getElem?_eq_getElem hlt
      have w1 : IntKind.i64.wrap ((k : Int) + 1) = ((k + 1 : Nat) : Int) := by rw [IntWalk.i64_in _ (by omega)]; omega
      have hR2 := hR
      rw [List.drop_eq_getElem_cons hlt, List.foldl_cons] at hR2
      generalize s[k] = c at *
      have hc := c.toNat_lt
      have hcl : (c.toNat = 32) ∨ (c.toNat < 48 ∧ c.toNat ≠ 32) ∨ (48 ≤ c.toNat ∧ c.toNat ≤ 57) ∨ (58 ≤ c.toNat ∧ c.toNat ≤ 64) ∨ (65 ≤ c.toNat ∧ c.toNat ≤ 90) ∨ (91 ≤ c.toNat ∧ c.toNat ≤ 96) ∨ (97 ≤ c.toNat ∧ c.toNat ≤ 122) ∨ (123 ≤ c.toNat) := by omega
      rcases hcl with q | q | q | q | q | q | q | q
      · -- c.toNat = 32
        have a1 : decide ((65 : Int) ≤ (c.toNat : Int)) = false := by simp; omega
        have b1 : decide ((97 : Int) ≤ (c.toNat : Int)) = false := by simp; omega
        have d1 : decide ((48 : Int) ≤ (c.toNat : Int)) = false := by simp; omega
        have e : ((c.toNat : Int) == 32) = true := by simp; omega
        have hu : upB c = false := by simp [upB]; omega
        have hld : (loB c || dgB c) = false := by simp [loB, dgB]; omega
        rw [nstep_blank hu hld e] at hR2
        cases ho : out.isEmpty with
        | true =>
          have hout : out = [] := by simpa using ho
          subst hout
          have hb : bl = false := h2 rfl
          subst hb
          simp (maxSteps := 1000000) -implicitDefEqProofs only [bT, bQ, List.isEmpty_nil, cond_true, bs_size, strK_bs, Int.toNat_natCast, Int.natCast_nonneg, g1, e1, w1, a1, b1, d1, e, go_sem, awp_seq, Nat.reduceBNe, Nat.reduceBEq, Nat.reduceAdd, Nat.reduceSub, Nat.reduceMul, Nat.reduceLeDiff, Nat.reduceLT, Nat.reduceEqDiff, Nat.reduceBneDiff, Int.reduceLE, Int.reduceLT, Int.reduceToNat, Int.reduceBEq, Int.reduceBNe, Int.reduceAdd, Int.reduceSub, Int.cast_ofNat_Int]
          have hd : decide ((0 : Int) < ((([] : List UInt8).length : Nat) : Int)) = false := rfl
          rw [hd] at hR2
          refine roundK_mk ⟨(k + 1, [], false), by show k + 1 ≤ _; omega, by show ([] : List UInt8).length ≤ 2 * (k + 1); simp, fun h => rfl, hR2⟩ ?_ (by show s.length - (k + 1) < s.length - k; omega)
          simp (maxSteps := 1000000) -implicitDefEqProofs only [bT, bQ, List.isEmpty_nil, cond_true, List.length_nil, Int.cast_ofNat_Int, Int.reduceLT, decide_true, decide_false, go_sem, awp_seq, Nat.reduceBNe, Nat.reduceBEq, Nat.reduceAdd, Nat.reduceSub, Nat.reduceMul, Nat.reduceLeDiff, Nat.reduceLT, Nat.reduceEqDiff, Nat.reduceBneDiff, Int.reduceLE, Int.reduceLT, Int.reduceToNat, Int.reduceBEq, Int.reduceBNe, Int.reduceAdd, Int.reduceSub, Int.cast_ofNat_Int]
        | false =>
          have hol : out ≠ [] := by intro h; rw [h] at ho; cases ho
          have hlen : 0 < out.length := List.length_pos_iff.2 hol
          have hgt : decide ((0 : Int) < ((out.length : Nat) : Int)) = true := by simp; omega
          simp (maxSteps := 1000000) -implicitDefEqProofs only [bT, bQ, ho, cond_false, bs_size, strK_bs, Int.toNat_natCast, Int.natCast_nonneg, g1, e1, w1, a1, b1, d1, e, hgt, List.length_map, go_sem, awp_seq, Nat.reduceBNe, Nat.reduceBEq, Nat.reduceAdd, Nat.reduceSub, Nat.reduceMul, Nat.reduceLeDiff, Nat.reduceLT, Nat.reduceEqDiff, Nat.reduceBneDiff, Int.reduceLE, Int.reduceLT, Int.reduceToNat, Int.reduceBEq, Int.reduceBNe, Int.reduceAdd, Int.reduceSub, Int.cast_ofNat_Int]
          rw [hgt] at hR2
          refine roundK_mk ⟨(k + 1, out, true), by show k + 1 ≤ _; omega, by show (out : List UInt8).length ≤ 2 * (k + 1); omega, fun h => absurd h hol, hR2⟩ ?_ (by show s.length - (k + 1) < s.length - k; omega)
          simp (maxSteps := 1000000) -implicitDefEqProofs only [bT, bQ, ho, cond_false, go_sem, awp_seq, Nat.reduceBNe, Nat.reduceBEq, Nat.reduceAdd, Nat.reduceSub, Nat.reduceMul, Nat.reduceLeDiff, Nat.reduceLT, Nat.reduceEqDiff, Nat.reduceBneDiff, Int.reduceLE, Int.reduceLT, Int.reduceToNat, Int.reduceBEq, Int.reduceBNe, Int.reduceAdd, Int.reduceSub, Int.cast_ofNat_Int]
      · -- c.toNat < 48 ∧ c.toNat ≠ 32
        have a1 : decide ((65 : Int) ≤ (c.toNat : Int)) = false := by simp; omega
        have b1 : decide ((97 : Int) ≤ (c.toNat : Int)) = false := by simp; omega
        have d1 : decide ((48 : Int) ≤ (c.toNat : Int)) = false := by simp; omega
        have e : ((c.toNat : Int) == 32) = false := by simp; omega
        have hu : upB c = false := by simp [upB]; omega
        have hld : (loB c || dgB c) = false := by simp [loB, dgB]; omega
        rw [nstep_skip hu hld e] at hR2
        cases ho : out.isEmpty with
        | true =>
          have hout : out = [] := by simpa using ho
          subst hout
          have hb : bl = false := h2 rfl
          subst hb
          simp (maxSteps := 1000000) -implicitDefEqProofs only [bT, bQ, List.isEmpty_nil, cond_true, bs_size, strK_bs, Int.toNat_natCast, Int.natCast_nonneg, g1, e1, w1, a1, b1, d1, e, go_sem, awp_seq, Nat.reduceBNe, Nat.reduceBEq, Nat.reduceAdd, Nat.reduceSub, Nat.reduceMul, Nat.reduceLeDiff, Nat.reduceLT, Nat.reduceEqDiff, Nat.reduceBneDiff, Int.reduceLE, Int.reduceLT, Int.reduceToNat, Int.reduceBEq, Int.reduceBNe, Int.reduceAdd, Int.reduceSub, Int.cast_ofNat_Int]
          refine roundK_mk ⟨(k + 1, [], false), by show k + 1 ≤ _; omega, by show ([] : List UInt8).length ≤ 2 * (k + 1); simp, fun h => rfl, hR2⟩ ?_ (by show s.length - (k + 1) < s.length - k; omega)
          simp (maxSteps := 1000000) -implicitDefEqProofs only [bT, bQ, List.isEmpty_nil, cond_true, List.length_nil, Int.cast_ofNat_Int, Int.reduceLT, decide_true, decide_false, go_sem, awp_seq, Nat.reduceBNe, Nat.reduceBEq, Nat.reduceAdd, Nat.reduceSub, Nat.reduceMul, Nat.reduceLeDiff, Nat.reduceLT, Nat.reduceEqDiff, Nat.reduceBneDiff, Int.reduceLE, Int.reduceLT, Int.reduceToNat, Int.reduceBEq, Int.reduceBNe, Int.reduceAdd, Int.reduceSub, Int.cast_ofNat_Int]
        | false =>
          have hol : out ≠ [] := by intro h; rw [h] at ho; cases ho
          have hlen : 0 < out.length := List.length_pos_iff.2 hol
          have hgt : decide ((0 : Int) < ((out.length : Nat) : Int)) = true := by simp; omega
          simp (maxSteps := 1000000) -implicitDefEqProofs only [bT, bQ, ho, cond_false, bs_size, strK_bs, Int.toNat_natCast, Int.natCast_nonneg, g1, e1, w1, a1, b1, d1, e, hgt, List.length_map, go_sem, awp_seq, Nat.reduceBNe, Nat.reduceBEq, Nat.reduceAdd, Nat.reduceSub, Nat.reduceMul, Nat.reduceLeDiff, Nat.reduceLT, Nat.reduceEqDiff, Nat.reduceBneDiff, Int.reduceLE, Int.reduceLT, Int.reduceToNat, Int.reduceBEq, Int.reduceBNe, Int.reduceAdd, Int.reduceSub, Int.cast_ofNat_Int]
          refine roundK_mk ⟨(k + 1, out, bl), by show k + 1 ≤ _; omega, by show (out : List UInt8).length ≤ 2 * (k + 1); omega, fun h => absurd h hol, hR2⟩ ?_ (by show s.length - (k + 1) < s.length - k; omega)
          simp (maxSteps := 1000000) -implicitDefEqProofs only [bT, bQ, ho, cond_false, go_sem, awp_seq, Nat.reduceBNe, Nat.reduceBEq, Nat.reduceAdd, Nat.reduceSub, Nat.reduceMul, Nat.reduceLeDiff, Nat.reduceLT, Nat.reduceEqDiff, Nat.reduceBneDiff, Int.reduceLE, Int.reduceLT, Int.reduceToNat, Int.reduceBEq, Int.reduceBNe, Int.reduceAdd, Int.reduceSub, Int.cast_ofNat_Int]
      · -- 48 ≤ c.toNat ∧ c.toNat ≤ 57
        have a1 : decide ((65 : Int) ≤ (c.toNat : Int)) = false := by simp; omega
        have b1 : decide ((97 : Int) ≤ (c.toNat : Int)) = false := by simp; omega
        have d1 : decide ((48 : Int) ≤ (c.toNat : Int)) = true := by simp; omega
        have d2 : decide ((c.toNat : Int) ≤ 57) = true := by simp; omega
        have hu : upB c = false := by simp [upB]; omega
        have hld : (loB c || dgB c) = true := by simp [loB, dgB]; omega
        rw [nstep_emit hu hld] at hR2
        cases ho : out.isEmpty with
        | true =>
          have hout : out = [] := by simpa using ho
          subst hout
          have hb : bl = false := h2 rfl
          subst hb
          simp (maxSteps := 1000000) -implicitDefEqProofs only [bT, bQ, List.isEmpty_nil, cond_true, bs_size, strK_bs, Int.toNat_natCast, Int.natCast_nonneg, g1, e1, w1, a1, b1, d1, d2, go_sem, awp_seq, Nat.reduceBNe, Nat.reduceBEq, Nat.reduceAdd, Nat.reduceSub, Nat.reduceMul, Nat.reduceLeDiff, Nat.reduceLT, Nat.reduceEqDiff, Nat.reduceBneDiff, Int.reduceLE, Int.reduceLT, Int.reduceToNat, Int.reduceBEq, Int.reduceBNe, Int.reduceAdd, Int.reduceSub, Int.cast_ofNat_Int]
          refine roundK_mk ⟨(k + 1, [c], false), by show k + 1 ≤ _; omega, by show ([c] : List UInt8).length ≤ 2 * (k + 1); simp; omega, fun h => rfl, hR2⟩ ?_ (by show s.length - (k + 1) < s.length - k; omega)
          simp (maxSteps := 1000000) -implicitDefEqProofs only [bT, bQ, List.isEmpty_cons, cond_false, List.map_cons, List.map_nil, byteA, go_sem, awp_seq, Nat.reduceBNe, Nat.reduceBEq, Nat.reduceAdd, Nat.reduceSub, Nat.reduceMul, Nat.reduceLeDiff, Nat.reduceLT, Nat.reduceEqDiff, Nat.reduceBneDiff, Int.reduceLE, Int.reduceLT, Int.reduceToNat, Int.reduceBEq, Int.reduceBNe, Int.reduceAdd, Int.reduceSub, Int.cast_ofNat_Int]
        | false =>
          have hol : out ≠ [] := by intro h; rw [h] at ho; cases ho
          have hlen : 0 < out.length := List.length_pos_iff.2 hol
          have hgt : decide ((0 : Int) < ((out.length : Nat) : Int)) = true := by simp; omega
          cases bl with
          | true =>
            simp (maxSteps := 1000000) -implicitDefEqProofs only [bT, bQ, ho, cond_false, bs_size, strK_bs, Int.toNat_natCast, Int.natCast_nonneg, g1, e1, w1, a1, b1, d1, d2, List.length_map, List.length_append, List.length_cons, List.length_nil, go_sem, awp_seq, Nat.reduceBNe, Nat.reduceBEq, Nat.reduceAdd, Nat.reduceSub, Nat.reduceMul, Nat.reduceLeDiff, Nat.reduceLT, Nat.reduceEqDiff, Nat.reduceBneDiff, Int.reduceLE, Int.reduceLT, Int.reduceToNat, Int.reduceBEq, Int.reduceBNe, Int.reduceAdd, Int.reduceSub, Int.cast_ofNat_Int]
            refine ⟨by omega, by omega, by omega, by omega, ?_⟩
            refine roundK_mk ⟨(k + 1, out ++ [32, c], false), by show k + 1 ≤ _; omega, by show (out ++ [32, c] : List UInt8).length ≤ 2 * (k + 1); simp; omega, fun h => rfl, hR2⟩ ?_ (by show s.length - (k + 1) < s.length - k; omega)
            simp (maxSteps := 1000000) -implicitDefEqProofs only [bT, bQ, app_ne, cond_false, List.map_append, List.map_cons, List.map_nil, byteA, List.length_append, List.length_cons, List.length_nil, Nat.reduceAdd, List.append_assoc, List.cons_append, List.nil_append, UInt8.reduceToNat, go_sem, awp_seq, Nat.reduceBNe, Nat.reduceBEq, Nat.reduceAdd, Nat.reduceSub, Nat.reduceMul, Nat.reduceLeDiff, Nat.reduceLT, Nat.reduceEqDiff, Nat.reduceBneDiff, Int.reduceLE, Int.reduceLT, Int.reduceToNat, Int.reduceBEq, Int.reduceBNe, Int.reduceAdd, Int.reduceSub, Int.cast_ofNat_Int]
          | false =>
            simp (maxSteps := 1000000) -implicitDefEqProofs only [bT, bQ, ho, cond_false, bs_size, strK_bs, Int.toNat_natCast, Int.natCast_nonneg, g1, e1, w1, a1, b1, d1, d2, List.length_map, List.length_append, List.length_cons, List.length_nil, go_sem, awp_seq, Nat.reduceBNe, Nat.reduceBEq, Nat.reduceAdd, Nat.reduceSub, Nat.reduceMul, Nat.reduceLeDiff, Nat.reduceLT, Nat.reduceEqDiff, Nat.reduceBneDiff, Int.reduceLE, Int.reduceLT, Int.reduceToNat, Int.reduceBEq, Int.reduceBNe, Int.reduceAdd, Int.reduceSub, Int.cast_ofNat_Int]
            refine ⟨by omega, by omega, ?_⟩
            refine roundK_mk ⟨(k + 1, out ++ [c], false), by show k + 1 ≤ _; omega, by show (out ++ [c] : List UInt8).length ≤ 2 * (k + 1); simp; omega, fun h => rfl, hR2⟩ ?_ (by show s.length - (k + 1) < s.length - k; omega)
            simp (maxSteps := 1000000) -implicitDefEqProofs only [bT, bQ, app_ne, cond_false, List.map_append, List.map_cons, List.map_nil, byteA, List.length_append, List.length_cons, List.length_nil, Nat.reduceAdd, List.append_assoc, List.cons_append, List.nil_append, UInt8.reduceToNat, go_sem, awp_seq, Nat.reduceBNe, Nat.reduceBEq, Nat.reduceAdd, Nat.reduceSub, Nat.reduceMul, Nat.reduceLeDiff, Nat.reduceLT, Nat.reduceEqDiff, Nat.reduceBneDiff, Int.reduceLE, Int.reduceLT, Int.reduceToNat, Int.reduceBEq, Int.reduceBNe, Int.reduceAdd, Int.reduceSub, Int.cast_ofNat_Int]
      · -- 58 ≤ c.toNat ∧ c.toNat ≤ 64
        have a1 : decide ((65 : Int) ≤ (c.toNat : Int)) = false := by simp; omega
        have b1 : decide ((97 : Int) ≤ (c.toNat : Int)) = false := by simp; omega
        have d1 : decide ((48 : Int) ≤ (c.toNat : Int)) = true := by simp; omega
        have d2 : decide ((c.toNat : Int) ≤ 57) = false := by simp; omega
        have e : ((c.toNat : Int) == 32) = false := by simp; omega
        have hu : upB c = false := by simp [upB]; omega
        have hld : (loB c || dgB c) = false := by simp [loB, dgB]; omega
        rw [nstep_skip hu hld e] at hR2
        cases ho : out.isEmpty with
        | true =>
          have hout : out = [] := by simpa using ho
          subst hout
          have hb : bl = false := h2 rfl
          subst hb
          simp (maxSteps := 1000000) -implicitDefEqProofs only [bT, bQ, List.isEmpty_nil, cond_true, bs_size, strK_bs, Int.toNat_natCast, Int.natCast_nonneg, g1, e1, w1, a1, b1, d1, d2, e, go_sem, awp_seq, Nat.reduceBNe, Nat.reduceBEq, Nat.reduceAdd, Nat.reduceSub, Nat.reduceMul, Nat.reduceLeDiff, Nat.reduceLT, Nat.reduceEqDiff, Nat.reduceBneDiff, Int.reduceLE, Int.reduceLT, Int.reduceToNat, Int.reduceBEq, Int.reduceBNe, Int.reduceAdd, Int.reduceSub, Int.cast_ofNat_Int]
          refine roundK_mk ⟨(k + 1, [], false), by show k + 1 ≤ _; omega, by show ([] : List UInt8).length ≤ 2 * (k + 1); simp, fun h => rfl, hR2⟩ ?_ (by show s.length - (k + 1) < s.length - k; omega)
          simp (maxSteps := 1000000) -implicitDefEqProofs only [bT, bQ, List.isEmpty_nil, cond_true, List.length_nil, Int.cast_ofNat_Int, Int.reduceLT, decide_true, decide_false, go_sem, awp_seq, Nat.reduceBNe, Nat.reduceBEq, Nat.reduceAdd, Nat.reduceSub, Nat.reduceMul, Nat.reduceLeDiff, Nat.reduceLT, Nat.reduceEqDiff, Nat.reduceBneDiff, Int.reduceLE, Int.reduceLT, Int.reduceToNat, Int.reduceBEq, Int.reduceBNe, Int.reduceAdd, Int.reduceSub, Int.cast_ofNat_Int]
        | false =>
          have hol : out ≠ [] := by intro h; rw [h] at ho; cases ho
          have hlen : 0 < out.length := List.length_pos_iff.2 hol
          have hgt : decide ((0 : Int) < ((out.length : Nat) : Int)) = true := by simp; omega
          simp (maxSteps := 1000000) -implicitDefEqProofs only [bT, bQ, ho, cond_false, bs_size, strK_bs, Int.toNat_natCast, Int.natCast_nonneg, g1, e1, w1, a1, b1, d1, d2, e, hgt, List.length_map, go_sem, awp_seq, Nat.reduceBNe, Nat.reduceBEq, Nat.reduceAdd, Nat.reduceSub, Nat.reduceMul, Nat.reduceLeDiff, Nat.reduceLT, Nat.reduceEqDiff, Nat.reduceBneDiff, Int.reduceLE, Int.reduceLT, Int.reduceToNat, Int.reduceBEq, Int.reduceBNe, Int.reduceAdd, Int.reduceSub, Int.cast_ofNat_Int]
          refine roundK_mk ⟨(k + 1, out, bl), by show k + 1 ≤ _; omega, by show (out : List UInt8).length ≤ 2 * (k + 1); omega, fun h => absurd h hol, hR2⟩ ?_ (by show s.length - (k + 1) < s.length - k; omega)
          simp (maxSteps := 1000000) -implicitDefEqProofs only [bT, bQ, ho, cond_false, go_sem, awp_seq, Nat.reduceBNe, Nat.reduceBEq, Nat.reduceAdd, Nat.reduceSub, Nat.reduceMul, Nat.reduceLeDiff, Nat.reduceLT, Nat.reduceEqDiff, Nat.reduceBneDiff, Int.reduceLE, Int.reduceLT, Int.reduceToNat, Int.reduceBEq, Int.reduceBNe, Int.reduceAdd, Int.reduceSub, Int.cast_ofNat_Int]
      · -- 65 ≤ c.toNat ∧ c.toNat ≤ 90
        have a1 : decide ((65 : Int) ≤ (c.toNat : Int)) = true := by simp; omega
        have a2 : decide ((c.toNat : Int) ≤ 90) = true := by simp; omega
        have hu : upB c = true := by simp [upB]; omega
        rw [nstep_up hu] at hR2
        have wu := up_wrap hu
        cases ho : out.isEmpty with
        | true =>
          have hout : out = [] := by simpa using ho
          subst hout
          have hb : bl = false := h2 rfl
          subst hb
          simp (maxSteps := 1000000) -implicitDefEqProofs only [bT, bQ, List.isEmpty_nil, cond_true, bs_size, strK_bs, Int.toNat_natCast, Int.natCast_nonneg, g1, e1, w1, a1, a2, wu, go_sem, awp_seq, Nat.reduceBNe, Nat.reduceBEq, Nat.reduceAdd, Nat.reduceSub, Nat.reduceMul, Nat.reduceLeDiff, Nat.reduceLT, Nat.reduceEqDiff, Nat.reduceBneDiff, Int.reduceLE, Int.reduceLT, Int.reduceToNat, Int.reduceBEq, Int.reduceBNe, Int.reduceAdd, Int.reduceSub, Int.cast_ofNat_Int]
          refine roundK_mk ⟨(k + 1, [c + 32], false), by show k + 1 ≤ _; omega, by show ([c + 32] : List UInt8).length ≤ 2 * (k + 1); simp; omega, fun h => rfl, hR2⟩ ?_ (by show s.length - (k + 1) < s.length - k; omega)
          simp (maxSteps := 1000000) -implicitDefEqProofs only [bT, bQ, List.isEmpty_cons, cond_false, List.map_cons, List.map_nil, byteA, go_sem, awp_seq, Nat.reduceBNe, Nat.reduceBEq, Nat.reduceAdd, Nat.reduceSub, Nat.reduceMul, Nat.reduceLeDiff, Nat.reduceLT, Nat.reduceEqDiff, Nat.reduceBneDiff, Int.reduceLE, Int.reduceLT, Int.reduceToNat, Int.reduceBEq, Int.reduceBNe, Int.reduceAdd, Int.reduceSub, Int.cast_ofNat_Int]
        | false =>
          have hol : out ≠ [] := by intro h; rw [h] at ho; cases ho
          have hlen : 0 < out.length := List.length_pos_iff.2 hol
          have hgt : decide ((0 : Int) < ((out.length : Nat) : Int)) = true := by simp; omega
          cases bl with
          | true =>
            simp (maxSteps := 1000000) -implicitDefEqProofs only [bT, bQ, ho, cond_false, bs_size, strK_bs, Int.toNat_natCast, Int.natCast_nonneg, g1, e1, w1, a1, a2, wu, List.length_map, List.length_append, List.length_cons, List.length_nil, go_sem, awp_seq, Nat.reduceBNe, Nat.reduceBEq, Nat.reduceAdd, Nat.reduceSub, Nat.reduceMul, Nat.reduceLeDiff, Nat.reduceLT, Nat.reduceEqDiff, Nat.reduceBneDiff, Int.reduceLE, Int.reduceLT, Int.reduceToNat, Int.reduceBEq, Int.reduceBNe, Int.reduceAdd, Int.reduceSub, Int.cast_ofNat_Int]
            refine ⟨by omega, by omega, by omega, by omega, ?_⟩
            refine roundK_mk ⟨(k + 1, out ++ [32, c + 32], false), by show k + 1 ≤ _; omega, by show (out ++ [32, c + 32] : List UInt8).length ≤ 2 * (k + 1); simp; omega, fun h => rfl, hR2⟩ ?_ (by show s.length - (k + 1) < s.length - k; omega)
            simp (maxSteps := 1000000) -implicitDefEqProofs only [bT, bQ, app_ne, cond_false, List.map_append, List.map_cons, List.map_nil, byteA, List.length_append, List.length_cons, List.length_nil, Nat.reduceAdd, List.append_assoc, List.cons_append, List.nil_append, UInt8.reduceToNat, go_sem, awp_seq, Nat.reduceBNe, Nat.reduceBEq, Nat.reduceAdd, Nat.reduceSub, Nat.reduceMul, Nat.reduceLeDiff, Nat.reduceLT, Nat.reduceEqDiff, Nat.reduceBneDiff, Int.reduceLE, Int.reduceLT, Int.reduceToNat, Int.reduceBEq, Int.reduceBNe, Int.reduceAdd, Int.reduceSub, Int.cast_ofNat_Int]
          | false =>
            simp (maxSteps := 1000000) -implicitDefEqProofs only [bT, bQ, ho, cond_false, bs_size, strK_bs, Int.toNat_natCast, Int.natCast_nonneg, g1, e1, w1, a1, a2, wu, List.length_map, List.length_append, List.length_cons, List.length_nil, go_sem, awp_seq, Nat.reduceBNe, Nat.reduceBEq, Nat.reduceAdd, Nat.reduceSub, Nat.reduceMul, Nat.reduceLeDiff, Nat.reduceLT, Nat.reduceEqDiff, Nat.reduceBneDiff, Int.reduceLE, Int.reduceLT, Int.reduceToNat, Int.reduceBEq, Int.reduceBNe, Int.reduceAdd, Int.reduceSub, Int.cast_ofNat_Int]
            refine ⟨by omega, by omega, ?_⟩
            refine roundK_mk ⟨(k + 1, out ++ [c + 32], false), by show k + 1 ≤ _; omega, by show (out ++ [c + 32] : List UInt8).length ≤ 2 * (k + 1); simp; omega, fun h => rfl, hR2⟩ ?_ (by show s.length - (k + 1) < s.length - k; omega)
            simp (maxSteps := 1000000) -implicitDefEqProofs only [bT, bQ, app_ne, cond_false, List.map_append, List.map_cons, List.map_nil, byteA, List.length_append, List.length_cons, List.length_nil, Nat.reduceAdd, List.append_assoc, List.cons_append, List.nil_append, UInt8.reduceToNat, go_sem, awp_seq, Nat.reduceBNe, Nat.reduceBEq, Nat.reduceAdd, Nat.reduceSub, Nat.reduceMul, Nat.reduceLeDiff, Nat.reduceLT, Nat.reduceEqDiff, Nat.reduceBneDiff, Int.reduceLE, Int.reduceLT, Int.reduceToNat, Int.reduceBEq, Int.reduceBNe, Int.reduceAdd, Int.reduceSub, Int.cast_ofNat_Int]
      · -- 91 ≤ c.toNat ∧ c.toNat ≤ 96
        have a1 : decide ((65 : Int) ≤ (c.toNat : Int)) = true := by simp; omega
        have a2 : decide ((c.toNat : Int) ≤ 90) = false := by simp; omega
        have b1 : decide ((97 : Int) ≤ (c.toNat : Int)) = false := by simp; omega
        have d1 : decide ((48 : Int) ≤ (c.toNat : Int)) = true := by simp; omega
        have d2 : decide ((c.toNat : Int) ≤ 57) = false := by simp; omega
        have e : ((c.toNat : Int) == 32) = false := by simp; omega
        have hu : upB c = false := by simp [upB]; omega
        have hld : (loB c || dgB c) = false := by simp [loB, dgB]; omega
        rw [nstep_skip hu hld e] at hR2
        cases ho : out.isEmpty with
        | true =>
          have hout : out = [] := by simpa using ho
          subst hout
          have hb : bl = false := h2 rfl
          subst hb
          simp (maxSteps := 1000000) -implicitDefEqProofs only [bT, bQ, List.isEmpty_nil, cond_true, bs_size, strK_bs, Int.toNat_natCast, Int.natCast_nonneg, g1, e1, w1, a1, a2, b1, d1, d2, e, go_sem, awp_seq, Nat.reduceBNe, Nat.reduceBEq, Nat.reduceAdd, Nat.reduceSub, Nat.reduceMul, Nat.reduceLeDiff, Nat.reduceLT, Nat.reduceEqDiff, Nat.reduceBneDiff, Int.reduceLE, Int.reduceLT, Int.reduceToNat, Int.reduceBEq, Int.reduceBNe, Int.reduceAdd, Int.reduceSub, Int.cast_ofNat_Int]
          refine roundK_mk ⟨(k + 1, [], false), by show k + 1 ≤ _; omega, by show ([] : List UInt8).length ≤ 2 * (k + 1); simp, fun h => rfl, hR2⟩ ?_ (by show s.length - (k + 1) < s.length - k; omega)
          simp (maxSteps := 1000000) -implicitDefEqProofs only [bT, bQ, List.isEmpty_nil, cond_true, List.length_nil, Int.cast_ofNat_Int, Int.reduceLT, decide_true, decide_false, go_sem, awp_seq, Nat.reduceBNe, Nat.reduceBEq, Nat.reduceAdd, Nat.reduceSub, Nat.reduceMul, Nat.reduceLeDiff, Nat.reduceLT, Nat.reduceEqDiff, Nat.reduceBneDiff, Int.reduceLE, Int.reduceLT, Int.reduceToNat, Int.reduceBEq, Int.reduceBNe, Int.reduceAdd, Int.reduceSub, Int.cast_ofNat_Int]
        | false =>
          have hol : out ≠ [] := by intro h; rw [h] at ho; cases ho
          have hlen : 0 < out.length := List.length_pos_iff.2 hol
          have hgt : decide ((0 : Int) < ((out.length : Nat) : Int)) = true := by simp; omega
          simp (maxSteps := 1000000) -implicitDefEqProofs only [bT, bQ, ho, cond_false, bs_size, strK_bs, Int.toNat_natCast, Int.natCast_nonneg, g1, e1, w1, a1, a2, b1, d1, d2, e, hgt, List.length_map, go_sem, awp_seq, Nat.reduceBNe, Nat.reduceBEq, Nat.reduceAdd, Nat.reduceSub, Nat.reduceMul, Nat.reduceLeDiff, Nat.reduceLT, Nat.reduceEqDiff, Nat.reduceBneDiff, Int.reduceLE, Int.reduceLT, Int.reduceToNat, Int.reduceBEq, Int.reduceBNe, Int.reduceAdd, Int.reduceSub, Int.cast_ofNat_Int]
          refine roundK_mk ⟨(k + 1, out, bl), by show k + 1 ≤ _; omega, by show (out : List UInt8).length ≤ 2 * (k + 1); omega, fun h => absurd h hol, hR2⟩ ?_ (by show s.length - (k + 1) < s.length - k; omega)
          simp (maxSteps := 1000000) -implicitDefEqProofs only [bT, bQ, ho, cond_false, go_sem, awp_seq, Nat.reduceBNe, Nat.reduceBEq, Nat.reduceAdd, Nat.reduceSub, Nat.reduceMul, Nat.reduceLeDiff, Nat.reduceLT, Nat.reduceEqDiff, Nat.reduceBneDiff, Int.reduceLE, Int.reduceLT, Int.reduceToNat, Int.reduceBEq, Int.reduceBNe, Int.reduceAdd, Int.reduceSub, Int.cast_ofNat_Int]
      · -- 97 ≤ c.toNat ∧ c.toNat ≤ 122
        have a1 : decide ((65 : Int) ≤ (c.toNat : Int)) = true := by simp; omega
        have a2 : decide ((c.toNat : Int) ≤ 90) = false := by simp; omega
        have b1 : decide ((97 : Int) ≤ (c.toNat : Int)) = true := by simp; omega
        have b2 : decide ((c.toNat : Int) ≤ 122) = true := by simp; omega
        have hu : upB c = false := by simp [upB]; omega
        have hld : (loB c || dgB c) = true := by simp [loB, dgB]; omega
        rw [nstep_emit hu hld] at hR2
        cases ho : out.isEmpty with
        | true =>
          have hout : out = [] := by simpa using ho
          subst hout
          have hb : bl = false := h2 rfl
          subst hb
          simp (maxSteps := 1000000) -implicitDefEqProofs only [bT, bQ, List.isEmpty_nil, cond_true, bs_size, strK_bs, Int.toNat_natCast, Int.natCast_nonneg, g1, e1, w1, a1, a2, b1, b2, go_sem, awp_seq, Nat.reduceBNe, Nat.reduceBEq, Nat.reduceAdd, Nat.reduceSub, Nat.reduceMul, Nat.reduceLeDiff, Nat.reduceLT, Nat.reduceEqDiff, Nat.reduceBneDiff, Int.reduceLE, Int.reduceLT, Int.reduceToNat, Int.reduceBEq, Int.reduceBNe, Int.reduceAdd, Int.reduceSub, Int.cast_ofNat_Int]
          refine roundK_mk ⟨(k + 1, [c], false), by show k + 1 ≤ _; omega, by show ([c] : List UInt8).length ≤ 2 * (k + 1); simp; omega, fun h => rfl, hR2⟩ ?_ (by show s.length - (k + 1) < s.length - k; omega)
          simp (maxSteps := 1000000) -implicitDefEqProofs only [bT, bQ, List.isEmpty_cons, cond_false, List.map_cons, List.map_nil, byteA, go_sem, awp_seq, Nat.reduceBNe, Nat.reduceBEq, Nat.reduceAdd, Nat.reduceSub, Nat.reduceMul, Nat.reduceLeDiff, Nat.reduceLT, Nat.reduceEqDiff, Nat.reduceBneDiff, Int.reduceLE, Int.reduceLT, Int.reduceToNat, Int.reduceBEq, Int.reduceBNe, Int.reduceAdd, Int.reduceSub, Int.cast_ofNat_Int]
        | false =>
          have hol : out ≠ [] := by intro h; rw [h] at ho; cases ho
          have hlen : 0 < out.length := List.length_pos_iff.2 hol
          have hgt : decide ((0 : Int) < ((out.length : Nat) : Int)) = true := by simp; omega
          cases bl with
          | true =>
            simp (maxSteps := 1000000) -implicitDefEqProofs only [bT, bQ, ho, cond_false, bs_size, strK_bs, Int.toNat_natCast, Int.natCast_nonneg, g1, e1, w1, a1, a2, b1, b2, List.length_map, List.length_append, List.length_cons, List.length_nil, go_sem, awp_seq, Nat.reduceBNe, Nat.reduceBEq, Nat.reduceAdd, Nat.reduceSub, Nat.reduceMul, Nat.reduceLeDiff, Nat.reduceLT, Nat.reduceEqDiff, Nat.reduceBneDiff, Int.reduceLE, Int.reduceLT, Int.reduceToNat, Int.reduceBEq, Int.reduceBNe, Int.reduceAdd, Int.reduceSub, Int.cast_ofNat_Int]
            refine ⟨by omega, by omega, by omega, by omega, ?_⟩
            refine roundK_mk ⟨(k + 1, out ++ [32, c], false), by show k + 1 ≤ _; omega, by show (out ++ [32, c] : List UInt8).length ≤ 2 * (k + 1); simp; omega, fun h => rfl, hR2⟩ ?_ (by show s.length - (k + 1) < s.length - k; omega)
            simp (maxSteps := 1000000) -implicitDefEqProofs only [bT, bQ, app_ne, cond_false, List.map_append, List.map_cons, List.map_nil, byteA, List.length_append, List.length_cons, List.length_nil, Nat.reduceAdd, List.append_assoc, List.cons_append, List.nil_append, UInt8.reduceToNat, go_sem, awp_seq, Nat.reduceBNe, Nat.reduceBEq, Nat.reduceAdd, Nat.reduceSub, Nat.reduceMul, Nat.reduceLeDiff, Nat.reduceLT, Nat.reduceEqDiff, Nat.reduceBneDiff, Int.reduceLE, Int.reduceLT, Int.reduceToNat, Int.reduceBEq, Int.reduceBNe, Int.reduceAdd, Int.reduceSub, Int.cast_ofNat_Int]
          | false =>
            simp (maxSteps := 1000000) -implicitDefEqProofs only [bT, bQ, ho, cond_false, bs_size, strK_bs, Int.toNat_natCast, Int.natCast_nonneg, g1, e1, w1, a1, a2, b1, b2, List.length_map, List.length_append, List.length_cons, List.length_nil, go_sem, awp_seq, Nat.reduceBNe, Nat.reduceBEq, Nat.reduceAdd, Nat.reduceSub, Nat.reduceMul, Nat.reduceLeDiff, Nat.reduceLT, Nat.reduceEqDiff, Nat.reduceBneDiff, Int.reduceLE, Int.reduceLT, Int.reduceToNat, Int.reduceBEq, Int.reduceBNe, Int.reduceAdd, Int.reduceSub, Int.cast_ofNat_Int]
            refine ⟨by omega, by omega, ?_⟩
            refine roundK_mk ⟨(k + 1, out ++ [c], false), by show k + 1 ≤ _; omega, by show (out ++ [c] : List UInt8).length ≤ 2 * (k + 1); simp; omega, fun h => rfl, hR2⟩ ?_ (by show s.length - (k + 1) < s.length - k; omega)
            simp (maxSteps := 1000000) -implicitDefEqProofs only [bT, bQ, app_ne, cond_false, List.map_append, List.map_cons, List.map_nil, byteA, List.length_append, List.length_cons, List.length_nil, Nat.reduceAdd, List.append_assoc, List.cons_append, List.nil_append, UInt8.reduceToNat, go_sem, awp_seq, Nat.reduceBNe, Nat.reduceBEq, Nat.reduceAdd, Nat.reduceSub, Nat.reduceMul, Nat.reduceLeDiff, Nat.reduceLT, Nat.reduceEqDiff, Nat.reduceBneDiff, Int.reduceLE, Int.reduceLT, Int.reduceToNat, Int.reduceBEq, Int.reduceBNe, Int.reduceAdd, Int.reduceSub, Int.cast_ofNat_Int]
      · -- 123 ≤ c.toNat
        have a1 : decide ((65 : Int) ≤ (c.toNat : Int)) = true := by simp; omega
        have a2 : decide ((c.toNat : Int) ≤ 90) = false := by simp; omega
        have b1 : decide ((97 : Int) ≤ (c.toNat : Int)) = true := by simp; omega
        have b2 : decide ((c.toNat : Int) ≤ 122) = false := by simp; omega
        have d1 : decide ((48 : Int) ≤ (c.toNat : Int)) = true := by simp; omega
        have d2 : decide ((c.toNat : Int) ≤ 57) = false := by simp; omega
        have e : ((c.toNat : Int) == 32) = false := by simp; omega
        have hu : upB c = false := by simp [upB]; omega
        have hld : (loB c || dgB c) = false := by simp [loB, dgB]; omega
        rw [nstep_skip hu hld e] at hR2
        cases ho : out.isEmpty with
        | true =>
          have hout : out = [] := by simpa using ho
          subst hout
          have hb : bl = false := h2 rfl
          subst hb
          simp (maxSteps := 1000000) -implicitDefEqProofs only [bT, bQ, List.isEmpty_nil, cond_true, bs_size, strK_bs, Int.toNat_natCast, Int.natCast_nonneg, g1, e1, w1, a1, a2, b1, b2, d1, d2, e, go_sem, awp_seq, Nat.reduceBNe, Nat.reduceBEq, Nat.reduceAdd, Nat.reduceSub, Nat.reduceMul, Nat.reduceLeDiff, Nat.reduceLT, Nat.reduceEqDiff, Nat.reduceBneDiff, Int.reduceLE, Int.reduceLT, Int.reduceToNat, Int.reduceBEq, Int.reduceBNe, Int.reduceAdd, Int.reduceSub, Int.cast_ofNat_Int]
          refine roundK_mk ⟨(k + 1, [], false), by show k + 1 ≤ _; omega, by show ([] : List UInt8).length ≤ 2 * (k + 1); simp, fun h => rfl, hR2⟩ ?_ (by show s.length - (k + 1) < s.length - k; omega)
          simp (maxSteps := 1000000) -implicitDefEqProofs only [bT, bQ, List.isEmpty_nil, cond_true, List.length_nil, Int.cast_ofNat_Int, Int.reduceLT, decide_true, decide_false, go_sem, awp_seq, Nat.reduceBNe, Nat.reduceBEq, Nat.reduceAdd, Nat.reduceSub, Nat.reduceMul, Nat.reduceLeDiff, Nat.reduceLT, Nat.reduceEqDiff, Nat.reduceBneDiff, Int.reduceLE, Int.reduceLT, Int.reduceToNat, Int.reduceBEq, Int.reduceBNe, Int.reduceAdd, Int.reduceSub, Int.cast_ofNat_Int]
        | false =>
          have hol : out ≠ [] := by intro h; rw [h] at ho; cases ho
          have hlen : 0 < out.length := List.length_pos_iff.2 hol
          have hgt : decide ((0 : Int) < ((out.length : Nat) : Int)) = true := by simp; omega
          simp (maxSteps := 1000000) -implicitDefEqProofs only [bT, bQ, ho, cond_false, bs_size, strK_bs, Int.toNat_natCast, Int.natCast_nonneg, g1, e1, w1, a1, a2, b1, b2, d1, d2, e, hgt, List.length_map, go_sem, awp_seq, Nat.reduceBNe, Nat.reduceBEq, Nat.reduceAdd, Nat.reduceSub, Nat.reduceMul, Nat.reduceLeDiff, Nat.reduceLT, Nat.reduceEqDiff, Nat.reduceBneDiff, Int.reduceLE, Int.reduceLT, Int.reduceToNat, Int.reduceBEq, Int.reduceBNe, Int.reduceAdd, Int.reduceSub, Int.cast_ofNat_Int]
          refine roundK_mk ⟨(k + 1, out, bl), by show k + 1 ≤ _; omega, by show (out : List UInt8).length ≤ 2 * (k + 1); omega, fun h => absurd h hol, hR2⟩ ?_ (by show s.length - (k + 1) < s.length - k; omega)
          simp (maxSteps := 1000000) -implicitDefEqProofs only [bT, bQ, ho, cond_false, go_sem, awp_seq, Nat.reduceBNe, Nat.reduceBEq, Nat.reduceAdd, Nat.reduceSub, Nat.reduceMul, Nat.reduceLeDiff, Nat.reduceLT, Nat.reduceEqDiff, Nat.reduceBneDiff, Int.reduceLE, Int.reduceLT, Int.reduceToNat, Int.reduceBEq, Int.reduceBNe, Int.reduceAdd, Int.reduceSub, Int.cast_ofNat_Int]
    · have g1 : decide (((k : Nat) : Int) < (s.length : Nat)) = false := by simp; omega
      rw [List.drop_of_length_le (by omega)] at hR
      simp only [List.foldl_nil] at hR
      subst hR
      cases ho : R.isEmpty with
      | true =>
        have hout : R = [] := by simpa using ho
        subst hout
        simp (maxSteps := 1000000) -implicitDefEqProofs only [bT, bQ, List.isEmpty_nil, cond_true, bs_size, g1, go_sem, awp_seq, Nat.reduceBNe, Nat.reduceBEq, Nat.reduceAdd, Nat.reduceSub, Nat.reduceMul, Nat.reduceLeDiff, Nat.reduceLT, Nat.reduceEqDiff, Nat.reduceBneDiff, Int.reduceLE, Int.reduceLT, Int.reduceToNat, Int.reduceBEq, Int.reduceBNe, Int.reduceAdd, Int.reduceSub, Int.cast_ofNat_Int]
        refine ⟨_, ⟨rfl, rfl, rfl⟩, ?_⟩
        simp (maxSteps := 1000000) -implicitDefEqProofs only [go_sem, awp_seq, Nat.reduceBNe, Nat.reduceBEq, Nat.reduceAdd, Nat.reduceSub, Nat.reduceMul, Nat.reduceLeDiff, Nat.reduceLT, Nat.reduceEqDiff, Nat.reduceBneDiff, Int.reduceLE, Int.reduceLT, Int.reduceToNat, Int.reduceBEq, Int.reduceBNe, Int.reduceAdd, Int.reduceSub, Int.cast_ofNat_Int]
        rfl
      | false =>
        simp (maxSteps := 1000000) -implicitDefEqProofs only [bT, bQ, ho, cond_false, bs_size, g1, go_sem, awp_seq, Nat.reduceBNe, Nat.reduceBEq, Nat.reduceAdd, Nat.reduceSub, Nat.reduceMul, Nat.reduceLeDiff, Nat.reduceLT, Nat.reduceEqDiff, Nat.reduceBneDiff, Int.reduceLE, Int.reduceLT, Int.reduceToNat, Int.reduceBEq, Int.reduceBNe, Int.reduceAdd, Int.reduceSub, Int.cast_ofNat_Int]
        refine convK_own R rfl rfl rfl ?_
        simp (maxSteps := 1000000) -implicitDefEqProofs only [go_sem, awp_seq, Nat.reduceBNe, Nat.reduceBEq, Nat.reduceAdd, Nat.reduceSub, Nat.reduceMul, Nat.reduceLeDiff, Nat.reduceLT, Nat.reduceEqDiff, Nat.reduceBneDiff, Int.reduceLE, Int.reduceLT, Int.reduceToNat, Int.reduceBEq, Int.reduceBNe, Int.reduceAdd, Int.reduceSub, Int.cast_ofNat_Int]
        rfl
end Go.Proofs.YtkmicjpoekbhfaaGreatDoor

/- Chapter 40: what a valid item and a valid answer are like; scores. INTS -/
set_option linter.unusedSimpArgs false
set_option linter.unusedVariables false
namespace Go.Proofs.YtkmicjpoekbhfaaGreatDoor
open Go.RowKit Lim

structure ItemOK (it : ItV) : Prop where
  nums : numsB it = true
  kind : withinB it.kind 1 6 = true
  strs : strB it = true
  opts : it.opts.length ≤ 10
  texts : it.texts.length ≤ 10
  only : onlyB it = true
  key : keyB it = true
theorem item_ok {it : ItV} (h : itemE it = 0) : ItemOK it := by
  unfold itemE at h
  cases b1 : numsB it with
  | false => rw [b1] at h; cases h
  | true =>
  cases b2 : withinB it.kind 1 6 with
  | false => rw [b1, b2] at h; cases h
  | true =>
  cases b3 : strB it with
  | false => rw [b1, b2, b3] at h; cases h
  | true =>
  cases c1 : decide ((10 : Int) < (it.opts.length : Nat)) with
  | true => rw [b1, b2, b3, c1] at h; cases h
  | false =>
  cases c2 : decide ((10 : Int) < (it.texts.length : Nat)) with
  | true => rw [b1, b2, b3, c1, c2] at h; cases h
  | false =>
  cases c3 : decide ((8 : Int) < (it.assets.length : Nat)) with
  | true => rw [b1, b2, b3, c1, c2, c3] at h; cases h
  | false =>
  cases b4 : onlyB it with
  | false => rw [b1, b2, b3, c1, c2, c3, b4] at h; cases h
  | true =>
  cases b5 : keyB it with
  | false => rw [b1, b2, b3, c1, c2, c3, b4, b5] at h; cases h
  | true => exact ⟨b1, b2, b3, by simp at c1; omega, by simp at c2; omega, b4, b5⟩
theorem ItemOK.pts {it : ItV} (h : ItemOK it) : 1 ≤ it.pts ∧ it.pts ≤ 5 := by
  have := h.nums
  simp only [numsB, withinB, Bool.and_eq_true, decide_eq_true_eq] at this
  omega
theorem ItemOK.kinds {it : ItV} (h : ItemOK it) : 1 ≤ it.kind ∧ it.kind ≤ 6 := by
  have := h.kind
  simp only [withinB, Bool.and_eq_true, decide_eq_true_eq] at this
  omega
theorem ItemOK.key1 {it : ItV} (h : ItemOK it) (hk : it.kind = 1) : key1 it = true := by
  have := h.key
  simpa [keyB, hk] using this
theorem ItemOK.key2 {it : ItV} (h : ItemOK it) (hk : it.kind = 2) : key2 it = true := by
  have := h.key
  simpa [keyB, hk] using this
theorem ItemOK.key3 {it : ItV} (h : ItemOK it) (hk : it.kind = 3) : key3 it = true := by
  have := h.key
  simpa [keyB, hk] using this
theorem ItemOK.key5 {it : ItV} (h : ItemOK it) (hk : it.kind = 5) : txtsB it.texts = true := by
  have := h.key
  simpa [keyB, hk] using this
structure AnsOK (it : ItV) (a : AnsV) : Prop where
  item : itemE it = 0
  id : a.item = it.id
  plain : badB it a = false
  rest : a.om = false → (it.kind = 1 ∨ it.kind = 2 ∨ it.kind = 3) → chE it.kind (it.opts.length : Nat) a.ch = 0
theorem valid_ok {it : ItV} {a : AnsV} (h : validE it a = 0) : AnsOK it a := by
  unfold validE at h
  cases c0 : itemE it != 0 with
  | true =>
    rw [c0] at h
    simp only [cond_true] at h
    simp [h] at c0
  | false =>
  have hi : itemE it = 0 := by simpa using c0
  cases c1 : a.item != it.id with
  | true => rw [c0, c1] at h; cases h
  | false =>
  cases c2 : badB it a with
  | true => rw [c0, c1, c2] at h; cases h
  | false =>
  refine ⟨hi, by simpa using c1, c2, fun ho hk => ?_⟩
  rw [c0, c1, c2, ho] at h
  have k4 : (it.kind == 4) = false := by simp; omega
  have k5 : (it.kind == 5) = false := by simp; omega
  have k6 : (it.kind == 6) = false := by simp; omega
  rw [k4, k5, k6] at h
  exact h
theorem ch_ok {kind n : Int} {l : List Int} (h : chE kind n l = 0) : l.all (inRB n) = true ∧ fitB kind n l = true := by
  unfold chE at h
  cases b1 : l.all (inRB n) with
  | false => rw [b1] at h; cases h
  | true =>
  cases b2 : fitB kind n l with
  | false => rw [b1, b2] at h; cases h
  | true => exact ⟨rfl, rfl⟩
def rightB (it : ItV) (a : AnsV) : Bool := bif it.kind == 1 then (a.ch[0]?.getD 0) == (it.key[0]?.getD 0) else bif it.kind == 4 then decide (maxI (a.val - it.val) (it.val - a.val) ≤ it.tol) else bif it.kind == 5 then it.texts.contains (normV a.text) else false
/-- The score of an answer, and the first error. -/
def scoreV (it : ItV) (a : AnsV) : Int × Int :=
  bif validE it a != 0 then (0, validE it a) else bif it.kind == 6 then (0, 8) else bif a.om then (0, 0) else
    bif it.kind == 2 then (multiV it a.ch, 0) else bif it.kind == 3 then (orderV it a.ch, 0) else bif rightB it a then (it.pts, 0) else (0, 0)
set_option maxHeartbeats 4000000 in
theorem score_c (it : ItV) (h : IOK it) (a : AnsV) (ha : ANOK a) : AC 8 [itA it, ansA a] (.tup [i64 (scoreV it a).1, i64 (scoreV it a).2]) := by
  have I := keyingValid_c it h a ha
  have N := normal_c a.text ha.text
  have T := containsS_c it.texts (normV a.text) (by have := h.texts; omega)
  have M := fun hp hk => scoreMulti_c it h a.ch ha.ch hp hk
  have O := fun hp h2 => scoreOrder_c it h a.ch ha.ch hp h2
  cases c0 : validE it a != 0 with
  | true =>
    have e : scoreV it a = (0, validE it a) := by unfold scoreV; rw [c0]; rfl
    rw [e]
    generalize validE it a = v at *
    refine ACalls.of ⟨21, [], []⟩ (fn := Tryz.f8) Tryz.func8 rfl rfl rfl (by kernel_rfl) (by kernel_rfl) (Nat.le_of_ble_eq_true rfl) ?_
    simp (maxSteps := 1000000) -implicitDefEqProofs only [go_sem, awp_seq, Nat.reduceBNe, Nat.reduceBEq, Nat.reduceAdd, Nat.reduceSub, Nat.reduceMul, Nat.reduceLeDiff, Nat.reduceLT, Nat.reduceEqDiff, Nat.reduceBneDiff, Int.reduceLE, Int.reduceLT, Int.reduceToNat, Int.reduceBEq, Int.reduceBNe, Int.reduceAdd, Int.reduceSub, Int.cast_ofNat_Int]
    refine callA_mk I ?_
    simp (maxSteps := 1000000) -implicitDefEqProofs only [c0, go_sem, awp_seq, Nat.reduceBNe, Nat.reduceBEq, Nat.reduceAdd, Nat.reduceSub, Nat.reduceMul, Nat.reduceLeDiff, Nat.reduceLT, Nat.reduceEqDiff, Nat.reduceBneDiff, Int.reduceLE, Int.reduceLT, Int.reduceToNat, Int.reduceBEq, Int.reduceBNe, Int.reduceAdd, Int.reduceSub, Int.cast_ofNat_Int]
  | false =>
  have hv : validE it a = 0 := by simpa using c0
  have A := valid_ok hv
  have IO := item_ok A.item
  rw [hv] at I
  have c0' : ((0 : Int) != 0) = false := rfl
  cases c6 : it.kind == 6 with
  | true =>
    have e : scoreV it a = (0, 8) := by unfold scoreV; rw [c0, c6]; rfl
    rw [e]
    refine ACalls.of ⟨21, [], []⟩ (fn := Tryz.f8) Tryz.func8 rfl rfl rfl (by kernel_rfl) (by kernel_rfl) (Nat.le_of_ble_eq_true rfl) ?_
    simp (maxSteps := 1000000) -implicitDefEqProofs only [go_sem, awp_seq, Nat.reduceBNe, Nat.reduceBEq, Nat.reduceAdd, Nat.reduceSub, Nat.reduceMul, Nat.reduceLeDiff, Nat.reduceLT, Nat.reduceEqDiff, Nat.reduceBneDiff, Int.reduceLE, Int.reduceLT, Int.reduceToNat, Int.reduceBEq, Int.reduceBNe, Int.reduceAdd, Int.reduceSub, Int.cast_ofNat_Int]
    refine callA_mk I ?_
    simp (maxSteps := 1000000) -implicitDefEqProofs only [c0', c6, go_sem, awp_seq, Nat.reduceBNe, Nat.reduceBEq, Nat.reduceAdd, Nat.reduceSub, Nat.reduceMul, Nat.reduceLeDiff, Nat.reduceLT, Nat.reduceEqDiff, Nat.reduceBneDiff, Int.reduceLE, Int.reduceLT, Int.reduceToNat, Int.reduceBEq, Int.reduceBNe, Int.reduceAdd, Int.reduceSub, Int.cast_ofNat_Int]
  | false =>
  cases om : a.om with
  | true =>
    have e : scoreV it a = (0, 0) := by unfold scoreV; rw [c0, c6, om]; rfl
    rw [e]
    refine ACalls.of ⟨21, [], []⟩ (fn := Tryz.f8) Tryz.func8 rfl rfl rfl (by kernel_rfl) (by kernel_rfl) (Nat.le_of_ble_eq_true rfl) ?_
    simp (maxSteps := 1000000) -implicitDefEqProofs only [go_sem, awp_seq, Nat.reduceBNe, Nat.reduceBEq, Nat.reduceAdd, Nat.reduceSub, Nat.reduceMul, Nat.reduceLeDiff, Nat.reduceLT, Nat.reduceEqDiff, Nat.reduceBneDiff, Int.reduceLE, Int.reduceLT, Int.reduceToNat, Int.reduceBEq, Int.reduceBNe, Int.reduceAdd, Int.reduceSub, Int.cast_ofNat_Int]
    refine callA_mk I ?_
    simp (maxSteps := 1000000) -implicitDefEqProofs only [c0', c6, om, go_sem, awp_seq, Nat.reduceBNe, Nat.reduceBEq, Nat.reduceAdd, Nat.reduceSub, Nat.reduceMul, Nat.reduceLeDiff, Nat.reduceLT, Nat.reduceEqDiff, Nat.reduceBneDiff, Int.reduceLE, Int.reduceLT, Int.reduceToNat, Int.reduceBEq, Int.reduceBNe, Int.reduceAdd, Int.reduceSub, Int.cast_ofNat_Int]
  | false =>
  cases c2 : it.kind == 2 with
  | true =>
    have hk : it.kind = 2 := by simpa using c2
    have e : scoreV it a = (multiV it a.ch, 0) := by unfold scoreV; rw [c0, c6, om, c2]; rfl
    have k2 := IO.key2 hk
    simp only [key2, Bool.and_eq_true, decide_eq_true_eq] at k2
    have M := M IO.pts (by omega)
    rw [e]
    refine ACalls.of ⟨21, [], []⟩ (fn := Tryz.f8) Tryz.func8 rfl rfl rfl (by kernel_rfl) (by kernel_rfl) (Nat.le_of_ble_eq_true rfl) ?_
    simp (maxSteps := 1000000) -implicitDefEqProofs only [go_sem, awp_seq, Nat.reduceBNe, Nat.reduceBEq, Nat.reduceAdd, Nat.reduceSub, Nat.reduceMul, Nat.reduceLeDiff, Nat.reduceLT, Nat.reduceEqDiff, Nat.reduceBneDiff, Int.reduceLE, Int.reduceLT, Int.reduceToNat, Int.reduceBEq, Int.reduceBNe, Int.reduceAdd, Int.reduceSub, Int.cast_ofNat_Int]
    refine callA_mk I ?_
    simp (maxSteps := 1000000) -implicitDefEqProofs only [c0', c6, c2, om, go_sem, awp_seq, Nat.reduceBNe, Nat.reduceBEq, Nat.reduceAdd, Nat.reduceSub, Nat.reduceMul, Nat.reduceLeDiff, Nat.reduceLT, Nat.reduceEqDiff, Nat.reduceBneDiff, Int.reduceLE, Int.reduceLT, Int.reduceToNat, Int.reduceBEq, Int.reduceBNe, Int.reduceAdd, Int.reduceSub, Int.cast_ofNat_Int]
    refine callA_t M ?_
    simp (maxSteps := 1000000) -implicitDefEqProofs only [go_sem, awp_seq, Nat.reduceBNe, Nat.reduceBEq, Nat.reduceAdd, Nat.reduceSub, Nat.reduceMul, Nat.reduceLeDiff, Nat.reduceLT, Nat.reduceEqDiff, Nat.reduceBneDiff, Int.reduceLE, Int.reduceLT, Int.reduceToNat, Int.reduceBEq, Int.reduceBNe, Int.reduceAdd, Int.reduceSub, Int.cast_ofNat_Int]
  | false =>
  cases c3 : it.kind == 3 with
  | true =>
    have hk : it.kind = 3 := by simpa using c3
    have e : scoreV it a = (orderV it a.ch, 0) := by unfold scoreV; rw [c0, c6, om, c2, c3]; rfl
    have k3 := IO.key3 hk
    simp only [key3, lastI, Bool.and_eq_true, decide_eq_true_eq] at k3
    have hf := (ch_ok (A.rest om (by omega))).2
    simp only [fitB, c2, c3, show (it.kind == 1) = false by rw [hk]; rfl, cond_true, cond_false, Bool.and_eq_true, beq_iff_eq] at hf
    have hlen : 2 ≤ a.ch.length := by
      have q1 := hf.1
      have q2 := of_decide_eq_true k3.1.1
      omega
    have O := O IO.pts hlen
    rw [e]
    refine ACalls.of ⟨21, [], []⟩ (fn := Tryz.f8) Tryz.func8 rfl rfl rfl (by kernel_rfl) (by kernel_rfl) (Nat.le_of_ble_eq_true rfl) ?_
    simp (maxSteps := 1000000) -implicitDefEqProofs only [go_sem, awp_seq, Nat.reduceBNe, Nat.reduceBEq, Nat.reduceAdd, Nat.reduceSub, Nat.reduceMul, Nat.reduceLeDiff, Nat.reduceLT, Nat.reduceEqDiff, Nat.reduceBneDiff, Int.reduceLE, Int.reduceLT, Int.reduceToNat, Int.reduceBEq, Int.reduceBNe, Int.reduceAdd, Int.reduceSub, Int.cast_ofNat_Int]
    refine callA_mk I ?_
    simp (maxSteps := 1000000) -implicitDefEqProofs only [c0', c6, c2, c3, om, go_sem, awp_seq, Nat.reduceBNe, Nat.reduceBEq, Nat.reduceAdd, Nat.reduceSub, Nat.reduceMul, Nat.reduceLeDiff, Nat.reduceLT, Nat.reduceEqDiff, Nat.reduceBneDiff, Int.reduceLE, Int.reduceLT, Int.reduceToNat, Int.reduceBEq, Int.reduceBNe, Int.reduceAdd, Int.reduceSub, Int.cast_ofNat_Int]
    refine callA_t O ?_
    simp (maxSteps := 1000000) -implicitDefEqProofs only [go_sem, awp_seq, Nat.reduceBNe, Nat.reduceBEq, Nat.reduceAdd, Nat.reduceSub, Nat.reduceMul, Nat.reduceLeDiff, Nat.reduceLT, Nat.reduceEqDiff, Nat.reduceBneDiff, Int.reduceLE, Int.reduceLT, Int.reduceToNat, Int.reduceBEq, Int.reduceBNe, Int.reduceAdd, Int.reduceSub, Int.cast_ofNat_Int]
  | false =>
  have e : scoreV it a = (bif rightB it a then (it.pts, 0) else (0, 0)) := by unfold scoreV; rw [c0, c6, om, c2, c3]; rfl
  rw [e]
  cases c1 : it.kind == 1 with
  | true =>
    have hk : it.kind = 1 := by simpa using c1
    have k1 := IO.key1 hk
    simp only [key1, Bool.and_eq_true, decide_eq_true_eq, beq_iff_eq] at k1
    have hf := (ch_ok (A.rest om (by omega))).2
    simp only [fitB, c1, cond_true, beq_iff_eq] at hf
    obtain ⟨x, hx⟩ : ∃ x, a.ch = [x] := List.length_eq_one_iff.1 (by omega)
    obtain ⟨y, hy⟩ : ∃ y, it.key = [y] := List.length_eq_one_iff.1 (by omega)
    have e1 : (List.map (fun x => i64 x) a.ch)[0]? = some (i64 x) := by rw [hx]; rfl
    have e2 : (List.map (fun x => i64 x) it.key)[0]? = some (i64 y) := by rw [hy]; rfl
    have er : rightB it a = (x == y) := by unfold rightB; rw [c1, hx, hy]; rfl
    rw [er]
    cases hxy : x == y with
    | true =>
      refine ACalls.of ⟨21, [], []⟩ (fn := Tryz.f8) Tryz.func8 rfl rfl rfl (by kernel_rfl) (by kernel_rfl) (Nat.le_of_ble_eq_true rfl) ?_
      simp (maxSteps := 1000000) -implicitDefEqProofs only [go_sem, awp_seq, Nat.reduceBNe, Nat.reduceBEq, Nat.reduceAdd, Nat.reduceSub, Nat.reduceMul, Nat.reduceLeDiff, Nat.reduceLT, Nat.reduceEqDiff, Nat.reduceBneDiff, Int.reduceLE, Int.reduceLT, Int.reduceToNat, Int.reduceBEq, Int.reduceBNe, Int.reduceAdd, Int.reduceSub, Int.cast_ofNat_Int]
      refine callA_mk I ?_
      simp (maxSteps := 1000000) -implicitDefEqProofs only [c0', c6, c2, c3, c1, om, e1, e2, hxy, Int.toNat_zero, Int.le_refl, go_sem, awp_seq, Nat.reduceBNe, Nat.reduceBEq, Nat.reduceAdd, Nat.reduceSub, Nat.reduceMul, Nat.reduceLeDiff, Nat.reduceLT, Nat.reduceEqDiff, Nat.reduceBneDiff, Int.reduceLE, Int.reduceLT, Int.reduceToNat, Int.reduceBEq, Int.reduceBNe, Int.reduceAdd, Int.reduceSub, Int.cast_ofNat_Int]
    | false =>
      refine ACalls.of ⟨21, [], []⟩ (fn := Tryz.f8) Tryz.func8 rfl rfl rfl (by kernel_rfl) (by kernel_rfl) (Nat.le_of_ble_eq_true rfl) ?_
      simp (maxSteps := 1000000) -implicitDefEqProofs only [go_sem, awp_seq, Nat.reduceBNe, Nat.reduceBEq, Nat.reduceAdd, Nat.reduceSub, Nat.reduceMul, Nat.reduceLeDiff, Nat.reduceLT, Nat.reduceEqDiff, Nat.reduceBneDiff, Int.reduceLE, Int.reduceLT, Int.reduceToNat, Int.reduceBEq, Int.reduceBNe, Int.reduceAdd, Int.reduceSub, Int.cast_ofNat_Int]
      refine callA_mk I ?_
      simp (maxSteps := 1000000) -implicitDefEqProofs only [c0', c6, c2, c3, c1, om, e1, e2, hxy, Int.toNat_zero, Int.le_refl, go_sem, awp_seq, Nat.reduceBNe, Nat.reduceBEq, Nat.reduceAdd, Nat.reduceSub, Nat.reduceMul, Nat.reduceLeDiff, Nat.reduceLT, Nat.reduceEqDiff, Nat.reduceBneDiff, Int.reduceLE, Int.reduceLT, Int.reduceToNat, Int.reduceBEq, Int.reduceBNe, Int.reduceAdd, Int.reduceSub, Int.cast_ofNat_Int]
  | false =>
  cases c4 : it.kind == 4 with
  | true =>
    have hk : it.kind = 4 := by simpa using c4
    have er : rightB it a = decide (maxI (a.val - it.val) (it.val - a.val) ≤ it.tol) := by unfold rightB; rw [c1, c4]; rfl
    rw [er]
    have iv : -9999999 ≤ it.val ∧ it.val ≤ 9999999 := by
      have := IO.key
      simp only [keyB, c1, c2, c3, c4, cond_true, cond_false, key4, withinB, Bool.and_eq_true, decide_eq_true_eq] at this
      omega
    have av : -9999999 ≤ a.val ∧ a.val ≤ 9999999 := by
      have hb := A.plain
      unfold validE at hv
      rw [show (itemE it != 0) = false by simp [A.item], show (a.item != it.id) = false by simp [A.id], hb, om, c4] at hv
      cases d1 : decide (a.val < -9999999) with
      | true => rw [d1] at hv; cases hv
      | false =>
      cases d2 : decide ((9999999 : Int) < a.val) with
      | true => rw [d1, d2] at hv; cases hv
      | false => simp at d1 d2; omega
    have w1 : IntKind.i64.wrap (a.val - it.val) = a.val - it.val := by rw [IntWalk.i64_in _ (by omega)]
    have w2 : IntKind.i64.wrap (it.val - a.val) = it.val - a.val := by rw [IntWalk.i64_in _ (by omega)]
    have m0 : (if it.val - a.val > a.val - it.val then it.val - a.val else a.val - it.val) = maxI (a.val - it.val) (it.val - a.val) := rfl
    cases hr : decide (maxI (a.val - it.val) (it.val - a.val) ≤ it.tol) with
    | true =>
      refine ACalls.of ⟨21, [], []⟩ (fn := Tryz.f8) Tryz.func8 rfl rfl rfl (by kernel_rfl) (by kernel_rfl) (Nat.le_of_ble_eq_true rfl) ?_
      simp (maxSteps := 1000000) -implicitDefEqProofs only [go_sem, awp_seq, Nat.reduceBNe, Nat.reduceBEq, Nat.reduceAdd, Nat.reduceSub, Nat.reduceMul, Nat.reduceLeDiff, Nat.reduceLT, Nat.reduceEqDiff, Nat.reduceBneDiff, Int.reduceLE, Int.reduceLT, Int.reduceToNat, Int.reduceBEq, Int.reduceBNe, Int.reduceAdd, Int.reduceSub, Int.cast_ofNat_Int]
      refine callA_mk I ?_
      simp (maxSteps := 1000000) -implicitDefEqProofs only [c0', c6, c2, c3, c1, c4, om, w1, w2, m0, hr, go_sem, awp_seq, Nat.reduceBNe, Nat.reduceBEq, Nat.reduceAdd, Nat.reduceSub, Nat.reduceMul, Nat.reduceLeDiff, Nat.reduceLT, Nat.reduceEqDiff, Nat.reduceBneDiff, Int.reduceLE, Int.reduceLT, Int.reduceToNat, Int.reduceBEq, Int.reduceBNe, Int.reduceAdd, Int.reduceSub, Int.cast_ofNat_Int]
    | false =>
      refine ACalls.of ⟨21, [], []⟩ (fn := Tryz.f8) Tryz.func8 rfl rfl rfl (by kernel_rfl) (by kernel_rfl) (Nat.le_of_ble_eq_true rfl) ?_
      simp (maxSteps := 1000000) -implicitDefEqProofs only [go_sem, awp_seq, Nat.reduceBNe, Nat.reduceBEq, Nat.reduceAdd, Nat.reduceSub, Nat.reduceMul, Nat.reduceLeDiff, Nat.reduceLT, Nat.reduceEqDiff, Nat.reduceBneDiff, Int.reduceLE, Int.reduceLT, Int.reduceToNat, Int.reduceBEq, Int.reduceBNe, Int.reduceAdd, Int.reduceSub, Int.cast_ofNat_Int]
      refine callA_mk I ?_
      simp (maxSteps := 1000000) -implicitDefEqProofs only [c0', c6, c2, c3, c1, c4, om, w1, w2, m0, hr, go_sem, awp_seq, Nat.reduceBNe, Nat.reduceBEq, Nat.reduceAdd, Nat.reduceSub, Nat.reduceMul, Nat.reduceLeDiff, Nat.reduceLT, Nat.reduceEqDiff, Nat.reduceBneDiff, Int.reduceLE, Int.reduceLT, Int.reduceToNat, Int.reduceBEq, Int.reduceBNe, Int.reduceAdd, Int.reduceSub, Int.cast_ofNat_Int]
  | false =>
  cases c5 : it.kind == 5 with
  | true =>
    have er : rightB it a = it.texts.contains (normV a.text) := by unfold rightB; rw [c1, c4, c5]; rfl
    rw [er]
    generalize it.texts.contains (normV a.text) = r at *
    refine ACalls.of ⟨21, [], []⟩ (fn := Tryz.f8) Tryz.func8 rfl rfl rfl (by kernel_rfl) (by kernel_rfl) (Nat.le_of_ble_eq_true rfl) ?_
    simp (maxSteps := 1000000) -implicitDefEqProofs only [go_sem, awp_seq, Nat.reduceBNe, Nat.reduceBEq, Nat.reduceAdd, Nat.reduceSub, Nat.reduceMul, Nat.reduceLeDiff, Nat.reduceLT, Nat.reduceEqDiff, Nat.reduceBneDiff, Int.reduceLE, Int.reduceLT, Int.reduceToNat, Int.reduceBEq, Int.reduceBNe, Int.reduceAdd, Int.reduceSub, Int.cast_ofNat_Int]
    refine callA_mk I ?_
    simp (maxSteps := 1000000) -implicitDefEqProofs only [c0', c6, c2, c3, c1, c4, c5, om, go_sem, awp_seq, Nat.reduceBNe, Nat.reduceBEq, Nat.reduceAdd, Nat.reduceSub, Nat.reduceMul, Nat.reduceLeDiff, Nat.reduceLT, Nat.reduceEqDiff, Nat.reduceBneDiff, Int.reduceLE, Int.reduceLT, Int.reduceToNat, Int.reduceBEq, Int.reduceBNe, Int.reduceAdd, Int.reduceSub, Int.cast_ofNat_Int]
    refine callA_t N ?_
    simp (maxSteps := 1000000) -implicitDefEqProofs only [go_sem, awp_seq, Nat.reduceBNe, Nat.reduceBEq, Nat.reduceAdd, Nat.reduceSub, Nat.reduceMul, Nat.reduceLeDiff, Nat.reduceLT, Nat.reduceEqDiff, Nat.reduceBneDiff, Int.reduceLE, Int.reduceLT, Int.reduceToNat, Int.reduceBEq, Int.reduceBNe, Int.reduceAdd, Int.reduceSub, Int.cast_ofNat_Int]
    refine callA_t T ?_
    cases r with
    | true => simp (maxSteps := 1000000) -implicitDefEqProofs only [go_sem, awp_seq, Nat.reduceBNe, Nat.reduceBEq, Nat.reduceAdd, Nat.reduceSub, Nat.reduceMul, Nat.reduceLeDiff, Nat.reduceLT, Nat.reduceEqDiff, Nat.reduceBneDiff, Int.reduceLE, Int.reduceLT, Int.reduceToNat, Int.reduceBEq, Int.reduceBNe, Int.reduceAdd, Int.reduceSub, Int.cast_ofNat_Int]
    | false => simp (maxSteps := 1000000) -implicitDefEqProofs only [go_sem, awp_seq, Nat.reduceBNe, Nat.reduceBEq, Nat.reduceAdd, Nat.reduceSub, Nat.reduceMul, Nat.reduceLeDiff, Nat.reduceLT, Nat.reduceEqDiff, Nat.reduceBneDiff, Int.reduceLE, Int.reduceLT, Int.reduceToNat, Int.reduceBEq, Int.reduceBNe, Int.reduceAdd, Int.reduceSub, Int.cast_ofNat_Int]
  | false =>
    have := IO.kinds
    simp at c1 c2 c3 c4 c5 c6
    omega
end Go.Proofs.YtkmicjpoekbhfaaGreatDoor

/- Chapter 40: a right answer; equal answers; printable texts. INTS -/
set_option linter.unusedSimpArgs false
set_option linter.unusedVariables false
namespace Go.Proofs.YtkmicjpoekbhfaaGreatDoor
open Go.RowKit Lim

abbrev ans0 : AnsV := ⟨0, [], 0, [], false⟩
def rightA (it : ItV) : AnsV := bif it.kind == 4 then ⟨it.id, [], it.val, [], false⟩ else bif it.kind == 5 then ⟨it.id, [], 0, it.texts[0]?.getD [], false⟩ else ⟨it.id, it.key, 0, [], false⟩
def rightE (it : ItV) : Int := bif itemE it != 0 then itemE it else bif it.kind == 6 then 8 else 0
def rightV (it : ItV) : AnsV := bif rightE it != 0 then ans0 else rightA it
theorem strs_get (L : List (List UInt8)) (i : Nat) : (L.map (fun x => str x))[i]? = (L[i]?).map (fun x => str x) := by simp
set_option maxHeartbeats 2000000 in
theorem right_c (it : ItV) (h : IOK it) : AC 10 [itA it] (.tup [ansA (rightV it), i64 (rightE it)]) := by
  have I := itemValid_c it h
  cases c0 : itemE it != 0 with
  | true =>
    have e1 : rightE it = itemE it := by unfold rightE; rw [c0]; rfl
    have e2 : rightV it = ans0 := by unfold rightV; rw [e1, c0]; rfl
    rw [e1, e2]
    generalize itemE it = e at *
    refine ACalls.of ⟨17, [], []⟩ (fn := Tryz.f10) Tryz.func10 rfl rfl rfl (by kernel_rfl) (by kernel_rfl) (Nat.le_of_ble_eq_true rfl) ?_
    simp (maxSteps := 1000000) -implicitDefEqProofs only [go_sem, awp_seq, Nat.reduceBNe, Nat.reduceBEq, Nat.reduceAdd, Nat.reduceSub, Nat.reduceMul, Nat.reduceLeDiff, Nat.reduceLT, Nat.reduceEqDiff, Nat.reduceBneDiff, Int.reduceLE, Int.reduceLT, Int.reduceToNat, Int.reduceBEq, Int.reduceBNe, Int.reduceAdd, Int.reduceSub, Int.cast_ofNat_Int]
    refine callA_mk I ?_
    simp (maxSteps := 1000000) -implicitDefEqProofs only [c0, go_sem, awp_seq, Nat.reduceBNe, Nat.reduceBEq, Nat.reduceAdd, Nat.reduceSub, Nat.reduceMul, Nat.reduceLeDiff, Nat.reduceLT, Nat.reduceEqDiff, Nat.reduceBneDiff, Int.reduceLE, Int.reduceLT, Int.reduceToNat, Int.reduceBEq, Int.reduceBNe, Int.reduceAdd, Int.reduceSub, Int.cast_ofNat_Int]
    rfl
  | false =>
  have c0z : itemE it = 0 := by simpa using c0
  have c0' : ((0 : Int) != 0) = false := rfl
  rw [c0z] at I
  cases c6 : it.kind == 6 with
  | true =>
    have e1 : rightE it = 8 := by unfold rightE; rw [c0, c6]; rfl
    have e2 : rightV it = ans0 := by unfold rightV; rw [e1]; rfl
    rw [e1, e2]
    refine ACalls.of ⟨17, [], []⟩ (fn := Tryz.f10) Tryz.func10 rfl rfl rfl (by kernel_rfl) (by kernel_rfl) (Nat.le_of_ble_eq_true rfl) ?_
    simp (maxSteps := 1000000) -implicitDefEqProofs only [go_sem, awp_seq, Nat.reduceBNe, Nat.reduceBEq, Nat.reduceAdd, Nat.reduceSub, Nat.reduceMul, Nat.reduceLeDiff, Nat.reduceLT, Nat.reduceEqDiff, Nat.reduceBneDiff, Int.reduceLE, Int.reduceLT, Int.reduceToNat, Int.reduceBEq, Int.reduceBNe, Int.reduceAdd, Int.reduceSub, Int.cast_ofNat_Int]
    refine callA_mk I ?_
    simp (maxSteps := 1000000) -implicitDefEqProofs only [c0', c6, go_sem, awp_seq, Nat.reduceBNe, Nat.reduceBEq, Nat.reduceAdd, Nat.reduceSub, Nat.reduceMul, Nat.reduceLeDiff, Nat.reduceLT, Nat.reduceEqDiff, Nat.reduceBneDiff, Int.reduceLE, Int.reduceLT, Int.reduceToNat, Int.reduceBEq, Int.reduceBNe, Int.reduceAdd, Int.reduceSub, Int.cast_ofNat_Int]
    rfl
  | false =>
  have e1 : rightE it = 0 := by unfold rightE; rw [c0, c6]; rfl
  have e2 : rightV it = rightA it := by unfold rightV; rw [e1]; rfl
  rw [e1, e2]
  cases c4 : it.kind == 4 with
  | true =>
    have e : rightA it = ⟨it.id, [], it.val, [], false⟩ := by unfold rightA; rw [c4]; rfl
    rw [e]
    refine ACalls.of ⟨17, [], []⟩ (fn := Tryz.f10) Tryz.func10 rfl rfl rfl (by kernel_rfl) (by kernel_rfl) (Nat.le_of_ble_eq_true rfl) ?_
    simp (maxSteps := 1000000) -implicitDefEqProofs only [go_sem, awp_seq, Nat.reduceBNe, Nat.reduceBEq, Nat.reduceAdd, Nat.reduceSub, Nat.reduceMul, Nat.reduceLeDiff, Nat.reduceLT, Nat.reduceEqDiff, Nat.reduceBneDiff, Int.reduceLE, Int.reduceLT, Int.reduceToNat, Int.reduceBEq, Int.reduceBNe, Int.reduceAdd, Int.reduceSub, Int.cast_ofNat_Int]
    refine callA_mk I ?_
    simp (maxSteps := 1000000) -implicitDefEqProofs only [c0', c6, c4, go_sem, awp_seq, Nat.reduceBNe, Nat.reduceBEq, Nat.reduceAdd, Nat.reduceSub, Nat.reduceMul, Nat.reduceLeDiff, Nat.reduceLT, Nat.reduceEqDiff, Nat.reduceBneDiff, Int.reduceLE, Int.reduceLT, Int.reduceToNat, Int.reduceBEq, Int.reduceBNe, Int.reduceAdd, Int.reduceSub, Int.cast_ofNat_Int]
    rfl
  | false =>
  cases c5 : it.kind == 5 with
  | true =>
    have IO := item_ok c0z
    have k5 := IO.key5 (by simpa using c5)
    obtain ⟨x, r, hx⟩ : ∃ x r, it.texts = x :: r := by
      cases hh : it.texts with
      | nil => rw [hh] at k5; cases k5
      | cons x r => exact ⟨x, r, rfl⟩
    have e : rightA it = ⟨it.id, [], 0, x, false⟩ := by unfold rightA; rw [c4, c5, hx]; rfl
    have ex : (List.map (fun x => str x) it.texts)[0]? = some (str x) := by rw [hx]; rfl
    rw [e]
    refine ACalls.of ⟨17, [], []⟩ (fn := Tryz.f10) Tryz.func10 rfl rfl rfl (by kernel_rfl) (by kernel_rfl) (Nat.le_of_ble_eq_true rfl) ?_
    simp (maxSteps := 1000000) -implicitDefEqProofs only [go_sem, awp_seq, Nat.reduceBNe, Nat.reduceBEq, Nat.reduceAdd, Nat.reduceSub, Nat.reduceMul, Nat.reduceLeDiff, Nat.reduceLT, Nat.reduceEqDiff, Nat.reduceBneDiff, Int.reduceLE, Int.reduceLT, Int.reduceToNat, Int.reduceBEq, Int.reduceBNe, Int.reduceAdd, Int.reduceSub, Int.cast_ofNat_Int]
    refine callA_mk I ?_
    simp (maxSteps := 1000000) -implicitDefEqProofs only [c0', c6, c4, c5, ex, Int.toNat_zero, Int.le_refl, go_sem, awp_seq, Nat.reduceBNe, Nat.reduceBEq, Nat.reduceAdd, Nat.reduceSub, Nat.reduceMul, Nat.reduceLeDiff, Nat.reduceLT, Nat.reduceEqDiff, Nat.reduceBneDiff, Int.reduceLE, Int.reduceLT, Int.reduceToNat, Int.reduceBEq, Int.reduceBNe, Int.reduceAdd, Int.reduceSub, Int.cast_ofNat_Int]
    rfl
  | false =>
    have e : rightA it = ⟨it.id, it.key, 0, [], false⟩ := by unfold rightA; rw [c4, c5]; rfl
    have hk := h.key
    have CL := clone_c it.key (by omega)
    rw [e]
    refine ACalls.of ⟨17, [], []⟩ (fn := Tryz.f10) Tryz.func10 rfl rfl rfl (by kernel_rfl) (by kernel_rfl) (Nat.le_of_ble_eq_true rfl) ?_
    simp (maxSteps := 1000000) -implicitDefEqProofs only [go_sem, awp_seq, Nat.reduceBNe, Nat.reduceBEq, Nat.reduceAdd, Nat.reduceSub, Nat.reduceMul, Nat.reduceLeDiff, Nat.reduceLT, Nat.reduceEqDiff, Nat.reduceBneDiff, Int.reduceLE, Int.reduceLT, Int.reduceToNat, Int.reduceBEq, Int.reduceBNe, Int.reduceAdd, Int.reduceSub, Int.cast_ofNat_Int]
    refine callA_mk I ?_
    simp (maxSteps := 1000000) -implicitDefEqProofs only [c0', c6, c4, c5, go_sem, awp_seq, Nat.reduceBNe, Nat.reduceBEq, Nat.reduceAdd, Nat.reduceSub, Nat.reduceMul, Nat.reduceLeDiff, Nat.reduceLT, Nat.reduceEqDiff, Nat.reduceBneDiff, Int.reduceLE, Int.reduceLT, Int.reduceToNat, Int.reduceBEq, Int.reduceBNe, Int.reduceAdd, Int.reduceSub, Int.cast_ofNat_Int]
    refine callA_t CL ?_
    simp (maxSteps := 1000000) -implicitDefEqProofs only [go_sem, awp_seq, Nat.reduceBNe, Nat.reduceBEq, Nat.reduceAdd, Nat.reduceSub, Nat.reduceMul, Nat.reduceLeDiff, Nat.reduceLT, Nat.reduceEqDiff, Nat.reduceBneDiff, Int.reduceLE, Int.reduceLT, Int.reduceToNat, Int.reduceBEq, Int.reduceBNe, Int.reduceAdd, Int.reduceSub, Int.cast_ofNat_Int]
    rfl
def sameB (a b : AnsV) : Bool := a.item == b.item && (a.val == b.val && (a.text == b.text && (a.om == b.om && a.ch == b.ch)))
set_option maxHeartbeats 4000000 in
theorem same_c (a b : AnsV) (ha : a.ch.length ≤ 2000000) : AT 14 [ansA a, ansA b] (boo (sameB a b)) := by
  unfold sameB
  cases c1 : a.item == b.item with
  | false =>
    have n1 : (a.item != b.item) = true := by simp only [bne, c1, Bool.not_false]
    refine ACalls.of ⟨45, [], []⟩ (fn := Tryz.f14) Tryz.func14 rfl rfl rfl (by kernel_rfl) (by kernel_rfl) (Nat.le_of_ble_eq_true rfl) ?_
    simp (maxSteps := 1000000) -implicitDefEqProofs only [n1, Bool.false_and, go_sem, awp_seq, Nat.reduceBNe, Nat.reduceBEq, Nat.reduceAdd, Nat.reduceSub, Nat.reduceMul, Nat.reduceLeDiff, Nat.reduceLT, Nat.reduceEqDiff, Nat.reduceBneDiff, Int.reduceLE, Int.reduceLT, Int.reduceToNat, Int.reduceBEq, Int.reduceBNe, Int.reduceAdd, Int.reduceSub, Int.cast_ofNat_Int]
  | true =>
  have n1 : (a.item != b.item) = false := by simp only [bne, c1, Bool.not_true]
  cases c2 : a.val == b.val with
  | false =>
    have n2 : (a.val != b.val) = true := by simp only [bne, c2, Bool.not_false]
    refine ACalls.of ⟨45, [], []⟩ (fn := Tryz.f14) Tryz.func14 rfl rfl rfl (by kernel_rfl) (by kernel_rfl) (Nat.le_of_ble_eq_true rfl) ?_
    simp (maxSteps := 1000000) -implicitDefEqProofs only [n1, n2, Bool.true_and, Bool.false_and, go_sem, awp_seq, Nat.reduceBNe, Nat.reduceBEq, Nat.reduceAdd, Nat.reduceSub, Nat.reduceMul, Nat.reduceLeDiff, Nat.reduceLT, Nat.reduceEqDiff, Nat.reduceBneDiff, Int.reduceLE, Int.reduceLT, Int.reduceToNat, Int.reduceBEq, Int.reduceBNe, Int.reduceAdd, Int.reduceSub, Int.cast_ofNat_Int]
  | true =>
  have n2 : (a.val != b.val) = false := by simp only [bne, c2, Bool.not_true]
  cases c3 : a.text == b.text with
  | false =>
    refine ACalls.of ⟨45, [], []⟩ (fn := Tryz.f14) Tryz.func14 rfl rfl rfl (by kernel_rfl) (by kernel_rfl) (Nat.le_of_ble_eq_true rfl) ?_
    simp (maxSteps := 1000000) -implicitDefEqProofs only [toList_bs, n1, n2, c3, Bool.not_false, Bool.true_and, Bool.false_and, go_sem, awp_seq, Nat.reduceBNe, Nat.reduceBEq, Nat.reduceAdd, Nat.reduceSub, Nat.reduceMul, Nat.reduceLeDiff, Nat.reduceLT, Nat.reduceEqDiff, Nat.reduceBneDiff, Int.reduceLE, Int.reduceLT, Int.reduceToNat, Int.reduceBEq, Int.reduceBNe, Int.reduceAdd, Int.reduceSub, Int.cast_ofNat_Int]
  | true =>
  cases c4 : a.om == b.om with
  | false =>
    have n4 : (a.om != b.om) = true := by simp only [bne, c4, Bool.not_false]
    refine ACalls.of ⟨45, [], []⟩ (fn := Tryz.f14) Tryz.func14 rfl rfl rfl (by kernel_rfl) (by kernel_rfl) (Nat.le_of_ble_eq_true rfl) ?_
    simp (maxSteps := 1000000) -implicitDefEqProofs only [toList_bs, n1, n2, c3, c4, n4, Bool.not_false, Bool.not_true, Bool.true_and, Bool.false_and, go_sem, awp_seq, Nat.reduceBNe, Nat.reduceBEq, Nat.reduceAdd, Nat.reduceSub, Nat.reduceMul, Nat.reduceLeDiff, Nat.reduceLT, Nat.reduceEqDiff, Nat.reduceBneDiff, Int.reduceLE, Int.reduceLT, Int.reduceToNat, Int.reduceBEq, Int.reduceBNe, Int.reduceAdd, Int.reduceSub, Int.cast_ofNat_Int]
  | true =>
  have n4 : (a.om != b.om) = false := by simp only [bne, c4, Bool.not_true]
  cases c5 : ((a.ch.length : Nat) : Int) == (b.ch.length : Nat) with
  | false =>
    have n5 : (((a.ch.length : Nat) : Int) != (b.ch.length : Nat)) = true := by simp only [bne, c5, Bool.not_false]
    have e : (a.ch == b.ch) = false := by
      rw [beq_eq_false_iff_ne]
      intro h
      rw [h] at c5
      simp at c5
    rw [e]
    refine ACalls.of ⟨45, [], []⟩ (fn := Tryz.f14) Tryz.func14 rfl rfl rfl (by kernel_rfl) (by kernel_rfl) (Nat.le_of_ble_eq_true rfl) ?_
    simp (maxSteps := 1000000) -implicitDefEqProofs only [toList_bs, List.length_map, n1, n2, c3, c4, n4, n5, Bool.not_false, Bool.not_true, Bool.true_and, Bool.false_and, go_sem, awp_seq, Nat.reduceBNe, Nat.reduceBEq, Nat.reduceAdd, Nat.reduceSub, Nat.reduceMul, Nat.reduceLeDiff, Nat.reduceLT, Nat.reduceEqDiff, Nat.reduceBneDiff, Int.reduceLE, Int.reduceLT, Int.reduceToNat, Int.reduceBEq, Int.reduceBNe, Int.reduceAdd, Int.reduceSub, Int.cast_ofNat_Int]
  | true =>
  have hlen : a.ch.length = b.ch.length := by
    have := eq_of_beq c5
    omega
  have n5 : (((a.ch.length : Nat) : Int) != (b.ch.length : Nat)) = false := by simp only [bne, c5, Bool.not_true]
  have bad : ∀ k, k < a.ch.length → a.ch[k]? ≠ b.ch[k]? → (a.ch == b.ch) = false := fun k _ h => by
    rw [beq_eq_false_iff_ne]
    intro e
    exact h (by rw [e])
  have good : (∀ k, k < a.ch.length → a.ch[k]? = b.ch[k]?) → (a.ch == b.ch) = true := fun h => by
    rw [beq_iff_eq]
    refine List.ext_getElem? fun i => ?_
    by_cases hi : i < a.ch.length
    · exact h i hi
    · rw [List.getElem?_eq_none (by omega), List.getElem?_eq_none (by omega)]
  simp only [Bool.true_and]
  generalize (a.ch == b.ch) = R at *
  refine ACalls.of ⟨45, [], []⟩ (fn := Tryz.f14) Tryz.func14 rfl rfl rfl (by kernel_rfl) (by kernel_rfl) (Nat.le_of_ble_eq_true rfl) ?_
  simp (maxSteps := 1000000) -implicitDefEqProofs only [toList_bs, List.length_map, n1, n2, c3, c4, n4, n5, Bool.not_false, Bool.not_true, Bool.true_and, Bool.false_and, go_sem, awp_seq, Nat.reduceBNe, Nat.reduceBEq, Nat.reduceAdd, Nat.reduceSub, Nat.reduceMul, Nat.reduceLeDiff, Nat.reduceLT, Nat.reduceEqDiff, Nat.reduceBneDiff, Int.reduceLE, Int.reduceLT, Int.reduceToNat, Int.reduceBEq, Int.reduceBNe, Int.reduceAdd, Int.reduceSub, Int.cast_ofNat_Int]
  refine loop_mk (α := {k : Nat // k ≤ a.ch.length ∧ ∀ i, i < k → a.ch[i]? = b.ch[i]?}) (fun k => [(0, some (.av (ansA a))), (1, some (.av (ansA b))), (2, some (.ref 2 0)), (3, some (.ref 3 0)), (4, some (.av (boo false))), (43, some (.av (i64 (a.ch.length : Nat)))), (44, some (.av (i64 (k.1 : Nat))))]) (fun _ => [(2, ansC a), (3, ansC b)]) (fun _ => []) (fun k => a.ch.length - k.1) ⟨0, Nat.zero_le _, fun i h2 => by omega⟩ ?_ ?_
  · simp (maxSteps := 1000000) -implicitDefEqProofs only [List.length_map, Int.cast_ofNat_Int, go_sem, awp_seq, Nat.reduceBNe, Nat.reduceBEq, Nat.reduceAdd, Nat.reduceSub, Nat.reduceMul, Nat.reduceLeDiff, Nat.reduceLT, Nat.reduceEqDiff, Nat.reduceBneDiff, Int.reduceLE, Int.reduceLT, Int.reduceToNat, Int.reduceBEq, Int.reduceBNe, Int.reduceAdd, Int.reduceSub, Int.cast_ofNat_Int]
  · rintro ⟨k, hk, hall⟩
    by_cases hlt : k < a.ch.length
    · have g1 : decide (((k : Nat) : Int) < (a.ch.length : Nat)) = true := by simp; omega
      have hltb : k < b.ch.length := by omega
      have e1 := ints_get a.ch k
      have e2 := ints_get b.ch k
      have q1 : a.ch[k]? = some a.ch[k] := List.getElem?_eq_getElem hlt
      have q2 : b.ch[k]? = some b.ch[k] := List.getElem?_eq_getElem hltb
      have b0 := bad k hlt
      have ok1 : a.ch[k]? = b.ch[k]? → ∀ i, i < k + 1 → a.ch[i]? = b.ch[i]? := fun h i hik => by
        by_cases he : i = k
        · subst he; exact h
        · exact hall i (by omega)
      rw [q1, q2] at b0 ok1
      rw [q1] at e1
      rw [q2] at e2
      simp only [Option.map_some] at e1 e2
      have w1 : IntKind.i64.wrap ((k : Int) + 1) = ((k + 1 : Nat) : Int) := by rw [IntWalk.i64_in _ (by omega)]; omega
      generalize a.ch[k] = x at *
      generalize b.ch[k] = y at *
      cases cc : x == y with
      | true =>
        have hxy : x = y := by simpa using cc
        have nn : (x != y) = false := by simp only [bne, cc, Bool.not_true]
        simp (maxSteps := 1000000) -implicitDefEqProofs only [g1, e1, e2, nn, w1, Int.toNat_natCast, Int.natCast_nonneg, go_sem, awp_seq, Nat.reduceBNe, Nat.reduceBEq, Nat.reduceAdd, Nat.reduceSub, Nat.reduceMul, Nat.reduceLeDiff, Nat.reduceLT, Nat.reduceEqDiff, Nat.reduceBneDiff, Int.reduceLE, Int.reduceLT, Int.reduceToNat, Int.reduceBEq, Int.reduceBNe, Int.reduceAdd, Int.reduceSub, Int.cast_ofNat_Int]
        refine roundK_mk ⟨k + 1, by omega, ok1 (by rw [hxy])⟩ ?_ (by show a.ch.length - (k + 1) < a.ch.length - k; omega)
        simp (maxSteps := 1000000) -implicitDefEqProofs only [go_sem, awp_seq, Nat.reduceBNe, Nat.reduceBEq, Nat.reduceAdd, Nat.reduceSub, Nat.reduceMul, Nat.reduceLeDiff, Nat.reduceLT, Nat.reduceEqDiff, Nat.reduceBneDiff, Int.reduceLE, Int.reduceLT, Int.reduceToNat, Int.reduceBEq, Int.reduceBNe, Int.reduceAdd, Int.reduceSub, Int.cast_ofNat_Int]
      | false =>
        have hxy : x ≠ y := by simpa using cc
        have nn : (x != y) = true := by simp only [bne, cc, Bool.not_false]
        have e := b0 (by intro h; exact hxy (Option.some.inj h))
        subst e
        simp (maxSteps := 1000000) -implicitDefEqProofs only [g1, e1, e2, nn, Int.toNat_natCast, Int.natCast_nonneg, go_sem, awp_seq, Nat.reduceBNe, Nat.reduceBEq, Nat.reduceAdd, Nat.reduceSub, Nat.reduceMul, Nat.reduceLeDiff, Nat.reduceLT, Nat.reduceEqDiff, Nat.reduceBneDiff, Int.reduceLE, Int.reduceLT, Int.reduceToNat, Int.reduceBEq, Int.reduceBNe, Int.reduceAdd, Int.reduceSub, Int.cast_ofNat_Int]
    · have g1 : decide (((k : Nat) : Int) < (a.ch.length : Nat)) = false := by simp; omega
      have e := good (fun i hi => hall i (by omega))
      subst e
      simp (maxSteps := 1000000) -implicitDefEqProofs only [g1, go_sem, awp_seq, Nat.reduceBNe, Nat.reduceBEq, Nat.reduceAdd, Nat.reduceSub, Nat.reduceMul, Nat.reduceLeDiff, Nat.reduceLT, Nat.reduceEqDiff, Nat.reduceBneDiff, Int.reduceLE, Int.reduceLT, Int.reduceToNat, Int.reduceBEq, Int.reduceBNe, Int.reduceAdd, Int.reduceSub, Int.cast_ofNat_Int]
/-- All bytes from 32 to 126. -/
def kprB (s : List UInt8) : Bool := s.all pchar
theorem kprintable_c (s : List UInt8) (hs : s.length < 4611686018427387904) : AT 44 [str s] (boo (kprB s)) := by
  have bad : ∀ k (hk : k < s.length), pchar s[k] = false → kprB s = false := fun k hk hb => by
    unfold kprB
    rw [List.all_eq_false]
    exact ⟨s[k], List.getElem_mem hk, by simp [hb]⟩
  refine ACalls.of ⟨7, [], []⟩ (fn := Tryz.f44) Tryz.func44 rfl rfl rfl (by kernel_rfl) (by kernel_rfl) (Nat.le_of_ble_eq_true rfl) ?_
  simp (maxSteps := 1000000) -implicitDefEqProofs only [bs_size, go_sem, awp_seq, Nat.reduceBNe, Nat.reduceBEq, Nat.reduceAdd, Nat.reduceSub, Nat.reduceMul, Nat.reduceLeDiff, Nat.reduceLT, Nat.reduceEqDiff, Nat.reduceBneDiff, Int.reduceLE, Int.reduceLT, Int.reduceToNat, Int.reduceBEq, Int.reduceBNe, Int.reduceAdd, Int.reduceSub, Int.cast_ofNat_Int]
  refine loop_mk (α := {k : Nat // k ≤ s.length ∧ ∀ i (hi : i < s.length), i < k → pchar s[i] = true}) (fun k => [(0, some (.av (str s))), (2, some (.av (boo false))), (5, some (.av (i64 (s.length : Nat)))), (6, some (.av (i64 (k.1 : Nat))))]) (fun _ => []) (fun _ => []) (fun k => s.length - k.1) ⟨0, Nat.zero_le _, fun i _ hi => by omega⟩ ?_ ?_
  · simp (maxSteps := 1000000) -implicitDefEqProofs only [bs_size, Int.cast_ofNat_Int, go_sem, awp_seq, Nat.reduceBNe, Nat.reduceBEq, Nat.reduceAdd, Nat.reduceSub, Nat.reduceMul, Nat.reduceLeDiff, Nat.reduceLT, Nat.reduceEqDiff, Nat.reduceBneDiff, Int.reduceLE, Int.reduceLT, Int.reduceToNat, Int.reduceBEq, Int.reduceBNe, Int.reduceAdd, Int.reduceSub, Int.cast_ofNat_Int]
  · rintro ⟨k, hk, hall⟩
    by_cases hlt : k < s.length
    · have g1 : decide (((k : Nat) : Int) < (s.length : Nat)) = true := by simp; omega
      have e1 : s[k]? = some s[k] := List.getElem?_eq_getElem hlt
      have w1 : IntKind.i64.wrap ((k : Int) + 1) = ((k + 1 : Nat) : Int) := by rw [IntWalk.i64_in _ (by omega)]; omega
      have b0 := bad k hlt
      have ok1 : pchar s[k] = true → ∀ i (hi : i < s.length), i < k + 1 → pchar s[i] = true := fun h i hi hik => by
        by_cases he : i = k
        · subst he; exact h
        · exact hall i hi (by omega)
      generalize s[k] = b at *
      cases c1 : decide ((b.toNat : Int) < 32) <;> cases c2 : decide ((126 : Int) < b.toNat)
      · simp (maxSteps := 1000000) -implicitDefEqProofs only [bs_size, strK_bs, g1, e1, c1, c2, w1, Int.toNat_natCast, Int.natCast_nonneg, go_sem, awp_seq, Nat.reduceBNe, Nat.reduceBEq, Nat.reduceAdd, Nat.reduceSub, Nat.reduceMul, Nat.reduceLeDiff, Nat.reduceLT, Nat.reduceEqDiff, Nat.reduceBneDiff, Int.reduceLE, Int.reduceLT, Int.reduceToNat, Int.reduceBEq, Int.reduceBNe, Int.reduceAdd, Int.reduceSub, Int.cast_ofNat_Int]
        refine roundK_mk ⟨k + 1, by omega, ok1 (by simp [pchar, c1, c2])⟩ ?_ (by show s.length - (k + 1) < s.length - k; omega)
        simp (maxSteps := 1000000) -implicitDefEqProofs only [go_sem, awp_seq, Nat.reduceBNe, Nat.reduceBEq, Nat.reduceAdd, Nat.reduceSub, Nat.reduceMul, Nat.reduceLeDiff, Nat.reduceLT, Nat.reduceEqDiff, Nat.reduceBneDiff, Int.reduceLE, Int.reduceLT, Int.reduceToNat, Int.reduceBEq, Int.reduceBNe, Int.reduceAdd, Int.reduceSub, Int.cast_ofNat_Int]
      all_goals
        have e := b0 (by simp [pchar, c1, c2])
        simp (maxSteps := 1000000) -implicitDefEqProofs only [bs_size, strK_bs, g1, e1, c1, c2, e, Int.toNat_natCast, Int.natCast_nonneg, go_sem, awp_seq, Nat.reduceBNe, Nat.reduceBEq, Nat.reduceAdd, Nat.reduceSub, Nat.reduceMul, Nat.reduceLeDiff, Nat.reduceLT, Nat.reduceEqDiff, Nat.reduceBneDiff, Int.reduceLE, Int.reduceLT, Int.reduceToNat, Int.reduceBEq, Int.reduceBNe, Int.reduceAdd, Int.reduceSub, Int.cast_ofNat_Int]
    · have g1 : decide (((k : Nat) : Int) < (s.length : Nat)) = false := by simp; omega
      have hA : kprB s = true := by
        unfold kprB
        rw [List.all_eq_true]
        intro x hx
        obtain ⟨i, hi, rfl⟩ := List.getElem_of_mem hx
        exact hall i hi (by omega)
      rw [hA]
      simp (maxSteps := 1000000) -implicitDefEqProofs only [g1, go_sem, awp_seq, Nat.reduceBNe, Nat.reduceBEq, Nat.reduceAdd, Nat.reduceSub, Nat.reduceMul, Nat.reduceLeDiff, Nat.reduceLT, Nat.reduceEqDiff, Nat.reduceBneDiff, Int.reduceLE, Int.reduceLT, Int.reduceToNat, Int.reduceBEq, Int.reduceBNe, Int.reduceAdd, Int.reduceSub, Int.cast_ofNat_Int]
end Go.Proofs.YtkmicjpoekbhfaaGreatDoor

/- Chapter 40: splitting, joining, printing numbers; sample and scored of the statements. INTS -/
set_option linter.unusedSimpArgs false
set_option linter.unusedVariables false
namespace Go.Proofs.YtkmicjpoekbhfaaGreatDoor
open Go.RowKit Go.Shelf Lim

/-- The pieces between the bytes c. -/
def conH (b : UInt8) : List (List UInt8) → List (List UInt8)
  | [] => [[b]]
  | x :: r => (b :: x) :: r
def spl (c : UInt8) : List UInt8 → List (List UInt8)
  | [] => [[]]
  | b :: l => if b = c then [] :: spl c l else conH b (spl c l)
theorem spl_ne (c : UInt8) : ∀ s, spl c s ≠ []
  | [] => by simp [spl]
  | b :: l => by
    unfold spl
    split
    · simp
    · cases h : spl c l <;> simp [conH]
theorem splitK_spl (c : UInt8) : ∀ s : List UInt8, Lib.splitK [c] 0 (s.count c) s = spl c s
  | [] => rfl
  | b :: l => by
    have ih := splitK_spl c l
    by_cases h : b = c
    · subst h
      have hix : Lib.index (b :: l) [b] = 0 := by rw [Lib.index]; simp [List.isPrefixOf]
      rw [List.count_cons_self, Lib.splitK, hix]
      simp only [spl, if_true]
      rw [← ih]
      simp
    · have hp : ([c] : List UInt8).isPrefixOf (b :: l) = false := by simp [List.isPrefixOf, Ne.symm h]
      have hix : Lib.index (b :: l) [c] = if Lib.index l [c] == -1 then -1 else Lib.index l [c] + 1 := by rw [Lib.index, hp]; simp
      have hge := Lib.index_ge l [c]
      rw [List.count_cons_of_ne (by simpa using h)]
      simp only [spl, if_neg h]
      rw [← ih]
      cases hk : l.count c with
      | zero => rfl
      | succ k =>
        simp only [Lib.splitK, hix]
        by_cases hm : Lib.index l [c] = -1
        · simp [hm, conH]
        · have e1 : (Lib.index l [c] == -1) = false := by simpa using hm
          have e2 : (Lib.index l [c] + 1 == -1) = false := by simp; omega
          have e3 : (Lib.index l [c] + 1).toNat = (Lib.index l [c]).toNat + 1 := by omega
          simp only [e1, e2, e3, Bool.false_eq_true, if_false, Nat.add_zero, List.length_cons, List.length_nil, conH, List.take_succ_cons, Nat.zero_add, List.drop_succ_cons]
theorem spl_len (c : UInt8) : ∀ s : List UInt8, (spl c s).length = s.count c + 1
  | [] => rfl
  | b :: l => by
    have ih := spl_len c l
    by_cases h : b = c
    · subst h; simp [spl, ih]
    · rw [List.count_cons_of_ne (by simpa using h)]
      simp only [spl, if_neg h]
      cases hh : spl c l with
      | nil => exact absurd hh (spl_ne c l)
      | cons x r => rw [hh] at ih; simpa [conH] using ih
theorem split_c (s : List UInt8) (hs : s.length ≤ 4000000) : AT 108 [str s, str [44]] (strs (spl 44 s)) := by
  refine ⟨by exact ⟨Tryz.f108, Tryz.func108, by kernel_rfl, rfl⟩, fun w Z vs hE hz _ hr => ?_⟩
  obtain ⟨_, _, rfl, h1, h2⟩ := reps2 hr
  have hE : Env w := hE
  obtain ⟨m, hm⟩ := hE.mx
  rw [h1.lit_eq, h2.lit_eq]
  have hd := Lib.splitB_data (bs [44]) 0 (Lib.countB (bs s) (bs [44])) (bs s)
  have hcount : Lib.countB (bs s) (bs [44]) = s.count 44 := Lib.count_one 44 s
  have hd2 : Lib.splitK (bs [44]).data.toList 0 (Lib.countB (bs s) (bs [44])) (bs s).data.toList = spl 44 s := by rw [hcount]; exact splitK_spl 44 s
  rw [hd2] at hd
  have hsp : Lib.splitB (bs [44]) 0 (Lib.countB (bs s) (bs [44])) (bs s) = (spl 44 s).map bs := by
    rw [← hd, List.map_map]
    have : (bs ∘ fun x : ByteArray => x.data.toList) = id := by funext x; rfl
    rw [this, List.map_id]
  have hl := spl_len 44 s
  refine (Tryz.strings_Split (bs s) (bs [44]) m w (by rw [bs_size]; omega) hm (by rw [bs_size]; decide)).mono ?_
  rintro e w' ⟨rfl, rfl⟩
  rw [hcount] at hsp
  rw [hcount, hsp, ← hl]
  have hbel : Below w.heap.size w (w.alloc (.cells (((spl 44 s).map bs).map Value.string).toArray 9)) := Below.alloc (Below.refl _ _) (Nat.le_refl _) _
  refine ⟨_, rfl, hbel, ?_⟩
  refine row1_rep (fun x : List UInt8 => Value.string (bs x)) (fun _ => rfl) (spl 44 s) (by rw [World.size_alloc]; exact Nat.lt_succ_self _) (Nat.le_refl _) fun j hj => ⟨?_, .inr ⟨Nat.le_refl _, by rw [World.size_alloc]; exact Nat.lt_succ_self _⟩⟩
  have hblk : (w.alloc (.cells (((spl 44 s).map bs).map Value.string).toArray 9)).heap[w.heap.size]? = some (.cells (((spl 44 s).map bs).map Value.string).toArray 9) := heap_alloc_new w _
  simp only [World.cell?, hblk, Nat.zero_add]
  simp [hj]
theorem join_c (L : List (List UInt8)) (p : List UInt8) (h0 : L ≠ []) (hl : L.length ≤ 140737488355328) (hj : (Lib.join L p).length ≤ 140737488355328) : AT 48 [strs L, str p] (str (Lib.join L p)) := by
  refine ⟨by exact ⟨Tryz.f48, Tryz.func48, by kernel_rfl, rfl⟩, fun w Z vs hE hz _ hr => ?_⟩
  obtain ⟨_, _, rfl, h1, h2⟩ := reps2 hr
  rw [h2.lit_eq]
  rcases rep_row1 (fun x : List UInt8 => Value.string (bs x)) h1 with ⟨rfl, A, c, rfl⟩ | ⟨b, off, c, rfl, hb, hc, hcell⟩
  · exact absurd rfl h0
  · have em : (L.map bs).map (fun x : ByteArray => x.data.toList) = L := by
      rw [List.map_map]
      have : ((fun x : ByteArray => x.data.toList) ∘ bs) = id := by funext x; rfl
      rw [this, List.map_id]
    have hJ := Tryz.strings_Join b off c (L.map bs) (bs p) w (fun j x hx => by
      rw [List.getElem?_map, Option.map_eq_some_iff] at hx
      obtain ⟨y, hy, rfl⟩ := hx
      obtain ⟨hj, rfl⟩ := List.getElem?_eq_some_iff.1 hy
      exact hcell j hj) hb (by simpa using hl) (by simpa using hc) (by rw [em]; exact hj)
    rw [em, List.length_map] at hJ
    refine hJ.mono ?_
    rintro e w' ⟨rfl, hb⟩
    exact ⟨_, rfl, hb, .lit rfl⟩
theorem itoa_c (n : Int) (h : inI n) : AT 47 [i64 n] (str (Lib.itoa n)) := by
  refine ⟨by exact ⟨Tryz.f47, Tryz.func47, by kernel_rfl, rfl⟩, fun w Z vs hE hz _ hr => ?_⟩
  obtain ⟨_, rfl, h1⟩ := reps1 hr
  have hE : Env w := hE
  rw [h1.lit_eq]
  refine (Tryz.strconv_Itoa n h.1 h.2 w hE.tab).mono ?_
  rintro e w' ⟨rfl, k, os, rfl⟩
  exact ⟨_, rfl, Lib.below_grow _ w (Nat.le_refl _) k os, .lit rfl⟩
def smO (k : Int) : List (List UInt8) := bif k == 3 then [[97], [98], [99]] else [[97], [98], [99], [100]]
def sampleV (k p : Int) (key : List Int) : ItV := ⟨7, 1, k, [63], smO k, key, 0, 0, [], p, [65], 0, 0, 0, 1, [], 0⟩
theorem sample_c (k p : Int) (key : List Int) : AT 36 [i64 k, i64 p, ints key] (itA (sampleV k p key)) := by
  unfold sampleV smO
  cases c : k == 3 with
  | true =>
    refine ACalls.of ⟨8, [], []⟩ (fn := Tryz.f36) Tryz.func36 rfl rfl rfl (by kernel_rfl) (by kernel_rfl) (Nat.le_of_ble_eq_true rfl) ?_
    simp (maxSteps := 1000000) -implicitDefEqProofs only [c, go_sem, awp_seq, Nat.reduceBNe, Nat.reduceBEq, Nat.reduceAdd, Nat.reduceSub, Nat.reduceMul, Nat.reduceLeDiff, Nat.reduceLT, Nat.reduceEqDiff, Nat.reduceBneDiff, Int.reduceLE, Int.reduceLT, Int.reduceToNat, Int.reduceBEq, Int.reduceBNe, Int.reduceAdd, Int.reduceSub, Int.cast_ofNat_Int]
    refine ⟨_, ⟨rfl, 0, 3, ⟨⟨by decide, by decide, rfl⟩, rfl⟩, rfl⟩, ?_⟩
    simp (maxSteps := 1000000) -implicitDefEqProofs only [go_sem, awp_seq, Nat.reduceBNe, Nat.reduceBEq, Nat.reduceAdd, Nat.reduceSub, Nat.reduceMul, Nat.reduceLeDiff, Nat.reduceLT, Nat.reduceEqDiff, Nat.reduceBneDiff, Int.reduceLE, Int.reduceLT, Int.reduceToNat, Int.reduceBEq, Int.reduceBNe, Int.reduceAdd, Int.reduceSub, Int.cast_ofNat_Int]
    rfl
  | false =>
    refine ACalls.of ⟨8, [], []⟩ (fn := Tryz.f36) Tryz.func36 rfl rfl rfl (by kernel_rfl) (by kernel_rfl) (Nat.le_of_ble_eq_true rfl) ?_
    simp (maxSteps := 1000000) -implicitDefEqProofs only [c, go_sem, awp_seq, Nat.reduceBNe, Nat.reduceBEq, Nat.reduceAdd, Nat.reduceSub, Nat.reduceMul, Nat.reduceLeDiff, Nat.reduceLT, Nat.reduceEqDiff, Nat.reduceBneDiff, Int.reduceLE, Int.reduceLT, Int.reduceToNat, Int.reduceBEq, Int.reduceBNe, Int.reduceAdd, Int.reduceSub, Int.cast_ofNat_Int]
    rfl
def scoredB (it : ItV) (want : Int) (l : List Int) : Bool := ((scoreV it ⟨7, l, 0, [], false⟩).1 == want) && ((scoreV it ⟨7, l, 0, [], false⟩).2 == 0)
theorem scored_c (it : ItV) (h : IOK it) (want : Int) (l : List Int) (hl : l.length ≤ 2000000) (hi : ∀ z ∈ l, inI z) : AC 37 [itA it, i64 want, ints l] (boo (scoredB it want l)) := by
  have S := score_c it h ⟨7, l, 0, [], false⟩ ⟨hl, hi, by simp, by unfold inI; simp⟩
  unfold scoredB
  generalize scoreV it ⟨7, l, 0, [], false⟩ = r at *
  refine ACalls.of ⟨9, [], []⟩ (fn := Tryz.f37) Tryz.func37 rfl rfl rfl (by kernel_rfl) (by kernel_rfl) (Nat.le_of_ble_eq_true rfl) ?_
  simp (maxSteps := 1000000) -implicitDefEqProofs only [go_sem, awp_seq, Nat.reduceBNe, Nat.reduceBEq, Nat.reduceAdd, Nat.reduceSub, Nat.reduceMul, Nat.reduceLeDiff, Nat.reduceLT, Nat.reduceEqDiff, Nat.reduceBneDiff, Int.reduceLE, Int.reduceLT, Int.reduceToNat, Int.reduceBEq, Int.reduceBNe, Int.reduceAdd, Int.reduceSub, Int.cast_ofNat_Int]
  refine callA_mk S ?_
  cases c1 : r.1 == want with
  | true =>
    simp (maxSteps := 1000000) -implicitDefEqProofs only [c1, Bool.true_and, go_sem, awp_seq, Nat.reduceBNe, Nat.reduceBEq, Nat.reduceAdd, Nat.reduceSub, Nat.reduceMul, Nat.reduceLeDiff, Nat.reduceLT, Nat.reduceEqDiff, Nat.reduceBneDiff, Int.reduceLE, Int.reduceLT, Int.reduceToNat, Int.reduceBEq, Int.reduceBNe, Int.reduceAdd, Int.reduceSub, Int.cast_ofNat_Int]
  | false =>
    simp (maxSteps := 1000000) -implicitDefEqProofs only [c1, Bool.false_and, go_sem, awp_seq, Nat.reduceBNe, Nat.reduceBEq, Nat.reduceAdd, Nat.reduceSub, Nat.reduceMul, Nat.reduceLeDiff, Nat.reduceLT, Nat.reduceEqDiff, Nat.reduceBneDiff, Int.reduceLE, Int.reduceLT, Int.reduceToNat, Int.reduceBEq, Int.reduceBNe, Int.reduceAdd, Int.reduceSub, Int.cast_ofNat_Int]
end Go.Proofs.YtkmicjpoekbhfaaGreatDoor

/- Chapter 40: reading choices. INTS -/
set_option linter.unusedSimpArgs false
set_option linter.unusedVariables false
namespace Go.Proofs.YtkmicjpoekbhfaaGreatDoor
open Go.RowKit Go.Shelf Lim

theorem toList_star : (ByteArray.mk #[42]).toList = [42] := toList_bs [42]
def valW (w : List UInt8) : Int := w.foldl (fun n c => n * 10 + ((c.toNat : Int) - 48)) 0
/-- A number without a zero ahead, of at most seven digits. -/
def wordB (w : List UInt8) : Bool := !(w == []) && (!decide ((7 : Int) < (w.length : Nat)) && (!((((w[0]?.getD 0).toNat : Nat) : Int) == 48) && w.all dgB))
def rchV (s : List UInt8) : List Int × Bool := bif s == [42] then ([], true) else bif (spl 44 s).all wordB then ((spl 44 s).map (fun w => valW w - 1), true) else ([], false)
theorem valW_succ (w : List UInt8) (j : Nat) (h : j < w.length) : valW (w.take (j + 1)) = valW (w.take j) * 10 + (((w[j]'h).toNat : Int) - 48) := by
  unfold valW
  rw [List.take_succ_eq_append_getElem h, List.foldl_append]
  rfl
theorem valW_lt : ∀ (j : Nat) (w : List UInt8), j ≤ w.length → (∀ i (hi : i < w.length), i < j → dgB w[i] = true) → 0 ≤ valW (w.take j) ∧ valW (w.take j) < 10 ^ j
  | 0, w, _, _ => by simp [valW]
  | j + 1, w, h, hd => by
    have ih := valW_lt j w (by omega) fun i hi hij => hd i hi (by omega)
    have hc := hd j (by omega) (by omega)
    simp only [dgB, Bool.and_eq_true, decide_eq_true_eq] at hc
    rw [valW_succ w j (by omega), Int.pow_succ]
    omega
theorem valW_small {j : Nat} {w : List UInt8} (h : j ≤ w.length) (hw : w.length ≤ 7) (hd : ∀ i (hi : i < w.length), i < j → dgB w[i] = true) : 0 ≤ valW (w.take j) ∧ valW (w.take j) < 10000000 := by
  have h1 := valW_lt j w h hd
  have h2 : (10 : Int) ^ j ≤ 10 ^ 7 := by
    have : (10 : Nat) ^ j ≤ 10 ^ 7 := Nat.pow_le_pow_right (by decide) (by omega)
    have h3 : ((10 ^ j : Nat) : Int) ≤ ((10 ^ 7 : Nat) : Int) := by exact_mod_cast this
    simpa using h3
  omega
abbrev lEs (L : List (List UInt8)) (k : Nat) : List AV := (L.take k).map (fun w => i64 (valW w - 1))
def lT (k : Nat) : TV := bif k == 0 then .av (.lit (.slice none 0 0)) else .osl 58 1 0 k
def lQ (L : List (List UInt8)) (k : Nat) : LQ := bif k == 0 then [] else [(58, .row 3 1 (lEs L k))]
theorem lEs_succ (L : List (List UInt8)) (k : Nat) (h : k < L.length) : lEs L (k + 1) = lEs L k ++ [i64 (valW (L[k]'h) - 1)] := by
  unfold lEs
  rw [List.take_succ_eq_append_getElem h, List.map_append]
  rfl
theorem count_le44 (s : List UInt8) : s.count 44 ≤ s.length := List.count_le_length
theorem spl_bytes (c : UInt8) : ∀ s : List UInt8, ∀ w ∈ spl c s, w.length ≤ s.length
  | [], w, h => by simp [spl] at h; subst h; simp
  | b :: l, w, h => by
    unfold spl at h
    split at h
    · rcases List.mem_cons.1 h with rfl | h
      · simp
      · have := spl_bytes c l w h; simp; omega
    · cases hh : spl c l with
      | nil => exact absurd hh (spl_ne c l)
      | cons x r =>
        rw [hh] at h
        simp only [conH] at h
        rcases List.mem_cons.1 h with rfl | h
        · have := spl_bytes c l x (by rw [hh]; simp); simp; omega
        · have := spl_bytes c l w (by rw [hh]; simp [h]); simp; omega
theorem stale_lT {x k : Nat} : staleK false x [] (lT k) = some (lT k) := by
  unfold lT; cases k == 0 <;> rfl
theorem slot_same {m M : LM} {q Q : LQ} {v : TV} : slotK m q M Q v v := Or.inl rfl
theorem leM_lQ (L : List (List UInt8)) (k : Nat) : leM (ofL (lQ L k)) (lQ L k) := by
  unfold lQ; cases k == 0
  · exact ⟨rfl, trivial⟩
  · trivial
set_option maxHeartbeats 8000000 in
theorem readChoices_c (s : List UInt8) (hs : s.length ≤ 4000000) : AT 79 [str s] (.tup [ints (rchV s).1, boo (rchV s).2]) := by
  unfold rchV
  cases c0 : s == [42] with
  | true =>
    refine ACalls.of ⟨33, [], []⟩ (fn := Tryz.f79) Tryz.func79 rfl rfl rfl (by kernel_rfl) (by kernel_rfl) (Nat.le_of_ble_eq_true rfl) ?_
    simp (maxSteps := 1000000) -implicitDefEqProofs only [toList_bs, toList_star, c0, go_sem, awp_seq, Nat.reduceBNe, Nat.reduceBEq, Nat.reduceAdd, Nat.reduceSub, Nat.reduceMul, Nat.reduceLeDiff, Nat.reduceLT, Nat.reduceEqDiff, Nat.reduceBneDiff, Int.reduceLE, Int.reduceLT, Int.reduceToNat, Int.reduceBEq, Int.reduceBNe, Int.reduceAdd, Int.reduceSub, Int.cast_ofNat_Int]
    rfl
  | false =>
  have SP := split_c s hs
  have hlen := spl_len 44 s
  have hcn := count_le44 s
  have hwl := spl_bytes 44 s
  have hne := spl_ne 44 s
  simp only [cond_false]
  generalize spl 44 s = L at *
  have bad : ∀ k (hk : k < L.length), wordB L[k] = false → L.all wordB = false := fun k hk hb => by
    rw [List.all_eq_false]; exact ⟨L[k], List.getElem_mem hk, by simp [hb]⟩
  have good : (∀ k (hk : k < L.length), wordB L[k] = true) → L.all wordB = true := fun hh => by
    rw [List.all_eq_true]; intro x hx; obtain ⟨i, hi, rfl⟩ := List.getElem_of_mem hx; exact hh i hi
  generalize L.all wordB = R at *
  refine ACalls.of ⟨33, [], []⟩ (fn := Tryz.f79) Tryz.func79 rfl rfl rfl (by kernel_rfl) (by kernel_rfl) (Nat.le_of_ble_eq_true rfl) ?_
  simp (maxSteps := 1000000) -implicitDefEqProofs only [toList_bs, toList_star, c0, go_sem, awp_seq, Nat.reduceBNe, Nat.reduceBEq, Nat.reduceAdd, Nat.reduceSub, Nat.reduceMul, Nat.reduceLeDiff, Nat.reduceLT, Nat.reduceEqDiff, Nat.reduceBneDiff, Int.reduceLE, Int.reduceLT, Int.reduceToNat, Int.reduceBEq, Int.reduceBNe, Int.reduceAdd, Int.reduceSub, Int.cast_ofNat_Int]
  refine callA_tt SP ?_
  simp (maxSteps := 1000000) -implicitDefEqProofs only [List.length_map, go_sem, awp_seq, Nat.reduceBNe, Nat.reduceBEq, Nat.reduceAdd, Nat.reduceSub, Nat.reduceMul, Nat.reduceLeDiff, Nat.reduceLT, Nat.reduceEqDiff, Nat.reduceBneDiff, Int.reduceLE, Int.reduceLT, Int.reduceToNat, Int.reduceBEq, Int.reduceBNe, Int.reduceAdd, Int.reduceSub, Int.cast_ofNat_Int]
  refine loop_mk (α := {k : Nat // k ≤ L.length ∧ ∀ i (hi : i < L.length), i < k → wordB L[i] = true}) (fun k => [(0, some (.av (str s))), (2, some (.av (.lit (.slice none 0 0)))), (3, some (.av (boo false))), (4, some (lT k.1)), (12, some (.av (strs L))), (13, some (.av (i64 (L.length : Nat)))), (14, some (.av (i64 (k.1 : Nat))))]) (fun _ => []) (fun k => lQ L k.1) (fun k => L.length - k.1) ⟨0, Nat.zero_le _, fun i hi h2 => by omega⟩ ?_ ?_
  · simp (maxSteps := 1000000) -implicitDefEqProofs only [lT, lQ, show ((0 : Nat) == 0) = true from rfl, cond_true, List.length_map, Int.cast_ofNat_Int, go_sem, awp_seq, Nat.reduceBNe, Nat.reduceBEq, Nat.reduceAdd, Nat.reduceSub, Nat.reduceMul, Nat.reduceLeDiff, Nat.reduceLT, Nat.reduceEqDiff, Nat.reduceBneDiff, Int.reduceLE, Int.reduceLT, Int.reduceToNat, Int.reduceBEq, Int.reduceBNe, Int.reduceAdd, Int.reduceSub, Int.cast_ofNat_Int]
  · rintro ⟨k, hk, hall⟩
    by_cases hlt : k < L.length
    · have g1 : decide (((k : Nat) : Int) < (L.length : Nat)) = true := by simp; omega
      have e1 := strs_get L k
      rw [List.getElem?_eq_getElem hlt] at e1
      simp only [Option.map_some] at e1
      have w1 : IntKind.i64.wrap ((k : Int) + 1) = ((k + 1 : Nat) : Int) := by rw [IntWalk.i64_in _ (by omega)]; omega
      have b0 := bad k hlt
      have ok1 : wordB L[k] = true → ∀ i (hi : i < L.length), i < k + 1 → wordB L[i] = true := fun h i hi hik => by
        by_cases he : i = k
        · subst he; exact h
        · exact hall i hi (by omega)
      have eE := lEs_succ L k hlt
      have hwl2 := hwl _ (List.getElem_mem hlt)
      generalize L[k] = W at *
      have fail : wordB W = false → (bif R then (List.map (fun w => valW w - 1) L, true) else ([], false)) = (([] : List Int), false) := fun h => by rw [b0 h]; rfl
      cases cW : W == [] with
      | true =>
        have e := fail (by unfold wordB; rw [cW]; rfl)
        rw [e]
        simp (maxSteps := 1000000) -implicitDefEqProofs only [toList_bs, toList_nil, cW, stale_lT, Option.bind_some, List.length_map, g1, e1, Int.toNat_natCast, Int.natCast_nonneg, go_sem, awp_seq, Nat.reduceBNe, Nat.reduceBEq, Nat.reduceAdd, Nat.reduceSub, Nat.reduceMul, Nat.reduceLeDiff, Nat.reduceLT, Nat.reduceEqDiff, Nat.reduceBneDiff, Int.reduceLE, Int.reduceLT, Int.reduceToNat, Int.reduceBEq, Int.reduceBNe, Int.reduceAdd, Int.reduceSub, Int.cast_ofNat_Int]
        rfl
      | false =>
      cases c7 : decide ((7 : Int) < (W.length : Nat)) with
      | true =>
        have e := fail (by unfold wordB; rw [cW, c7]; rfl)
        rw [e]
        simp (maxSteps := 1000000) -implicitDefEqProofs only [toList_bs, toList_nil, bs_size, cW, c7, stale_lT, Option.bind_some, List.length_map, g1, e1, Int.toNat_natCast, Int.natCast_nonneg, go_sem, awp_seq, Nat.reduceBNe, Nat.reduceBEq, Nat.reduceAdd, Nat.reduceSub, Nat.reduceMul, Nat.reduceLeDiff, Nat.reduceLT, Nat.reduceEqDiff, Nat.reduceBneDiff, Int.reduceLE, Int.reduceLT, Int.reduceToNat, Int.reduceBEq, Int.reduceBNe, Int.reduceAdd, Int.reduceSub, Int.cast_ofNat_Int]
        rfl
      | false =>
      have hWn : W ≠ [] := by simpa using cW
      have hW0 : 0 < W.length := List.length_pos_iff.2 hWn
      have hW7 : W.length ≤ 7 := by simp at c7; omega
      have e0 : W[0]? = some (W[0]'hW0) := List.getElem?_eq_getElem hW0
      have hA : W.all dgB = true → (((W[0]'hW0).toNat : Int) == 48) = false → wordB W = true := fun h1 h2 => by unfold wordB; rw [cW, c7, h1, e0, Option.getD_some, h2]; rfl
      have hA2 : W.all dgB = false → wordB W = false := fun h1 => by unfold wordB; rw [cW, c7, h1]; simp
      cases c48 : ((W[0]'hW0).toNat : Int) == 48 with
      | true =>
        have e := fail (by unfold wordB; rw [cW, c7, e0, Option.getD_some, c48]; rfl)
        rw [e]
        simp (maxSteps := 1000000) -implicitDefEqProofs only [toList_bs, toList_nil, bs_size, strK_bs, e0, c48, cW, c7, stale_lT, Option.bind_some, List.length_map, g1, e1, Int.toNat_natCast, Int.natCast_nonneg, Int.toNat_zero, Int.le_refl, go_sem, awp_seq, Nat.reduceBNe, Nat.reduceBEq, Nat.reduceAdd, Nat.reduceSub, Nat.reduceMul, Nat.reduceLeDiff, Nat.reduceLT, Nat.reduceEqDiff, Nat.reduceBneDiff, Int.reduceLE, Int.reduceLT, Int.reduceToNat, Int.reduceBEq, Int.reduceBNe, Int.reduceAdd, Int.reduceSub, Int.cast_ofNat_Int]
        rfl
      | false =>
      simp (maxSteps := 1000000) -implicitDefEqProofs only [toList_bs, toList_nil, bs_size, strK_bs, e0, c48, cW, c7, stale_lT, Option.bind_some, List.length_map, g1, e1, Int.toNat_natCast, Int.natCast_nonneg, Int.toNat_zero, Int.le_refl, go_sem, awp_seq, Nat.reduceBNe, Nat.reduceBEq, Nat.reduceAdd, Nat.reduceSub, Nat.reduceMul, Nat.reduceLeDiff, Nat.reduceLT, Nat.reduceEqDiff, Nat.reduceBneDiff, Int.reduceLE, Int.reduceLT, Int.reduceToNat, Int.reduceBEq, Int.reduceBNe, Int.reduceAdd, Int.reduceSub, Int.cast_ofNat_Int]
      have bad2 : ∀ j (hj : j < W.length), dgB W[j] = false → W.all dgB = false := fun j hj hb => by
        rw [List.all_eq_false]; exact ⟨W[j], List.getElem_mem hj, by simp [hb]⟩
      refine loop_mk (α := {j : Nat // j ≤ W.length ∧ ∀ i (hi : i < W.length), i < j → dgB W[i] = true}) (fun j => [(0, some (.av (str s))), (2, some (.av (.lit (.slice none 0 0)))), (3, some (.av (boo false))), (4, some (lT k)), (6, some (.av (str W))), (7, some (.av (i64 (valW (W.take j.1))))), (12, some (.av (strs L))), (13, some (.av (i64 (L.length : Nat)))), (14, some (.av (i64 (k : Nat)))), (31, some (.av (i64 (W.length : Nat)))), (32, some (.av (i64 (j.1 : Nat))))]) (fun _ => []) (fun _ => lQ L k) (fun j => W.length - j.1) ⟨0, Nat.zero_le _, fun i hi h2 => by omega⟩ ?_ ?_
      · simp (maxSteps := 1000000) -implicitDefEqProofs only [bs_size, stale_lT, Option.bind_some, List.length_map, Int.cast_ofNat_Int, go_sem, awp_seq, Nat.reduceBNe, Nat.reduceBEq, Nat.reduceAdd, Nat.reduceSub, Nat.reduceMul, Nat.reduceLeDiff, Nat.reduceLT, Nat.reduceEqDiff, Nat.reduceBneDiff, Int.reduceLE, Int.reduceLT, Int.reduceToNat, Int.reduceBEq, Int.reduceBNe, Int.reduceAdd, Int.reduceSub, Int.cast_ofNat_Int]
        exact ⟨slot_same, rfl, leM_lQ L k⟩
      · rintro ⟨j, hj, hallj⟩
        by_cases hjl : j < W.length
        · have g2 : decide (((j : Nat) : Int) < (W.length : Nat)) = true := by simp; omega
          have e3 : W[j]? = some W[j] := List.getElem?_eq_getElem hjl
          have vs := valW_small (j := j) hj hW7 hallj
          have vS := valW_succ W j hjl
          have b2 := bad2 j hjl
          have ok2 : dgB W[j] = true → ∀ i (hi : i < W.length), i < j + 1 → dgB W[i] = true := fun h i hi hij => by
            by_cases he : i = j
            · subst he; exact h
            · exact hallj i hi (by omega)
          have w2 : IntKind.i64.wrap ((j : Int) + 1) = ((j + 1 : Nat) : Int) := by rw [IntWalk.i64_in _ (by omega)]; omega
          generalize W[j] = c at *
          cases d1 : decide ((c.toNat : Int) < 48) with
          | true =>
            have e := fail (hA2 (b2 (by simp [dgB]; simp at d1; omega)))
            rw [e]
            simp (maxSteps := 1000000) -implicitDefEqProofs only [bs_size, strK_bs, stale_lT, Option.bind_some, g2, e3, d1, Int.toNat_natCast, Int.natCast_nonneg, go_sem, awp_seq, Nat.reduceBNe, Nat.reduceBEq, Nat.reduceAdd, Nat.reduceSub, Nat.reduceMul, Nat.reduceLeDiff, Nat.reduceLT, Nat.reduceEqDiff, Nat.reduceBneDiff, Int.reduceLE, Int.reduceLT, Int.reduceToNat, Int.reduceBEq, Int.reduceBNe, Int.reduceAdd, Int.reduceSub, Int.cast_ofNat_Int]
            rfl
          | false =>
          cases d2 : decide ((57 : Int) < c.toNat) with
          | true =>
            have e := fail (hA2 (b2 (by simp [dgB]; simp at d2; omega)))
            rw [e]
            simp (maxSteps := 1000000) -implicitDefEqProofs only [bs_size, strK_bs, stale_lT, Option.bind_some, g2, e3, d1, d2, Int.toNat_natCast, Int.natCast_nonneg, go_sem, awp_seq, Nat.reduceBNe, Nat.reduceBEq, Nat.reduceAdd, Nat.reduceSub, Nat.reduceMul, Nat.reduceLeDiff, Nat.reduceLT, Nat.reduceEqDiff, Nat.reduceBneDiff, Int.reduceLE, Int.reduceLT, Int.reduceToNat, Int.reduceBEq, Int.reduceBNe, Int.reduceAdd, Int.reduceSub, Int.cast_ofNat_Int]
            rfl
          | false =>
          have hdc : 48 ≤ c.toNat ∧ c.toNat ≤ 57 := by simp at d1 d2; omega
          have w3 : IntKind.i64.wrap (valW (W.take j) * 10) = valW (W.take j) * 10 := by rw [IntWalk.i64_in _ (by omega)]
          have w4 : IntKind.u8.wrap ((c.toNat : Int) - 48) = (c.toNat : Int) - 48 := by rw [IntWalk.u8_in _ (by omega)]
          have w5 : IntKind.i64.wrap ((c.toNat : Int) - 48) = (c.toNat : Int) - 48 := by rw [IntWalk.i64_in _ (by omega)]
          have w6 : IntKind.i64.wrap (valW (W.take j) * 10 + ((c.toNat : Int) - 48)) = valW (W.take j) * 10 + ((c.toNat : Int) - 48) := by rw [IntWalk.i64_in _ (by omega)]
          simp (maxSteps := 1000000) -implicitDefEqProofs only [bs_size, strK_bs, stale_lT, Option.bind_some, g2, e3, d1, d2, w2, w3, w4, w5, w6, Int.toNat_natCast, Int.natCast_nonneg, go_sem, awp_seq, Nat.reduceBNe, Nat.reduceBEq, Nat.reduceAdd, Nat.reduceSub, Nat.reduceMul, Nat.reduceLeDiff, Nat.reduceLT, Nat.reduceEqDiff, Nat.reduceBneDiff, Int.reduceLE, Int.reduceLT, Int.reduceToNat, Int.reduceBEq, Int.reduceBNe, Int.reduceAdd, Int.reduceSub, Int.cast_ofNat_Int]
          refine roundK_mk ⟨j + 1, by omega, ok2 (by simp [dgB]; omega)⟩ ?_ (by show W.length - (j + 1) < W.length - j; omega)
          simp (maxSteps := 1000000) -implicitDefEqProofs only [vS, stale_lT, Option.bind_some, go_sem, awp_seq, Nat.reduceBNe, Nat.reduceBEq, Nat.reduceAdd, Nat.reduceSub, Nat.reduceMul, Nat.reduceLeDiff, Nat.reduceLT, Nat.reduceEqDiff, Nat.reduceBneDiff, Int.reduceLE, Int.reduceLT, Int.reduceToNat, Int.reduceBEq, Int.reduceBNe, Int.reduceAdd, Int.reduceSub, Int.cast_ofNat_Int]
          exact ⟨slot_same, leM_lQ L k⟩
        · have g2 : decide (((j : Nat) : Int) < (W.length : Nat)) = false := by simp; omega
          have hj2 : j = W.length := by omega
          subst hj2
          have vs := valW_small (j := W.length) hj hW7 hallj
          have hall2 : W.all dgB = true := by
            rw [List.all_eq_true]; intro x hx; obtain ⟨i, hi, rfl⟩ := List.getElem_of_mem hx; exact hallj i hi hi
          have okk := ok1 (hA hall2 c48)
          rw [List.take_length] at vs
          have w3 : IntKind.i64.wrap (valW W - 1) = valW W - 1 := by rw [IntWalk.i64_in _ (by omega)]
          have w10 : IntKind.i64.wrap 1 = ((1 : Nat) : Int) := by rw [IntWalk.i64_in _ (by omega)]; rfl
          cases k with
          | zero =>
            simp (maxSteps := 1000000) -implicitDefEqProofs only [lT, lQ, show ((0 : Nat) == 0) = true from rfl, cond_true, stale_lT, Option.bind_some, List.take_length, g2, w3, w10, go_sem, awp_seq, Nat.reduceBNe, Nat.reduceBEq, Nat.reduceAdd, Nat.reduceSub, Nat.reduceMul, Nat.reduceLeDiff, Nat.reduceLT, Nat.reduceEqDiff, Nat.reduceBneDiff, Int.reduceLE, Int.reduceLT, Int.reduceToNat, Int.reduceBEq, Int.reduceBNe, Int.reduceAdd, Int.reduceSub, Int.cast_ofNat_Int]
            have eE1 : lEs L 1 = [i64 (valW W - 1)] := eE
            refine roundK_mk ⟨1, by omega, okk⟩ ?_ (by show L.length - 1 < L.length - 0; omega)
            simp (maxSteps := 1000000) -implicitDefEqProofs only [show ((1 : Nat) == 0) = false from rfl, eE1, cond_false, go_sem, awp_seq, Nat.reduceBNe, Nat.reduceBEq, Nat.reduceAdd, Nat.reduceSub, Nat.reduceMul, Nat.reduceLeDiff, Nat.reduceLT, Nat.reduceEqDiff, Nat.reduceBneDiff, Int.reduceLE, Int.reduceLT, Int.reduceToNat, Int.reduceBEq, Int.reduceBNe, Int.reduceAdd, Int.reduceSub, Int.cast_ofNat_Int]
          | succ k =>
            have hk0 : (k + 1 == 0) = false := rfl
            have hle : (lEs L (k + 1)).length = k + 1 := by simp [lEs]; omega
            simp (maxSteps := 1000000) -implicitDefEqProofs only [lT, lQ, hk0, cond_false, stale_lT, Option.bind_some, List.take_length, hle, g2, w3, w1, go_sem, awp_seq, Nat.reduceBNe, Nat.reduceBEq, Nat.reduceAdd, Nat.reduceSub, Nat.reduceMul, Nat.reduceLeDiff, Nat.reduceLT, Nat.reduceEqDiff, Nat.reduceBneDiff, Int.reduceLE, Int.reduceLT, Int.reduceToNat, Int.reduceBEq, Int.reduceBNe, Int.reduceAdd, Int.reduceSub, Int.cast_ofNat_Int]
            refine ⟨by omega, by omega, ?_⟩
            refine roundK_mk ⟨k + 1 + 1, by omega, okk⟩ ?_ (by show L.length - (k + 1 + 1) < L.length - (k + 1); omega)
            simp (maxSteps := 1000000) -implicitDefEqProofs only [show (k + 1 + 1 == 0) = false from rfl, eE, cond_false, go_sem, awp_seq, Nat.reduceBNe, Nat.reduceBEq, Nat.reduceAdd, Nat.reduceSub, Nat.reduceMul, Nat.reduceLeDiff, Nat.reduceLT, Nat.reduceEqDiff, Nat.reduceBneDiff, Int.reduceLE, Int.reduceLT, Int.reduceToNat, Int.reduceBEq, Int.reduceBNe, Int.reduceAdd, Int.reduceSub, Int.cast_ofNat_Int]
    · have g1 : decide (((k : Nat) : Int) < (L.length : Nat)) = false := by simp; omega
      have e := good (fun i hi => hall i hi (by omega))
      have hk2 : k = L.length := by omega
      subst hk2
      have hl0 : (L.length == 0) = false := by simp [hne]
      have eT : L.take L.length = L := List.take_length
      subst e
      simp (maxSteps := 1000000) -implicitDefEqProofs only [lT, lQ, lEs, hl0, cond_false, cond_true, eT, List.length_map, List.map_map, g1, go_sem, awp_seq, Nat.reduceBNe, Nat.reduceBEq, Nat.reduceAdd, Nat.reduceSub, Nat.reduceMul, Nat.reduceLeDiff, Nat.reduceLT, Nat.reduceEqDiff, Nat.reduceBneDiff, Int.reduceLE, Int.reduceLT, Int.reduceToNat, Int.reduceBEq, Int.reduceBNe, Int.reduceAdd, Int.reduceSub, Int.cast_ofNat_Int]
      rw [List.take_of_length_le (by simp)]
      show [AV.sl 1 _, _] = [AV.sl 1 (List.map _ (List.map _ L)), _]
      rw [List.map_map]
      rfl
end Go.Proofs.YtkmicjpoekbhfaaGreatDoor

/- Chapter 40: reading and writing answers. INTS -/
set_option linter.unusedSimpArgs false
set_option linter.unusedVariables false
namespace Go.Proofs.YtkmicjpoekbhfaaGreatDoor
open Go.RowKit Go.Shelf Lim

theorem toList_dash : (ByteArray.mk #[45]).toList = [45] := toList_bs [45]
theorem rch_len (s : List UInt8) : (rchV s).1.length ≤ s.length + 1 := by
  unfold rchV
  have h1 := spl_len 44 s
  have h2 := count_le44 s
  cases s == [42] <;> cases (spl 44 s).all wordB <;> simp <;> omega
theorem rch_in (s : List UInt8) : ∀ z ∈ (rchV s).1, inI z := by
  unfold rchV
  cases s == [42] with
  | true => simp
  | false =>
  cases h : (spl 44 s).all wordB with
  | false => simp
  | true =>
    intro z hz
    simp only [cond_true, cond_false] at hz
    obtain ⟨w, hw, rfl⟩ := List.mem_map.1 hz
    have hb := (List.all_eq_true.1 h) w hw
    simp only [wordB, Bool.and_eq_true] at hb
    have h7 : w.length ≤ 7 := by have := hb.2.1; simp at this; omega
    have hd := hb.2.2.2
    have := valW_small (j := w.length) (Nat.le_refl _) h7 fun i hi _ => (List.all_eq_true.1 hd) _ (List.getElem_mem hi)
    rw [List.take_length] at this
    unfold inI
    omega
/-- What is read of a text for an item that is not of numbers. -/
def readT (it : ItV) (s : List UInt8) : AnsV × Int :=
  bif s == [45] then (⟨it.id, [], 0, [], true⟩, 0) else bif hasChB it.kind then (bif (rchV s).2 then (⟨it.id, (rchV s).1, 0, [], false⟩, 0) else (ans0, 2)) else
    bif Lib.hasPrefix s [58] && kprB (Lib.trimPrefix s [58]) then (⟨it.id, [], 0, Lib.trimPrefix s [58], false⟩, 0) else (ans0, 2)
theorem trim_len (s p : List UInt8) : (Lib.trimPrefix s p).length ≤ s.length := by
  unfold Lib.trimPrefix
  split <;> simp
set_option maxHeartbeats 2000000 in
theorem read_c (it : ItV) (s : List UInt8) (hs : s.length ≤ 1900000) (h4 : (it.kind == 4) = false) : AC 49 [itA it, str s] (.tup [ansA (readT it s).1, i64 (readT it s).2]) := by
  have H := hasChoices_c it.kind
  have RC := readChoices_c s (by omega)
  have CP := cutPfx_c s [58]
  have KP := kprintable_c (Lib.trimPrefix s [58]) (by have := trim_len s [58]; omega)
  unfold readT
  cases c1 : s == [45] with
  | true =>
    refine ACalls.of ⟨15, [], []⟩ (fn := Tryz.f49) Tryz.func49 rfl rfl rfl (by kernel_rfl) (by kernel_rfl) (Nat.le_of_ble_eq_true rfl) ?_
    simp (maxSteps := 1000000) -implicitDefEqProofs only [toList_bs, toList_dash, c1, go_sem, awp_seq, Nat.reduceBNe, Nat.reduceBEq, Nat.reduceAdd, Nat.reduceSub, Nat.reduceMul, Nat.reduceLeDiff, Nat.reduceLT, Nat.reduceEqDiff, Nat.reduceBneDiff, Int.reduceLE, Int.reduceLT, Int.reduceToNat, Int.reduceBEq, Int.reduceBNe, Int.reduceAdd, Int.reduceSub, Int.cast_ofNat_Int]
    rfl
  | false =>
  cases c2 : hasChB it.kind with
  | true =>
    rw [c2] at H
    cases c3 : (rchV s).2 with
    | true =>
      rw [c3] at RC
      generalize (rchV s).1 = L at *
      refine ACalls.of ⟨15, [], []⟩ (fn := Tryz.f49) Tryz.func49 rfl rfl rfl (by kernel_rfl) (by kernel_rfl) (Nat.le_of_ble_eq_true rfl) ?_
      simp (maxSteps := 1000000) -implicitDefEqProofs only [toList_bs, toList_dash, c1, h4, go_sem, awp_seq, Nat.reduceBNe, Nat.reduceBEq, Nat.reduceAdd, Nat.reduceSub, Nat.reduceMul, Nat.reduceLeDiff, Nat.reduceLT, Nat.reduceEqDiff, Nat.reduceBneDiff, Int.reduceLE, Int.reduceLT, Int.reduceToNat, Int.reduceBEq, Int.reduceBNe, Int.reduceAdd, Int.reduceSub, Int.cast_ofNat_Int]
      refine callA_t H ?_
      simp (maxSteps := 1000000) -implicitDefEqProofs only [go_sem, awp_seq, Nat.reduceBNe, Nat.reduceBEq, Nat.reduceAdd, Nat.reduceSub, Nat.reduceMul, Nat.reduceLeDiff, Nat.reduceLT, Nat.reduceEqDiff, Nat.reduceBneDiff, Int.reduceLE, Int.reduceLT, Int.reduceToNat, Int.reduceBEq, Int.reduceBNe, Int.reduceAdd, Int.reduceSub, Int.cast_ofNat_Int]
      refine callA_t RC ?_
      simp (maxSteps := 1000000) -implicitDefEqProofs only [Bool.not_true, go_sem, awp_seq, Nat.reduceBNe, Nat.reduceBEq, Nat.reduceAdd, Nat.reduceSub, Nat.reduceMul, Nat.reduceLeDiff, Nat.reduceLT, Nat.reduceEqDiff, Nat.reduceBneDiff, Int.reduceLE, Int.reduceLT, Int.reduceToNat, Int.reduceBEq, Int.reduceBNe, Int.reduceAdd, Int.reduceSub, Int.cast_ofNat_Int]
      rfl
    | false =>
      rw [c3] at RC
      generalize (rchV s).1 = L at *
      refine ACalls.of ⟨15, [], []⟩ (fn := Tryz.f49) Tryz.func49 rfl rfl rfl (by kernel_rfl) (by kernel_rfl) (Nat.le_of_ble_eq_true rfl) ?_
      simp (maxSteps := 1000000) -implicitDefEqProofs only [toList_bs, toList_dash, c1, h4, go_sem, awp_seq, Nat.reduceBNe, Nat.reduceBEq, Nat.reduceAdd, Nat.reduceSub, Nat.reduceMul, Nat.reduceLeDiff, Nat.reduceLT, Nat.reduceEqDiff, Nat.reduceBneDiff, Int.reduceLE, Int.reduceLT, Int.reduceToNat, Int.reduceBEq, Int.reduceBNe, Int.reduceAdd, Int.reduceSub, Int.cast_ofNat_Int]
      refine callA_t H ?_
      simp (maxSteps := 1000000) -implicitDefEqProofs only [go_sem, awp_seq, Nat.reduceBNe, Nat.reduceBEq, Nat.reduceAdd, Nat.reduceSub, Nat.reduceMul, Nat.reduceLeDiff, Nat.reduceLT, Nat.reduceEqDiff, Nat.reduceBneDiff, Int.reduceLE, Int.reduceLT, Int.reduceToNat, Int.reduceBEq, Int.reduceBNe, Int.reduceAdd, Int.reduceSub, Int.cast_ofNat_Int]
      refine callA_t RC ?_
      simp (maxSteps := 1000000) -implicitDefEqProofs only [Bool.not_false, go_sem, awp_seq, Nat.reduceBNe, Nat.reduceBEq, Nat.reduceAdd, Nat.reduceSub, Nat.reduceMul, Nat.reduceLeDiff, Nat.reduceLT, Nat.reduceEqDiff, Nat.reduceBneDiff, Int.reduceLE, Int.reduceLT, Int.reduceToNat, Int.reduceBEq, Int.reduceBNe, Int.reduceAdd, Int.reduceSub, Int.cast_ofNat_Int]
      rfl
  | false =>
    rw [c2] at H
    cases c3 : Lib.hasPrefix s [58] with
    | false =>
      rw [c3] at CP
      generalize Lib.trimPrefix s [58] = x at *
      refine ACalls.of ⟨15, [], []⟩ (fn := Tryz.f49) Tryz.func49 rfl rfl rfl (by kernel_rfl) (by kernel_rfl) (Nat.le_of_ble_eq_true rfl) ?_
      simp (maxSteps := 1000000) -implicitDefEqProofs only [toList_bs, toList_dash, c1, h4, go_sem, awp_seq, Nat.reduceBNe, Nat.reduceBEq, Nat.reduceAdd, Nat.reduceSub, Nat.reduceMul, Nat.reduceLeDiff, Nat.reduceLT, Nat.reduceEqDiff, Nat.reduceBneDiff, Int.reduceLE, Int.reduceLT, Int.reduceToNat, Int.reduceBEq, Int.reduceBNe, Int.reduceAdd, Int.reduceSub, Int.cast_ofNat_Int]
      refine callA_t H ?_
      simp (maxSteps := 1000000) -implicitDefEqProofs only [h4, go_sem, awp_seq, Nat.reduceBNe, Nat.reduceBEq, Nat.reduceAdd, Nat.reduceSub, Nat.reduceMul, Nat.reduceLeDiff, Nat.reduceLT, Nat.reduceEqDiff, Nat.reduceBneDiff, Int.reduceLE, Int.reduceLT, Int.reduceToNat, Int.reduceBEq, Int.reduceBNe, Int.reduceAdd, Int.reduceSub, Int.cast_ofNat_Int]
      refine callA_t CP ?_
      simp (maxSteps := 1000000) -implicitDefEqProofs only [Bool.not_false, go_sem, awp_seq, Nat.reduceBNe, Nat.reduceBEq, Nat.reduceAdd, Nat.reduceSub, Nat.reduceMul, Nat.reduceLeDiff, Nat.reduceLT, Nat.reduceEqDiff, Nat.reduceBneDiff, Int.reduceLE, Int.reduceLT, Int.reduceToNat, Int.reduceBEq, Int.reduceBNe, Int.reduceAdd, Int.reduceSub, Int.cast_ofNat_Int]
      rfl
    | true =>
      rw [c3] at CP
      generalize Lib.trimPrefix s [58] = x at *
      cases c4 : kprB x with
      | true =>
        rw [c4] at KP
        refine ACalls.of ⟨15, [], []⟩ (fn := Tryz.f49) Tryz.func49 rfl rfl rfl (by kernel_rfl) (by kernel_rfl) (Nat.le_of_ble_eq_true rfl) ?_
        simp (maxSteps := 1000000) -implicitDefEqProofs only [toList_bs, toList_dash, c1, h4, go_sem, awp_seq, Nat.reduceBNe, Nat.reduceBEq, Nat.reduceAdd, Nat.reduceSub, Nat.reduceMul, Nat.reduceLeDiff, Nat.reduceLT, Nat.reduceEqDiff, Nat.reduceBneDiff, Int.reduceLE, Int.reduceLT, Int.reduceToNat, Int.reduceBEq, Int.reduceBNe, Int.reduceAdd, Int.reduceSub, Int.cast_ofNat_Int]
        refine callA_t H ?_
        simp (maxSteps := 1000000) -implicitDefEqProofs only [h4, go_sem, awp_seq, Nat.reduceBNe, Nat.reduceBEq, Nat.reduceAdd, Nat.reduceSub, Nat.reduceMul, Nat.reduceLeDiff, Nat.reduceLT, Nat.reduceEqDiff, Nat.reduceBneDiff, Int.reduceLE, Int.reduceLT, Int.reduceToNat, Int.reduceBEq, Int.reduceBNe, Int.reduceAdd, Int.reduceSub, Int.cast_ofNat_Int]
        refine callA_t CP ?_
        simp (maxSteps := 1000000) -implicitDefEqProofs only [Bool.not_true, go_sem, awp_seq, Nat.reduceBNe, Nat.reduceBEq, Nat.reduceAdd, Nat.reduceSub, Nat.reduceMul, Nat.reduceLeDiff, Nat.reduceLT, Nat.reduceEqDiff, Nat.reduceBneDiff, Int.reduceLE, Int.reduceLT, Int.reduceToNat, Int.reduceBEq, Int.reduceBNe, Int.reduceAdd, Int.reduceSub, Int.cast_ofNat_Int]
        refine callA_t KP ?_
        simp (maxSteps := 1000000) -implicitDefEqProofs only [Bool.not_true, go_sem, awp_seq, Nat.reduceBNe, Nat.reduceBEq, Nat.reduceAdd, Nat.reduceSub, Nat.reduceMul, Nat.reduceLeDiff, Nat.reduceLT, Nat.reduceEqDiff, Nat.reduceBneDiff, Int.reduceLE, Int.reduceLT, Int.reduceToNat, Int.reduceBEq, Int.reduceBNe, Int.reduceAdd, Int.reduceSub, Int.cast_ofNat_Int]
        rfl
      | false =>
        rw [c4] at KP
        refine ACalls.of ⟨15, [], []⟩ (fn := Tryz.f49) Tryz.func49 rfl rfl rfl (by kernel_rfl) (by kernel_rfl) (Nat.le_of_ble_eq_true rfl) ?_
        simp (maxSteps := 1000000) -implicitDefEqProofs only [toList_bs, toList_dash, c1, h4, go_sem, awp_seq, Nat.reduceBNe, Nat.reduceBEq, Nat.reduceAdd, Nat.reduceSub, Nat.reduceMul, Nat.reduceLeDiff, Nat.reduceLT, Nat.reduceEqDiff, Nat.reduceBneDiff, Int.reduceLE, Int.reduceLT, Int.reduceToNat, Int.reduceBEq, Int.reduceBNe, Int.reduceAdd, Int.reduceSub, Int.cast_ofNat_Int]
        refine callA_t H ?_
        simp (maxSteps := 1000000) -implicitDefEqProofs only [h4, go_sem, awp_seq, Nat.reduceBNe, Nat.reduceBEq, Nat.reduceAdd, Nat.reduceSub, Nat.reduceMul, Nat.reduceLeDiff, Nat.reduceLT, Nat.reduceEqDiff, Nat.reduceBneDiff, Int.reduceLE, Int.reduceLT, Int.reduceToNat, Int.reduceBEq, Int.reduceBNe, Int.reduceAdd, Int.reduceSub, Int.cast_ofNat_Int]
        refine callA_t CP ?_
        simp (maxSteps := 1000000) -implicitDefEqProofs only [Bool.not_true, go_sem, awp_seq, Nat.reduceBNe, Nat.reduceBEq, Nat.reduceAdd, Nat.reduceSub, Nat.reduceMul, Nat.reduceLeDiff, Nat.reduceLT, Nat.reduceEqDiff, Nat.reduceBneDiff, Int.reduceLE, Int.reduceLT, Int.reduceToNat, Int.reduceBEq, Int.reduceBNe, Int.reduceAdd, Int.reduceSub, Int.cast_ofNat_Int]
        refine callA_t KP ?_
        simp (maxSteps := 1000000) -implicitDefEqProofs only [Bool.not_false, go_sem, awp_seq, Nat.reduceBNe, Nat.reduceBEq, Nat.reduceAdd, Nat.reduceSub, Nat.reduceMul, Nat.reduceLeDiff, Nat.reduceLT, Nat.reduceEqDiff, Nat.reduceBneDiff, Int.reduceLE, Int.reduceLT, Int.reduceToNat, Int.reduceBEq, Int.reduceBNe, Int.reduceAdd, Int.reduceSub, Int.cast_ofNat_Int]
        rfl
theorem read_ok (it : ItV) (s : List UInt8) (hs : s.length ≤ 1900000) : ANOK (readT it s).1 := by
  have h0 : ANOK ans0 := ⟨by simp, by simp, by simp, by unfold inI; simp⟩
  have ht := trim_len s [58]
  have hr := rch_len s
  unfold readT
  cases s == [45] with
  | true => exact ⟨by simp, by simp, by simp, by unfold inI; simp⟩
  | false =>
  cases hasChB it.kind with
  | true =>
    cases (rchV s).2 with
    | true => exact ⟨by simp; omega, rch_in s, by simp, by unfold inI; simp⟩
    | false => exact h0
  | false =>
    cases Lib.hasPrefix s [58] && kprB (Lib.trimPrefix s [58]) with
    | true => exact ⟨by simp, by simp, by simp; omega, by unfold inI; simp⟩
    | false => exact h0
/-- What is parsed. -/
def parseV (it : ItV) (r : AnsV × Int) : AnsV × Int :=
  bif itemE it != 0 then (ans0, itemE it) else bif r.2 != 0 then (ans0, r.2) else bif validE it r.1 != 0 then (ans0, validE it r.1) else (r.1, 0)
set_option maxHeartbeats 2000000 in
theorem parse_of (it : ItV) (h : IOK it) (s : List UInt8) (r : AnsV × Int) (hr : ANOK r.1) (RD : AC 49 [itA it, str s] (.tup [ansA r.1, i64 r.2])) : AC 18 [itA it, str s] (.tup [ansA (parseV it r).1, i64 (parseV it r).2]) := by
  have I := itemValid_c it h
  have V := keyingValid_c it h r.1 hr
  unfold parseV
  cases c0 : itemE it != 0 with
  | true =>
    generalize itemE it = e at *
    refine ACalls.of ⟨10, [], []⟩ (fn := Tryz.f18) Tryz.func18 rfl rfl rfl (by kernel_rfl) (by kernel_rfl) (Nat.le_of_ble_eq_true rfl) ?_
    simp (maxSteps := 1000000) -implicitDefEqProofs only [go_sem, awp_seq, Nat.reduceBNe, Nat.reduceBEq, Nat.reduceAdd, Nat.reduceSub, Nat.reduceMul, Nat.reduceLeDiff, Nat.reduceLT, Nat.reduceEqDiff, Nat.reduceBneDiff, Int.reduceLE, Int.reduceLT, Int.reduceToNat, Int.reduceBEq, Int.reduceBNe, Int.reduceAdd, Int.reduceSub, Int.cast_ofNat_Int]
    refine callA_mk I ?_
    simp (maxSteps := 1000000) -implicitDefEqProofs only [c0, go_sem, awp_seq, Nat.reduceBNe, Nat.reduceBEq, Nat.reduceAdd, Nat.reduceSub, Nat.reduceMul, Nat.reduceLeDiff, Nat.reduceLT, Nat.reduceEqDiff, Nat.reduceBneDiff, Int.reduceLE, Int.reduceLT, Int.reduceToNat, Int.reduceBEq, Int.reduceBNe, Int.reduceAdd, Int.reduceSub, Int.cast_ofNat_Int]
    rfl
  | false =>
  have c0z : itemE it = 0 := by simpa using c0
  have c0' : ((0 : Int) != 0) = false := rfl
  rw [c0z] at I
  cases c1 : r.2 != 0 with
  | true =>
    refine ACalls.of ⟨10, [], []⟩ (fn := Tryz.f18) Tryz.func18 rfl rfl rfl (by kernel_rfl) (by kernel_rfl) (Nat.le_of_ble_eq_true rfl) ?_
    simp (maxSteps := 1000000) -implicitDefEqProofs only [go_sem, awp_seq, Nat.reduceBNe, Nat.reduceBEq, Nat.reduceAdd, Nat.reduceSub, Nat.reduceMul, Nat.reduceLeDiff, Nat.reduceLT, Nat.reduceEqDiff, Nat.reduceBneDiff, Int.reduceLE, Int.reduceLT, Int.reduceToNat, Int.reduceBEq, Int.reduceBNe, Int.reduceAdd, Int.reduceSub, Int.cast_ofNat_Int]
    refine callA_mk I ?_
    simp (maxSteps := 1000000) -implicitDefEqProofs only [c0', go_sem, awp_seq, Nat.reduceBNe, Nat.reduceBEq, Nat.reduceAdd, Nat.reduceSub, Nat.reduceMul, Nat.reduceLeDiff, Nat.reduceLT, Nat.reduceEqDiff, Nat.reduceBneDiff, Int.reduceLE, Int.reduceLT, Int.reduceToNat, Int.reduceBEq, Int.reduceBNe, Int.reduceAdd, Int.reduceSub, Int.cast_ofNat_Int]
    refine callA_mk RD ?_
    simp (maxSteps := 1000000) -implicitDefEqProofs only [c0', c1, go_sem, awp_seq, Nat.reduceBNe, Nat.reduceBEq, Nat.reduceAdd, Nat.reduceSub, Nat.reduceMul, Nat.reduceLeDiff, Nat.reduceLT, Nat.reduceEqDiff, Nat.reduceBneDiff, Int.reduceLE, Int.reduceLT, Int.reduceToNat, Int.reduceBEq, Int.reduceBNe, Int.reduceAdd, Int.reduceSub, Int.cast_ofNat_Int]
    rfl
  | false =>
  cases c2 : validE it r.1 != 0 with
  | true =>
    generalize validE it r.1 = e at *
    refine ACalls.of ⟨10, [], []⟩ (fn := Tryz.f18) Tryz.func18 rfl rfl rfl (by kernel_rfl) (by kernel_rfl) (Nat.le_of_ble_eq_true rfl) ?_
    simp (maxSteps := 1000000) -implicitDefEqProofs only [go_sem, awp_seq, Nat.reduceBNe, Nat.reduceBEq, Nat.reduceAdd, Nat.reduceSub, Nat.reduceMul, Nat.reduceLeDiff, Nat.reduceLT, Nat.reduceEqDiff, Nat.reduceBneDiff, Int.reduceLE, Int.reduceLT, Int.reduceToNat, Int.reduceBEq, Int.reduceBNe, Int.reduceAdd, Int.reduceSub, Int.cast_ofNat_Int]
    refine callA_mk I ?_
    simp (maxSteps := 1000000) -implicitDefEqProofs only [c0', go_sem, awp_seq, Nat.reduceBNe, Nat.reduceBEq, Nat.reduceAdd, Nat.reduceSub, Nat.reduceMul, Nat.reduceLeDiff, Nat.reduceLT, Nat.reduceEqDiff, Nat.reduceBneDiff, Int.reduceLE, Int.reduceLT, Int.reduceToNat, Int.reduceBEq, Int.reduceBNe, Int.reduceAdd, Int.reduceSub, Int.cast_ofNat_Int]
    refine callA_mk RD ?_
    simp (maxSteps := 1000000) -implicitDefEqProofs only [c0', c1, go_sem, awp_seq, Nat.reduceBNe, Nat.reduceBEq, Nat.reduceAdd, Nat.reduceSub, Nat.reduceMul, Nat.reduceLeDiff, Nat.reduceLT, Nat.reduceEqDiff, Nat.reduceBneDiff, Int.reduceLE, Int.reduceLT, Int.reduceToNat, Int.reduceBEq, Int.reduceBNe, Int.reduceAdd, Int.reduceSub, Int.cast_ofNat_Int]
    refine callA_mk V ?_
    simp (maxSteps := 1000000) -implicitDefEqProofs only [c0', c1, c2, go_sem, awp_seq, Nat.reduceBNe, Nat.reduceBEq, Nat.reduceAdd, Nat.reduceSub, Nat.reduceMul, Nat.reduceLeDiff, Nat.reduceLT, Nat.reduceEqDiff, Nat.reduceBneDiff, Int.reduceLE, Int.reduceLT, Int.reduceToNat, Int.reduceBEq, Int.reduceBNe, Int.reduceAdd, Int.reduceSub, Int.cast_ofNat_Int]
    rfl
  | false =>
    have c2z : validE it r.1 = 0 := by simpa using c2
    rw [c2z] at V
    refine ACalls.of ⟨10, [], []⟩ (fn := Tryz.f18) Tryz.func18 rfl rfl rfl (by kernel_rfl) (by kernel_rfl) (Nat.le_of_ble_eq_true rfl) ?_
    simp (maxSteps := 1000000) -implicitDefEqProofs only [go_sem, awp_seq, Nat.reduceBNe, Nat.reduceBEq, Nat.reduceAdd, Nat.reduceSub, Nat.reduceMul, Nat.reduceLeDiff, Nat.reduceLT, Nat.reduceEqDiff, Nat.reduceBneDiff, Int.reduceLE, Int.reduceLT, Int.reduceToNat, Int.reduceBEq, Int.reduceBNe, Int.reduceAdd, Int.reduceSub, Int.cast_ofNat_Int]
    refine callA_mk I ?_
    simp (maxSteps := 1000000) -implicitDefEqProofs only [c0', go_sem, awp_seq, Nat.reduceBNe, Nat.reduceBEq, Nat.reduceAdd, Nat.reduceSub, Nat.reduceMul, Nat.reduceLeDiff, Nat.reduceLT, Nat.reduceEqDiff, Nat.reduceBneDiff, Int.reduceLE, Int.reduceLT, Int.reduceToNat, Int.reduceBEq, Int.reduceBNe, Int.reduceAdd, Int.reduceSub, Int.cast_ofNat_Int]
    refine callA_mk RD ?_
    simp (maxSteps := 1000000) -implicitDefEqProofs only [c0', c1, go_sem, awp_seq, Nat.reduceBNe, Nat.reduceBEq, Nat.reduceAdd, Nat.reduceSub, Nat.reduceMul, Nat.reduceLeDiff, Nat.reduceLT, Nat.reduceEqDiff, Nat.reduceBneDiff, Int.reduceLE, Int.reduceLT, Int.reduceToNat, Int.reduceBEq, Int.reduceBNe, Int.reduceAdd, Int.reduceSub, Int.cast_ofNat_Int]
    refine callA_mk V ?_
    simp (maxSteps := 1000000) -implicitDefEqProofs only [c0', c1, c2, go_sem, awp_seq, Nat.reduceBNe, Nat.reduceBEq, Nat.reduceAdd, Nat.reduceSub, Nat.reduceMul, Nat.reduceLeDiff, Nat.reduceLT, Nat.reduceEqDiff, Nat.reduceBneDiff, Int.reduceLE, Int.reduceLT, Int.reduceToNat, Int.reduceBEq, Int.reduceBNe, Int.reduceAdd, Int.reduceSub, Int.cast_ofNat_Int]
end Go.Proofs.YtkmicjpoekbhfaaGreatDoor

/- Chapter 40: printing answers. INTS -/
set_option linter.unusedSimpArgs false
set_option linter.unusedVariables false
namespace Go.Proofs.YtkmicjpoekbhfaaGreatDoor
open Go.RowKit Go.Shelf Lim

theorem joinTail_len (p : List UInt8) (m : Nat) : ∀ L : List (List UInt8), (∀ x ∈ L, x.length ≤ m) → (Lib.joinTail p L).length ≤ L.length * (m + p.length)
  | [], _ => by simp [Lib.joinTail]
  | x :: r, h => by
    have h1 := joinTail_len p m r fun y hy => h y (by simp [hy])
    have h2 := h x (by simp)
    have e : Lib.joinTail p (x :: r) = p ++ x ++ Lib.joinTail p r := by simp [Lib.joinTail]
    rw [e, List.length_append, List.length_append, List.length_cons, Nat.succ_mul]
    omega
theorem join_len (p : List UInt8) (m : Nat) (L : List (List UInt8)) (h : ∀ x ∈ L, x.length ≤ m) : (Lib.join L p).length ≤ L.length * (m + p.length) := by
  cases L with
  | nil => simp [Lib.join_nil]
  | cons x r =>
    have h1 := joinTail_len p m r fun y hy => h y (by simp [hy])
    have h2 := h x (by simp)
    rw [Lib.join_cons, List.length_append, List.length_cons, Nat.succ_mul]
    omega
def chW (l : List Int) : List (List UInt8) := l.map fun c => Lib.itoa (c + 1)
def printV (it : ItV) (a : AnsV) : List UInt8 × Int :=
  bif validE it a != 0 then ([], validE it a) else bif !kprB a.text then ([], 2) else bif a.om then ([45], 0) else bif it.kind == 4 then (decTx a.val 3, 0) else
    bif hasTxB it.kind then (58 :: a.text, 0) else bif ((a.ch.length : Nat) : Int) == 0 then ([42], 0) else (Lib.join (chW a.ch) [44], 0)
abbrev pEs (l : List Int) (k : Nat) : List AV := (l.take k).map (fun c => str (Lib.itoa (c + 1)))
theorem pEs_succ (l : List Int) (k : Nat) (h : k < l.length) : pEs l (k + 1) = pEs l k ++ [str (Lib.itoa ((l[k]'h) + 1))] := by
  unfold pEs
  rw [List.take_succ_eq_append_getElem h, List.map_append]
  rfl
def pT (k : Nat) : TV := bif k == 0 then .av (.lit (.slice none 0 0)) else .osl 58 1 0 k
def pQ (l : List Int) (k : Nat) : LQ := bif k == 0 then [] else [(58, .row 9 1 (pEs l k))]
theorem colon_app (s : List UInt8) : (ByteArray.mk #[58]) ++ bs s = bs (58 :: s) := by
  apply ByteArray.ext
  simp [bs]
set_option maxHeartbeats 8000000 in
theorem print_c (it : ItV) (h : IOK it) (a : AnsV) (ha : ANOK a) : AC 17 [itA it, ansA a] (.tup [str (printV it a).1, i64 (printV it a).2]) := by
  have V := keyingValid_c it h a ha
  have KP := kprintable_c a.text (by have := ha.text; omega)
  have TX := hasText_c it.kind
  unfold printV
  cases c0 : validE it a != 0 with
  | true =>
    generalize validE it a = e at *
    refine ACalls.of ⟨50, [], []⟩ (fn := Tryz.f17) Tryz.func17 rfl rfl rfl (by kernel_rfl) (by kernel_rfl) (Nat.le_of_ble_eq_true rfl) ?_
    simp (maxSteps := 1000000) -implicitDefEqProofs only [go_sem, awp_seq, Nat.reduceBNe, Nat.reduceBEq, Nat.reduceAdd, Nat.reduceSub, Nat.reduceMul, Nat.reduceLeDiff, Nat.reduceLT, Nat.reduceEqDiff, Nat.reduceBneDiff, Int.reduceLE, Int.reduceLT, Int.reduceToNat, Int.reduceBEq, Int.reduceBNe, Int.reduceAdd, Int.reduceSub, Int.cast_ofNat_Int]
    refine callA_mk V ?_
    simp (maxSteps := 1000000) -implicitDefEqProofs only [c0, go_sem, awp_seq, Nat.reduceBNe, Nat.reduceBEq, Nat.reduceAdd, Nat.reduceSub, Nat.reduceMul, Nat.reduceLeDiff, Nat.reduceLT, Nat.reduceEqDiff, Nat.reduceBneDiff, Int.reduceLE, Int.reduceLT, Int.reduceToNat, Int.reduceBEq, Int.reduceBNe, Int.reduceAdd, Int.reduceSub, Int.cast_ofNat_Int]
    rfl
  | false =>
  have hv : validE it a = 0 := by simpa using c0
  have A := valid_ok hv
  have IO := item_ok A.item
  have c0' : ((0 : Int) != 0) = false := rfl
  rw [hv] at V
  cases c1 : kprB a.text with
  | false =>
    rw [c1] at KP
    refine ACalls.of ⟨50, [], []⟩ (fn := Tryz.f17) Tryz.func17 rfl rfl rfl (by kernel_rfl) (by kernel_rfl) (Nat.le_of_ble_eq_true rfl) ?_
    simp (maxSteps := 1000000) -implicitDefEqProofs only [go_sem, awp_seq, Nat.reduceBNe, Nat.reduceBEq, Nat.reduceAdd, Nat.reduceSub, Nat.reduceMul, Nat.reduceLeDiff, Nat.reduceLT, Nat.reduceEqDiff, Nat.reduceBneDiff, Int.reduceLE, Int.reduceLT, Int.reduceToNat, Int.reduceBEq, Int.reduceBNe, Int.reduceAdd, Int.reduceSub, Int.cast_ofNat_Int]
    refine callA_mk V ?_
    simp (maxSteps := 1000000) -implicitDefEqProofs only [c0', go_sem, awp_seq, Nat.reduceBNe, Nat.reduceBEq, Nat.reduceAdd, Nat.reduceSub, Nat.reduceMul, Nat.reduceLeDiff, Nat.reduceLT, Nat.reduceEqDiff, Nat.reduceBneDiff, Int.reduceLE, Int.reduceLT, Int.reduceToNat, Int.reduceBEq, Int.reduceBNe, Int.reduceAdd, Int.reduceSub, Int.cast_ofNat_Int]
    refine callA_t KP ?_
    simp (maxSteps := 1000000) -implicitDefEqProofs only [Bool.not_false, go_sem, awp_seq, Nat.reduceBNe, Nat.reduceBEq, Nat.reduceAdd, Nat.reduceSub, Nat.reduceMul, Nat.reduceLeDiff, Nat.reduceLT, Nat.reduceEqDiff, Nat.reduceBneDiff, Int.reduceLE, Int.reduceLT, Int.reduceToNat, Int.reduceBEq, Int.reduceBNe, Int.reduceAdd, Int.reduceSub, Int.cast_ofNat_Int]
    rfl
  | true =>
  rw [c1] at KP
  cases om : a.om with
  | true =>
    refine ACalls.of ⟨50, [], []⟩ (fn := Tryz.f17) Tryz.func17 rfl rfl rfl (by kernel_rfl) (by kernel_rfl) (Nat.le_of_ble_eq_true rfl) ?_
    simp (maxSteps := 1000000) -implicitDefEqProofs only [go_sem, awp_seq, Nat.reduceBNe, Nat.reduceBEq, Nat.reduceAdd, Nat.reduceSub, Nat.reduceMul, Nat.reduceLeDiff, Nat.reduceLT, Nat.reduceEqDiff, Nat.reduceBneDiff, Int.reduceLE, Int.reduceLT, Int.reduceToNat, Int.reduceBEq, Int.reduceBNe, Int.reduceAdd, Int.reduceSub, Int.cast_ofNat_Int]
    refine callA_mk V ?_
    simp (maxSteps := 1000000) -implicitDefEqProofs only [c0', om, go_sem, awp_seq, Nat.reduceBNe, Nat.reduceBEq, Nat.reduceAdd, Nat.reduceSub, Nat.reduceMul, Nat.reduceLeDiff, Nat.reduceLT, Nat.reduceEqDiff, Nat.reduceBneDiff, Int.reduceLE, Int.reduceLT, Int.reduceToNat, Int.reduceBEq, Int.reduceBNe, Int.reduceAdd, Int.reduceSub, Int.cast_ofNat_Int]
    refine callA_t KP ?_
    simp (maxSteps := 1000000) -implicitDefEqProofs only [Bool.not_true, om, go_sem, awp_seq, Nat.reduceBNe, Nat.reduceBEq, Nat.reduceAdd, Nat.reduceSub, Nat.reduceMul, Nat.reduceLeDiff, Nat.reduceLT, Nat.reduceEqDiff, Nat.reduceBneDiff, Int.reduceLE, Int.reduceLT, Int.reduceToNat, Int.reduceBEq, Int.reduceBNe, Int.reduceAdd, Int.reduceSub, Int.cast_ofNat_Int]
    rfl
  | false =>
  cases c4 : it.kind == 4 with
  | true =>
    have hk : it.kind = 4 := by simpa using c4
    have O := iof_c a.val ha.val.1 ha.val.2
    have D := dprint_c (isI a.val (by
      have hv := ha.val
      unfold inI at hv
      have : nlen a.val.natAbs ≤ 2 := nlen_le (by have h1 : pw 2 = 18446744073709551616 := (by decide); omega)
      omega)) 3 (by omega)
    refine ACalls.of ⟨50, [], []⟩ (fn := Tryz.f17) Tryz.func17 rfl rfl rfl (by kernel_rfl) (by kernel_rfl) (Nat.le_of_ble_eq_true rfl) ?_
    simp (maxSteps := 1000000) -implicitDefEqProofs only [go_sem, awp_seq, Nat.reduceBNe, Nat.reduceBEq, Nat.reduceAdd, Nat.reduceSub, Nat.reduceMul, Nat.reduceLeDiff, Nat.reduceLT, Nat.reduceEqDiff, Nat.reduceBneDiff, Int.reduceLE, Int.reduceLT, Int.reduceToNat, Int.reduceBEq, Int.reduceBNe, Int.reduceAdd, Int.reduceSub, Int.cast_ofNat_Int]
    refine callA_mk V ?_
    simp (maxSteps := 1000000) -implicitDefEqProofs only [c0', om, c4, go_sem, awp_seq, Nat.reduceBNe, Nat.reduceBEq, Nat.reduceAdd, Nat.reduceSub, Nat.reduceMul, Nat.reduceLeDiff, Nat.reduceLT, Nat.reduceEqDiff, Nat.reduceBneDiff, Int.reduceLE, Int.reduceLT, Int.reduceToNat, Int.reduceBEq, Int.reduceBNe, Int.reduceAdd, Int.reduceSub, Int.cast_ofNat_Int]
    refine callA_t KP ?_
    simp (maxSteps := 1000000) -implicitDefEqProofs only [Bool.not_true, om, c4, go_sem, awp_seq, Nat.reduceBNe, Nat.reduceBEq, Nat.reduceAdd, Nat.reduceSub, Nat.reduceMul, Nat.reduceLeDiff, Nat.reduceLT, Nat.reduceEqDiff, Nat.reduceBneDiff, Int.reduceLE, Int.reduceLT, Int.reduceToNat, Int.reduceBEq, Int.reduceBNe, Int.reduceAdd, Int.reduceSub, Int.cast_ofNat_Int]
    refine callA_mk O ?_
    simp (maxSteps := 1000000) -implicitDefEqProofs only [go_sem, awp_seq, Nat.reduceBNe, Nat.reduceBEq, Nat.reduceAdd, Nat.reduceSub, Nat.reduceMul, Nat.reduceLeDiff, Nat.reduceLT, Nat.reduceEqDiff, Nat.reduceBneDiff, Int.reduceLE, Int.reduceLT, Int.reduceToNat, Int.reduceBEq, Int.reduceBNe, Int.reduceAdd, Int.reduceSub, Int.cast_ofNat_Int]
    refine callA_mk D ?_
    simp (maxSteps := 1000000) -implicitDefEqProofs only [go_sem, awp_seq, Nat.reduceBNe, Nat.reduceBEq, Nat.reduceAdd, Nat.reduceSub, Nat.reduceMul, Nat.reduceLeDiff, Nat.reduceLT, Nat.reduceEqDiff, Nat.reduceBneDiff, Int.reduceLE, Int.reduceLT, Int.reduceToNat, Int.reduceBEq, Int.reduceBNe, Int.reduceAdd, Int.reduceSub, Int.cast_ofNat_Int]
  | false =>
  cases ct : hasTxB it.kind with
  | true =>
    rw [ct] at TX
    refine ACalls.of ⟨50, [], []⟩ (fn := Tryz.f17) Tryz.func17 rfl rfl rfl (by kernel_rfl) (by kernel_rfl) (Nat.le_of_ble_eq_true rfl) ?_
    simp (maxSteps := 1000000) -implicitDefEqProofs only [go_sem, awp_seq, Nat.reduceBNe, Nat.reduceBEq, Nat.reduceAdd, Nat.reduceSub, Nat.reduceMul, Nat.reduceLeDiff, Nat.reduceLT, Nat.reduceEqDiff, Nat.reduceBneDiff, Int.reduceLE, Int.reduceLT, Int.reduceToNat, Int.reduceBEq, Int.reduceBNe, Int.reduceAdd, Int.reduceSub, Int.cast_ofNat_Int]
    refine callA_mk V ?_
    simp (maxSteps := 1000000) -implicitDefEqProofs only [c0', om, c4, go_sem, awp_seq, Nat.reduceBNe, Nat.reduceBEq, Nat.reduceAdd, Nat.reduceSub, Nat.reduceMul, Nat.reduceLeDiff, Nat.reduceLT, Nat.reduceEqDiff, Nat.reduceBneDiff, Int.reduceLE, Int.reduceLT, Int.reduceToNat, Int.reduceBEq, Int.reduceBNe, Int.reduceAdd, Int.reduceSub, Int.cast_ofNat_Int]
    refine callA_t KP ?_
    simp (maxSteps := 1000000) -implicitDefEqProofs only [Bool.not_true, om, c4, go_sem, awp_seq, Nat.reduceBNe, Nat.reduceBEq, Nat.reduceAdd, Nat.reduceSub, Nat.reduceMul, Nat.reduceLeDiff, Nat.reduceLT, Nat.reduceEqDiff, Nat.reduceBneDiff, Int.reduceLE, Int.reduceLT, Int.reduceToNat, Int.reduceBEq, Int.reduceBNe, Int.reduceAdd, Int.reduceSub, Int.cast_ofNat_Int]
    refine callA_t TX ?_
    simp (maxSteps := 1000000) -implicitDefEqProofs only [colon_app, go_sem, awp_seq, Nat.reduceBNe, Nat.reduceBEq, Nat.reduceAdd, Nat.reduceSub, Nat.reduceMul, Nat.reduceLeDiff, Nat.reduceLT, Nat.reduceEqDiff, Nat.reduceBneDiff, Int.reduceLE, Int.reduceLT, Int.reduceToNat, Int.reduceBEq, Int.reduceBNe, Int.reduceAdd, Int.reduceSub, Int.cast_ofNat_Int]
    have := ha.text
    show ((1 + (bs a.text).size : Nat) : Int) ≤ 9223372036854775807
    rw [bs_size]
    omega
  | false =>
  rw [ct] at TX
  cases cl : ((a.ch.length : Nat) : Int) == 0 with
  | true =>
    refine ACalls.of ⟨50, [], []⟩ (fn := Tryz.f17) Tryz.func17 rfl rfl rfl (by kernel_rfl) (by kernel_rfl) (Nat.le_of_ble_eq_true rfl) ?_
    simp (maxSteps := 1000000) -implicitDefEqProofs only [go_sem, awp_seq, Nat.reduceBNe, Nat.reduceBEq, Nat.reduceAdd, Nat.reduceSub, Nat.reduceMul, Nat.reduceLeDiff, Nat.reduceLT, Nat.reduceEqDiff, Nat.reduceBneDiff, Int.reduceLE, Int.reduceLT, Int.reduceToNat, Int.reduceBEq, Int.reduceBNe, Int.reduceAdd, Int.reduceSub, Int.cast_ofNat_Int]
    refine callA_mk V ?_
    simp (maxSteps := 1000000) -implicitDefEqProofs only [c0', om, c4, go_sem, awp_seq, Nat.reduceBNe, Nat.reduceBEq, Nat.reduceAdd, Nat.reduceSub, Nat.reduceMul, Nat.reduceLeDiff, Nat.reduceLT, Nat.reduceEqDiff, Nat.reduceBneDiff, Int.reduceLE, Int.reduceLT, Int.reduceToNat, Int.reduceBEq, Int.reduceBNe, Int.reduceAdd, Int.reduceSub, Int.cast_ofNat_Int]
    refine callA_t KP ?_
    simp (maxSteps := 1000000) -implicitDefEqProofs only [Bool.not_true, om, c4, go_sem, awp_seq, Nat.reduceBNe, Nat.reduceBEq, Nat.reduceAdd, Nat.reduceSub, Nat.reduceMul, Nat.reduceLeDiff, Nat.reduceLT, Nat.reduceEqDiff, Nat.reduceBneDiff, Int.reduceLE, Int.reduceLT, Int.reduceToNat, Int.reduceBEq, Int.reduceBNe, Int.reduceAdd, Int.reduceSub, Int.cast_ofNat_Int]
    refine callA_t TX ?_
    simp (maxSteps := 1000000) -implicitDefEqProofs only [List.length_map, cl, go_sem, awp_seq, Nat.reduceBNe, Nat.reduceBEq, Nat.reduceAdd, Nat.reduceSub, Nat.reduceMul, Nat.reduceLeDiff, Nat.reduceLT, Nat.reduceEqDiff, Nat.reduceBneDiff, Int.reduceLE, Int.reduceLT, Int.reduceToNat, Int.reduceBEq, Int.reduceBNe, Int.reduceAdd, Int.reduceSub, Int.cast_ofNat_Int]
    rfl
  | false =>
    have hc := ha.ch
    have kk : it.kind = 1 ∨ it.kind = 2 ∨ it.kind = 3 := by
      have := IO.kinds
      unfold hasTxB at ct
      simp at ct c4
      omega
    have hr := (ch_ok (A.rest om kk)).1
    have on := h.opts
    have rng : ∀ x ∈ a.ch, 0 ≤ x ∧ x < 2000000 := fun x hx => by
      have := List.all_eq_true.1 hr x hx
      unfold inRB at this
      simp at this
      omega
    have hi : ∀ x ∈ chW a.ch, x.length ≤ 21 := fun x hx => by
      obtain ⟨c, hcc, rfl⟩ := List.mem_map.1 hx
      have := rng c hcc
      exact Lib.itoa_length_le _ (by omega) (by omega)
    have hjl := join_len [44] 21 (chW a.ch) hi
    have hcl : (chW a.ch).length = a.ch.length := by simp [chW]
    simp only [List.length_cons, List.length_nil, Nat.reduceAdd] at hjl
    have hne : a.ch ≠ [] := by intro e; rw [e] at cl; cases cl
    have J := join_c (chW a.ch) [44] (by intro e; rw [e] at hcl; exact hne (List.length_eq_zero_iff.1 hcl.symm)) (by omega) (by omega)
    generalize hl : a.ch = l at *
    refine ACalls.of ⟨50, [], []⟩ (fn := Tryz.f17) Tryz.func17 rfl rfl rfl (by kernel_rfl) (by kernel_rfl) (Nat.le_of_ble_eq_true rfl) ?_
    simp (maxSteps := 1000000) -implicitDefEqProofs only [go_sem, awp_seq, Nat.reduceBNe, Nat.reduceBEq, Nat.reduceAdd, Nat.reduceSub, Nat.reduceMul, Nat.reduceLeDiff, Nat.reduceLT, Nat.reduceEqDiff, Nat.reduceBneDiff, Int.reduceLE, Int.reduceLT, Int.reduceToNat, Int.reduceBEq, Int.reduceBNe, Int.reduceAdd, Int.reduceSub, Int.cast_ofNat_Int]
    refine callA_mk V ?_
    simp (maxSteps := 1000000) -implicitDefEqProofs only [c0', hl, om, c4, go_sem, awp_seq, Nat.reduceBNe, Nat.reduceBEq, Nat.reduceAdd, Nat.reduceSub, Nat.reduceMul, Nat.reduceLeDiff, Nat.reduceLT, Nat.reduceEqDiff, Nat.reduceBneDiff, Int.reduceLE, Int.reduceLT, Int.reduceToNat, Int.reduceBEq, Int.reduceBNe, Int.reduceAdd, Int.reduceSub, Int.cast_ofNat_Int]
    refine callA_t KP ?_
    simp (maxSteps := 1000000) -implicitDefEqProofs only [Bool.not_true, hl, om, c4, go_sem, awp_seq, Nat.reduceBNe, Nat.reduceBEq, Nat.reduceAdd, Nat.reduceSub, Nat.reduceMul, Nat.reduceLeDiff, Nat.reduceLT, Nat.reduceEqDiff, Nat.reduceBneDiff, Int.reduceLE, Int.reduceLT, Int.reduceToNat, Int.reduceBEq, Int.reduceBNe, Int.reduceAdd, Int.reduceSub, Int.cast_ofNat_Int]
    refine callA_t TX ?_
    simp (maxSteps := 1000000) -implicitDefEqProofs only [List.length_map, hl, cl, go_sem, awp_seq, Nat.reduceBNe, Nat.reduceBEq, Nat.reduceAdd, Nat.reduceSub, Nat.reduceMul, Nat.reduceLeDiff, Nat.reduceLT, Nat.reduceEqDiff, Nat.reduceBneDiff, Int.reduceLE, Int.reduceLT, Int.reduceToNat, Int.reduceBEq, Int.reduceBNe, Int.reduceAdd, Int.reduceSub, Int.cast_ofNat_Int]
    refine loop_mk (α := {k : Nat // k ≤ l.length}) (fun k => [(0, some (.av (itA it))), (1, some (.av (ansA a))), (2, some (.ref 2 0)), (3, some (.ref 3 0)), (7, some (pT k.1)), (47, some (.av (ints l))), (48, some (.av (i64 (l.length : Nat)))), (49, some (.av (i64 (k.1 : Nat))))]) (fun _ => [(2, itC it), (3, ansC a)]) (fun k => pQ l k.1) (fun k => l.length - k.1) ⟨0, Nat.zero_le _⟩ ?_ ?_
    · simp (maxSteps := 1000000) -implicitDefEqProofs only [pT, pQ, hl, show ((0 : Nat) == 0) = true from rfl, cond_true, List.length_map, Int.cast_ofNat_Int, go_sem, awp_seq, Nat.reduceBNe, Nat.reduceBEq, Nat.reduceAdd, Nat.reduceSub, Nat.reduceMul, Nat.reduceLeDiff, Nat.reduceLT, Nat.reduceEqDiff, Nat.reduceBneDiff, Int.reduceLE, Int.reduceLT, Int.reduceToNat, Int.reduceBEq, Int.reduceBNe, Int.reduceAdd, Int.reduceSub, Int.cast_ofNat_Int]
    · rintro ⟨k, hk⟩
      by_cases hlt : k < l.length
      · have g1 : decide (((k : Nat) : Int) < (l.length : Nat)) = true := by simp; omega
        have e1 := ints_get l k
        rw [List.getElem?_eq_getElem hlt] at e1
        simp only [Option.map_some] at e1
        have rx := rng l[k] (List.getElem_mem hlt)
        have eE := pEs_succ l k hlt
        have w1 : IntKind.i64.wrap ((k : Int) + 1) = ((k + 1 : Nat) : Int) := by rw [IntWalk.i64_in _ (by omega)]; omega
        have w10 : IntKind.i64.wrap 1 = ((1 : Nat) : Int) := by rw [IntWalk.i64_in _ (by omega)]; rfl
        have w2 : IntKind.i64.wrap (l[k] + 1) = l[k] + 1 := by rw [IntWalk.i64_in _ (by omega)]
        have IT := itoa_c (l[k] + 1) (by unfold inI; omega)
        generalize l[k] = x at *
        cases k with
        | zero =>
          have eE1 : pEs l 1 = [str (Lib.itoa (x + 1))] := eE
          have g10 : decide ((0 : Int) < (l.length : Nat)) = true := by simp; omega
          simp (maxSteps := 1000000) -implicitDefEqProofs only [pT, pQ, show ((0 : Nat) == 0) = true from rfl, cond_true, hl, g10, e1, w2, w10, Int.toNat_zero, Int.le_refl, List.length_map, Int.toNat_natCast, Int.natCast_nonneg, go_sem, awp_seq, Nat.reduceBNe, Nat.reduceBEq, Nat.reduceAdd, Nat.reduceSub, Nat.reduceMul, Nat.reduceLeDiff, Nat.reduceLT, Nat.reduceEqDiff, Nat.reduceBneDiff, Int.reduceLE, Int.reduceLT, Int.reduceToNat, Int.reduceBEq, Int.reduceBNe, Int.reduceAdd, Int.reduceSub, Int.cast_ofNat_Int]
          refine callA_t IT ?_
          simp (maxSteps := 1000000) -implicitDefEqProofs only [pT, pQ, show ((0 : Nat) == 0) = true from rfl, cond_true, hl, g10, e1, w2, w10, Int.toNat_zero, Int.le_refl, List.length_map, Int.toNat_natCast, Int.natCast_nonneg, go_sem, awp_seq, Nat.reduceBNe, Nat.reduceBEq, Nat.reduceAdd, Nat.reduceSub, Nat.reduceMul, Nat.reduceLeDiff, Nat.reduceLT, Nat.reduceEqDiff, Nat.reduceBneDiff, Int.reduceLE, Int.reduceLT, Int.reduceToNat, Int.reduceBEq, Int.reduceBNe, Int.reduceAdd, Int.reduceSub, Int.cast_ofNat_Int]
          refine roundK_mk ⟨1, by omega⟩ ?_ (by show l.length - 1 < l.length - 0; omega)
          simp (maxSteps := 1000000) -implicitDefEqProofs only [show ((1 : Nat) == 0) = false from rfl, eE1, cond_false, hl, go_sem, awp_seq, Nat.reduceBNe, Nat.reduceBEq, Nat.reduceAdd, Nat.reduceSub, Nat.reduceMul, Nat.reduceLeDiff, Nat.reduceLT, Nat.reduceEqDiff, Nat.reduceBneDiff, Int.reduceLE, Int.reduceLT, Int.reduceToNat, Int.reduceBEq, Int.reduceBNe, Int.reduceAdd, Int.reduceSub, Int.cast_ofNat_Int]
        | succ k =>
          have hk0 : (k + 1 == 0) = false := rfl
          have hle : (pEs l (k + 1)).length = k + 1 := by simp [pEs]; omega
          simp (maxSteps := 1000000) -implicitDefEqProofs only [pT, pQ, hk0, cond_false, hle, hl, g1, e1, w1, w2, List.length_map, Int.toNat_natCast, Int.natCast_nonneg, go_sem, awp_seq, Nat.reduceBNe, Nat.reduceBEq, Nat.reduceAdd, Nat.reduceSub, Nat.reduceMul, Nat.reduceLeDiff, Nat.reduceLT, Nat.reduceEqDiff, Nat.reduceBneDiff, Int.reduceLE, Int.reduceLT, Int.reduceToNat, Int.reduceBEq, Int.reduceBNe, Int.reduceAdd, Int.reduceSub, Int.cast_ofNat_Int]
          refine callA_t IT ?_
          simp (maxSteps := 1000000) -implicitDefEqProofs only [pT, pQ, hk0, cond_false, hle, hl, g1, e1, w1, w2, List.length_map, Int.toNat_natCast, Int.natCast_nonneg, go_sem, awp_seq, Nat.reduceBNe, Nat.reduceBEq, Nat.reduceAdd, Nat.reduceSub, Nat.reduceMul, Nat.reduceLeDiff, Nat.reduceLT, Nat.reduceEqDiff, Nat.reduceBneDiff, Int.reduceLE, Int.reduceLT, Int.reduceToNat, Int.reduceBEq, Int.reduceBNe, Int.reduceAdd, Int.reduceSub, Int.cast_ofNat_Int]
          refine ⟨by omega, by omega, ?_⟩
          refine roundK_mk ⟨k + 1 + 1, by omega⟩ ?_ (by show l.length - (k + 1 + 1) < l.length - (k + 1); omega)
          simp (maxSteps := 1000000) -implicitDefEqProofs only [show (k + 1 + 1 == 0) = false from rfl, eE, cond_false, hl, go_sem, awp_seq, Nat.reduceBNe, Nat.reduceBEq, Nat.reduceAdd, Nat.reduceSub, Nat.reduceMul, Nat.reduceLeDiff, Nat.reduceLT, Nat.reduceEqDiff, Nat.reduceBneDiff, Int.reduceLE, Int.reduceLT, Int.reduceToNat, Int.reduceBEq, Int.reduceBNe, Int.reduceAdd, Int.reduceSub, Int.cast_ofNat_Int]
      · have g1 : decide (((k : Nat) : Int) < (l.length : Nat)) = false := by simp; omega
        have hk2 : k = l.length := by omega
        subst hk2
        have hl0 : (l.length == 0) = false := by simp [hne]
        have eP : pEs l l.length = (chW l).map (fun x => str x) := by
          unfold pEs chW
          rw [List.take_length, List.map_map]
          rfl
        simp (maxSteps := 1000000) -implicitDefEqProofs only [pT, pQ, hl0, cond_false, hl, eP, List.length_map, g1, go_sem, awp_seq, Nat.reduceBNe, Nat.reduceBEq, Nat.reduceAdd, Nat.reduceSub, Nat.reduceMul, Nat.reduceLeDiff, Nat.reduceLT, Nat.reduceEqDiff, Nat.reduceBneDiff, Int.reduceLE, Int.reduceLT, Int.reduceToNat, Int.reduceBEq, Int.reduceBNe, Int.reduceAdd, Int.reduceSub, Int.cast_ofNat_Int]
        refine ⟨by omega, ?_⟩
        rw [List.take_of_length_le (by simp [chW])]
        refine callA_flatT J rfl ?_
        simp (maxSteps := 1000000) -implicitDefEqProofs only [go_sem, awp_seq, Nat.reduceBNe, Nat.reduceBEq, Nat.reduceAdd, Nat.reduceSub, Nat.reduceMul, Nat.reduceLeDiff, Nat.reduceLT, Nat.reduceEqDiff, Nat.reduceBneDiff, Int.reduceLE, Int.reduceLT, Int.reduceToNat, Int.reduceBEq, Int.reduceBNe, Int.reduceAdd, Int.reduceSub, Int.cast_ofNat_Int]
end Go.Proofs.YtkmicjpoekbhfaaGreatDoor

/- Chapter 40: nat.Uint, integer.Int64. INTS -/
set_option linter.unusedSimpArgs false
set_option linter.unusedVariables false
namespace Go.Proofs.YtkmicjpoekbhfaaGreatDoor
open Go.RowKit Lim

theorem trim_t (n : Nat) (h : nlen n ≤ 4398046511104) : AT 97 [natN n] (natN n) := by
  refine ⟨by exact ⟨Tryz.f97, Tryz.func97, by kernel_rfl, rfl⟩, fun w Z vs hE hz _ hr => ?_⟩
  obtain ⟨v, rfl, h1⟩ := reps1 hr
  cases h1 with
  | nat q1 q2 q3 =>
    rename_i A c
    refine (trim_any A c (limbs n) w q1 q2 h).mono ?_
    rintro e w' ⟨rfl, rfl⟩
    rw [val_limbs]
    exact ⟨_, rfl, Below.refl _ _, .nat q1 q2 fun b off e j hj => .inl (q3 b off e j hj)⟩
theorem binK_or64 {b : Bool} {z y : Nat} {K : Value → Prop} : binK b .or (.int .u64 (z : Int)) (.int .u64 (y : Int)) K = K (.int .u64 (((z % 18446744073709551616 ||| y % 18446744073709551616) % 18446744073709551616 : Nat) : Int)) := by
  have h : (BitVec.ofInt IntKind.u64.bits (z : Int) ||| BitVec.ofInt IntKind.u64.bits (y : Int)).toNat = z % 18446744073709551616 ||| y % 18446744073709551616 := by
    rw [BitVec.ofInt_natCast, BitVec.ofInt_natCast, BitVec.toNat_or, BitVec.toNat_ofNat, BitVec.toNat_ofNat]
    rfl
  have hw : ∀ x : Nat, IntKind.u64.wrap (x : Int) = ((x % 18446744073709551616 : Nat) : Int) := fun x => by
    simp [IntKind.wrap, IntKind.bits, IntKind.signed]
  rw [binK_or, h, hw]
def fitsU (n : Nat) : Bool := !decide ((2 : Int) < ((limbs n).length : Nat))
def uV (n : Nat) : Nat := bif fitsU n then n else 0
set_option maxHeartbeats 2000000 in
theorem uint_c (n : Nat) (h : nlen n ≤ 4398046511104) : AT 115 [natN n] (.tup [u64 (uV n : Nat), boo (fitsU n)]) := by
  have T := trim_t n h
  unfold uV fitsU
  have hvl := val_limbs n
  have hd : Dig (limbs n) := dig_limbs n
  cases c2 : decide ((2 : Int) < ((limbs n).length : Nat)) with
  | true =>
    refine ACalls.of ⟨15, [], []⟩ (fn := Tryz.f115) Tryz.func115 rfl rfl rfl (by kernel_rfl) (by kernel_rfl) (Nat.le_of_ble_eq_true rfl) ?_
    simp (maxSteps := 1000000) -implicitDefEqProofs only [go_sem, awp_seq, Nat.reduceBNe, Nat.reduceBEq, Nat.reduceAdd, Nat.reduceSub, Nat.reduceMul, Nat.reduceLeDiff, Nat.reduceLT, Nat.reduceEqDiff, Nat.reduceBneDiff, Int.reduceLE, Int.reduceLT, Int.reduceToNat, Int.reduceBEq, Int.reduceBNe, Int.reduceAdd, Int.reduceSub, Int.cast_ofNat_Int]
    refine callA_tt T ?_
    simp (maxSteps := 1000000) -implicitDefEqProofs only [c2, go_sem, awp_seq, Nat.reduceBNe, Nat.reduceBEq, Nat.reduceAdd, Nat.reduceSub, Nat.reduceMul, Nat.reduceLeDiff, Nat.reduceLT, Nat.reduceEqDiff, Nat.reduceBneDiff, Int.reduceLE, Int.reduceLT, Int.reduceToNat, Int.reduceBEq, Int.reduceBNe, Int.reduceAdd, Int.reduceSub, Int.cast_ofNat_Int]
  | false =>
    have hl2 : (limbs n).length ≤ 2 := by simp at c2; omega
    refine ACalls.of ⟨15, [], []⟩ (fn := Tryz.f115) Tryz.func115 rfl rfl rfl (by kernel_rfl) (by kernel_rfl) (Nat.le_of_ble_eq_true rfl) ?_
    simp (maxSteps := 1000000) -implicitDefEqProofs only [go_sem, awp_seq, Nat.reduceBNe, Nat.reduceBEq, Nat.reduceAdd, Nat.reduceSub, Nat.reduceMul, Nat.reduceLeDiff, Nat.reduceLT, Nat.reduceEqDiff, Nat.reduceBneDiff, Int.reduceLE, Int.reduceLT, Int.reduceToNat, Int.reduceBEq, Int.reduceBNe, Int.reduceAdd, Int.reduceSub, Int.cast_ofNat_Int]
    refine callA_tt T ?_
    simp (maxSteps := 1000000) -implicitDefEqProofs only [c2, go_sem, awp_seq, Nat.reduceBNe, Nat.reduceBEq, Nat.reduceAdd, Nat.reduceSub, Nat.reduceMul, Nat.reduceLeDiff, Nat.reduceLT, Nat.reduceEqDiff, Nat.reduceBneDiff, Int.reduceLE, Int.reduceLT, Int.reduceToNat, Int.reduceBEq, Int.reduceBNe, Int.reduceAdd, Int.reduceSub, Int.cast_ofNat_Int]
    refine loop_mk (α := {k : Nat // k ≤ (limbs n).length}) (fun k => [(4, some (.av (u64 (val ((limbs n).take k.1) : Nat)))), (12, some (.av (natN n))), (13, some (.av (i64 ((limbs n).length : Nat)))), (14, some (.av (i64 (k.1 : Nat))))]) (fun _ => []) (fun _ => []) (fun k => (limbs n).length - k.1) ⟨0, Nat.zero_le _⟩ ?_ ?_
    · simp (maxSteps := 1000000) -implicitDefEqProofs only [List.take_zero, Int.cast_ofNat_Int, go_sem, awp_seq, Nat.reduceBNe, Nat.reduceBEq, Nat.reduceAdd, Nat.reduceSub, Nat.reduceMul, Nat.reduceLeDiff, Nat.reduceLT, Nat.reduceEqDiff, Nat.reduceBneDiff, Int.reduceLE, Int.reduceLT, Int.reduceToNat, Int.reduceBEq, Int.reduceBNe, Int.reduceAdd, Int.reduceSub, Int.cast_ofNat_Int]
      rfl
    · rintro ⟨k, hk⟩
      by_cases hlt : k < (limbs n).length
      · have g1 : decide (((k : Nat) : Int) < ((limbs n).length : Nat)) = true := by simp; omega
        have e1 : (limbs n)[k]? = some (limbs n)[k] := List.getElem?_eq_getElem hlt
        have dk : (limbs n)[k] < 4294967296 := hd _ (List.getElem_mem hlt)
        have vt := val_take_succ (limbs n) k hlt
        have vl := val_take_lt hd (Nat.le_of_lt hlt)
        have w1 : IntKind.i64.wrap ((k : Int) + 1) = ((k + 1 : Nat) : Int) := by rw [IntWalk.i64_in _ (by omega)]; omega
        have w2 : IntKind.i64.wrap (32 * ((k : Nat) : Int)) = ((32 * k : Nat) : Int) := by rw [IntWalk.i64_in _ (by omega)]; omega
        have hk1 : k ≤ 1 := by omega
        have vl2 : val ((limbs n).take (k + 1)) < pw (k + 1) := val_take_lt hd hlt
        have p2 : pw (k + 1) ≤ 18446744073709551616 := by
          have h1 := pw_mono (show k + 1 ≤ 2 by omega)
          have h2 : pw 2 = 18446744073709551616 := by decide
          omega
        have wd : IntKind.u64.wrap (((limbs n)[k] : Nat) : Int) = (((limbs n)[k] : Nat) : Int) := by rw [IntWalk.u64_in _ (by omega)]
        have hX : IntKind.u64.wrap (((limbs n)[k] : Nat) * 2 ^ min (32 * k) 64) = ((pw k * (limbs n)[k] : Nat) : Int) := by
          generalize (limbs n)[k] = d at *
          rcases (show k = 0 ∨ k = 1 by omega) with rfl | rfl
          · show IntKind.u64.wrap ((d : Int) * 1) = _
            rw [Int.mul_one, IntWalk.u64_in _ (by omega), pw_zero, Nat.one_mul]
          · show IntKind.u64.wrap ((d : Int) * 4294967296) = _
            rw [IntWalk.u64_in _ (by omega), show pw 1 = 4294967296 by decide]
            omega
        have hor : (val ((limbs n).take k) % 18446744073709551616 ||| (pw k * (limbs n)[k]) % 18446744073709551616) % 18446744073709551616 = val ((limbs n).take (k + 1)) := by
          have hpk : pw k = 2 ^ (32 * k) := by rcases (show k = 0 ∨ k = 1 by omega) with rfl | rfl <;> decide
          rw [vt] at vl2 ⊢
          rw [Nat.mod_eq_of_lt (show val ((limbs n).take k) < 18446744073709551616 by omega), Nat.mod_eq_of_lt (show pw k * (limbs n)[k] < 18446744073709551616 by omega)]
          rw [hpk] at vl vl2 ⊢
          rw [or_nat vl, Nat.mod_eq_of_lt (by rw [← hpk]; rw [← hpk] at vl2; omega)]
        simp (maxSteps := 1000000) -implicitDefEqProofs only [g1, e1, w1, w2, wd, hX, binK_or64, hor, Int.toNat_natCast, Int.natCast_nonneg, go_sem, awp_seq, Nat.reduceBNe, Nat.reduceBEq, Nat.reduceAdd, Nat.reduceSub, Nat.reduceMul, Nat.reduceLeDiff, Nat.reduceLT, Nat.reduceEqDiff, Nat.reduceBneDiff, Int.reduceLE, Int.reduceLT, Int.reduceToNat, Int.reduceBEq, Int.reduceBNe, Int.reduceAdd, Int.reduceSub, Int.cast_ofNat_Int]
        refine roundK_mk ⟨k + 1, by omega⟩ ?_ (by show (limbs n).length - (k + 1) < (limbs n).length - k; omega)
        simp (maxSteps := 1000000) -implicitDefEqProofs only [go_sem, awp_seq, Nat.reduceBNe, Nat.reduceBEq, Nat.reduceAdd, Nat.reduceSub, Nat.reduceMul, Nat.reduceLeDiff, Nat.reduceLT, Nat.reduceEqDiff, Nat.reduceBneDiff, Int.reduceLE, Int.reduceLT, Int.reduceToNat, Int.reduceBEq, Int.reduceBNe, Int.reduceAdd, Int.reduceSub, Int.cast_ofNat_Int]
      · have g1 : decide (((k : Nat) : Int) < ((limbs n).length : Nat)) = false := by simp; omega
        have hk2 : (limbs n).take k = limbs n := List.take_of_length_le (by omega)
        rw [hk2, hvl]
        simp (maxSteps := 1000000) -implicitDefEqProofs only [g1, go_sem, awp_seq, Nat.reduceBNe, Nat.reduceBEq, Nat.reduceAdd, Nat.reduceSub, Nat.reduceMul, Nat.reduceLeDiff, Nat.reduceLT, Nat.reduceEqDiff, Nat.reduceBneDiff, Int.reduceLE, Int.reduceLT, Int.reduceToNat, Int.reduceBEq, Int.reduceBNe, Int.reduceAdd, Int.reduceSub, Int.cast_ofNat_Int]
/-- What a whole number is as an int64, and whether it fits. -/
def i64B (z : Int) : Bool := decide (-9223372036854775808 ≤ z) && decide (z ≤ 9223372036854775807)
def i64V (z : Int) : Int := bif i64B z then z else 0
theorem fitsU_iff (n : Nat) : fitsU n = decide (n < 18446744073709551616) := by
  have h2 : pw 2 = 18446744073709551616 := by decide
  unfold fitsU
  rw [Bool.eq_iff_iff]
  simp only [Bool.not_eq_true', decide_eq_false_iff_not, decide_eq_true_eq]
  constructor
  · intro h
    have h1 : n < pw (nlen n) := lt_nlen n
    have h3 : pw (nlen n) ≤ pw 2 := pw_mono (by unfold nlen; omega)
    omega
  · intro h
    have := nlen_le (n := n) (k := 2) (by omega)
    unfold nlen at this
    omega
theorem neg_wrap {n : Nat} (h1 : 0 < n) (h2 : n ≤ 9223372036854775808) : IntKind.i64.wrap (IntKind.u64.wrap (-(n : Int))) = -(n : Int) := by
  have e1 : IntKind.u64.wrap (-(n : Int)) = 18446744073709551616 - (n : Int) := by
    simp [IntKind.wrap, IntKind.bits, IntKind.signed]
    omega
  rw [e1]
  simp [IntKind.wrap, IntKind.bits, IntKind.signed, Int.bmod]
  omega
set_option maxHeartbeats 2000000 in
theorem int64_c (z : Int) (h : nlen z.natAbs ≤ 4398046511104) : AT 81 [intN z] (.tup [i64 (i64V z), boo (i64B z)]) := by
  have U := uint_c z.natAbs h
  have fi := fitsU_iff z.natAbs
  unfold i64V
  cases cf : fitsU z.natAbs with
  | false =>
    have e : i64B z = false := by
      rw [fi] at cf
      have := of_decide_eq_false cf
      simp only [i64B, Bool.and_eq_false_iff, decide_eq_false_iff_not]
      omega
    rw [e]
    rw [cf] at U
    refine ACalls.of ⟨6, [], []⟩ (fn := Tryz.f81) Tryz.func81 rfl rfl rfl (by kernel_rfl) (by kernel_rfl) (Nat.le_of_ble_eq_true rfl) ?_
    simp (maxSteps := 1000000) -implicitDefEqProofs only [go_sem, awp_seq, Nat.reduceBNe, Nat.reduceBEq, Nat.reduceAdd, Nat.reduceSub, Nat.reduceMul, Nat.reduceLeDiff, Nat.reduceLT, Nat.reduceEqDiff, Nat.reduceBneDiff, Int.reduceLE, Int.reduceLT, Int.reduceToNat, Int.reduceBEq, Int.reduceBNe, Int.reduceAdd, Int.reduceSub, Int.cast_ofNat_Int]
    refine callA_tt U ?_
    simp (maxSteps := 1000000) -implicitDefEqProofs only [Bool.not_false, go_sem, awp_seq, Nat.reduceBNe, Nat.reduceBEq, Nat.reduceAdd, Nat.reduceSub, Nat.reduceMul, Nat.reduceLeDiff, Nat.reduceLT, Nat.reduceEqDiff, Nat.reduceBneDiff, Int.reduceLE, Int.reduceLT, Int.reduceToNat, Int.reduceBEq, Int.reduceBNe, Int.reduceAdd, Int.reduceSub, Int.cast_ofNat_Int]
  | true =>
  have hlt : z.natAbs < 18446744073709551616 := by rw [fi] at cf; exact of_decide_eq_true cf
  have eu : uV z.natAbs = z.natAbs := by unfold uV; rw [cf]; rfl
  rw [cf, eu] at U
  cases hn : decide (z < 0) with
  | true =>
    have hz := of_decide_eq_true hn
    cases hg : decide ((9223372036854775808 : Int) < (z.natAbs : Nat)) with
    | true =>
      have e : i64B z = false := by
        have := of_decide_eq_true hg
        simp only [i64B, Bool.and_eq_false_iff, decide_eq_false_iff_not]
        omega
      rw [e]
      refine ACalls.of ⟨6, [], []⟩ (fn := Tryz.f81) Tryz.func81 rfl rfl rfl (by kernel_rfl) (by kernel_rfl) (Nat.le_of_ble_eq_true rfl) ?_
      simp (maxSteps := 1000000) -implicitDefEqProofs only [go_sem, awp_seq, Nat.reduceBNe, Nat.reduceBEq, Nat.reduceAdd, Nat.reduceSub, Nat.reduceMul, Nat.reduceLeDiff, Nat.reduceLT, Nat.reduceEqDiff, Nat.reduceBneDiff, Int.reduceLE, Int.reduceLT, Int.reduceToNat, Int.reduceBEq, Int.reduceBNe, Int.reduceAdd, Int.reduceSub, Int.cast_ofNat_Int]
      refine callA_tt U ?_
      simp (maxSteps := 1000000) -implicitDefEqProofs only [hn, hg, Bool.not_true, go_sem, awp_seq, Nat.reduceBNe, Nat.reduceBEq, Nat.reduceAdd, Nat.reduceSub, Nat.reduceMul, Nat.reduceLeDiff, Nat.reduceLT, Nat.reduceEqDiff, Nat.reduceBneDiff, Int.reduceLE, Int.reduceLT, Int.reduceToNat, Int.reduceBEq, Int.reduceBNe, Int.reduceAdd, Int.reduceSub, Int.cast_ofNat_Int]
    | false =>
      have hg2 := of_decide_eq_false hg
      have e : i64B z = true := by
        simp only [i64B, Bool.and_eq_true, decide_eq_true_eq]
        omega
      have nw := neg_wrap (n := z.natAbs) (by omega) (by omega)
      have hzz : -((z.natAbs : Nat) : Int) = z := by omega
      rw [hzz] at nw
      rw [e]
      refine ACalls.of ⟨6, [], []⟩ (fn := Tryz.f81) Tryz.func81 rfl rfl rfl (by kernel_rfl) (by kernel_rfl) (Nat.le_of_ble_eq_true rfl) ?_
      simp (maxSteps := 1000000) -implicitDefEqProofs only [go_sem, awp_seq, Nat.reduceBNe, Nat.reduceBEq, Nat.reduceAdd, Nat.reduceSub, Nat.reduceMul, Nat.reduceLeDiff, Nat.reduceLT, Nat.reduceEqDiff, Nat.reduceBneDiff, Int.reduceLE, Int.reduceLT, Int.reduceToNat, Int.reduceBEq, Int.reduceBNe, Int.reduceAdd, Int.reduceSub, Int.cast_ofNat_Int]
      refine callA_tt U ?_
      simp (maxSteps := 1000000) -implicitDefEqProofs only [hn, hg, Int.zero_sub, hzz, nw, Bool.not_true, go_sem, awp_seq, Nat.reduceBNe, Nat.reduceBEq, Nat.reduceAdd, Nat.reduceSub, Nat.reduceMul, Nat.reduceLeDiff, Nat.reduceLT, Nat.reduceEqDiff, Nat.reduceBneDiff, Int.reduceLE, Int.reduceLT, Int.reduceToNat, Int.reduceBEq, Int.reduceBNe, Int.reduceAdd, Int.reduceSub, Int.cast_ofNat_Int]
  | false =>
    have hz := of_decide_eq_false hn
    cases hg : decide ((9223372036854775807 : Int) < (z.natAbs : Nat)) with
    | true =>
      have e : i64B z = false := by
        have := of_decide_eq_true hg
        simp only [i64B, Bool.and_eq_false_iff, decide_eq_false_iff_not]
        omega
      rw [e]
      refine ACalls.of ⟨6, [], []⟩ (fn := Tryz.f81) Tryz.func81 rfl rfl rfl (by kernel_rfl) (by kernel_rfl) (Nat.le_of_ble_eq_true rfl) ?_
      simp (maxSteps := 1000000) -implicitDefEqProofs only [go_sem, awp_seq, Nat.reduceBNe, Nat.reduceBEq, Nat.reduceAdd, Nat.reduceSub, Nat.reduceMul, Nat.reduceLeDiff, Nat.reduceLT, Nat.reduceEqDiff, Nat.reduceBneDiff, Int.reduceLE, Int.reduceLT, Int.reduceToNat, Int.reduceBEq, Int.reduceBNe, Int.reduceAdd, Int.reduceSub, Int.cast_ofNat_Int]
      refine callA_tt U ?_
      simp (maxSteps := 1000000) -implicitDefEqProofs only [hn, hg, Bool.not_true, go_sem, awp_seq, Nat.reduceBNe, Nat.reduceBEq, Nat.reduceAdd, Nat.reduceSub, Nat.reduceMul, Nat.reduceLeDiff, Nat.reduceLT, Nat.reduceEqDiff, Nat.reduceBneDiff, Int.reduceLE, Int.reduceLT, Int.reduceToNat, Int.reduceBEq, Int.reduceBNe, Int.reduceAdd, Int.reduceSub, Int.cast_ofNat_Int]
    | false =>
      have hg2 := of_decide_eq_false hg
      have e : i64B z = true := by
        simp only [i64B, Bool.and_eq_true, decide_eq_true_eq]
        omega
      have nw : IntKind.i64.wrap ((z.natAbs : Nat) : Int) = z := by rw [IntWalk.i64_in _ (by omega)]; omega
      rw [e]
      refine ACalls.of ⟨6, [], []⟩ (fn := Tryz.f81) Tryz.func81 rfl rfl rfl (by kernel_rfl) (by kernel_rfl) (Nat.le_of_ble_eq_true rfl) ?_
      simp (maxSteps := 1000000) -implicitDefEqProofs only [go_sem, awp_seq, Nat.reduceBNe, Nat.reduceBEq, Nat.reduceAdd, Nat.reduceSub, Nat.reduceMul, Nat.reduceLeDiff, Nat.reduceLT, Nat.reduceEqDiff, Nat.reduceBneDiff, Int.reduceLE, Int.reduceLT, Int.reduceToNat, Int.reduceBEq, Int.reduceBNe, Int.reduceAdd, Int.reduceSub, Int.cast_ofNat_Int]
      refine callA_tt U ?_
      simp (maxSteps := 1000000) -implicitDefEqProofs only [hn, hg, nw, Bool.not_true, go_sem, awp_seq, Nat.reduceBNe, Nat.reduceBEq, Nat.reduceAdd, Nat.reduceSub, Nat.reduceMul, Nat.reduceLeDiff, Nat.reduceLT, Nat.reduceEqDiff, Nat.reduceBneDiff, Int.reduceLE, Int.reduceLT, Int.reduceToNat, Int.reduceBEq, Int.reduceBNe, Int.reduceAdd, Int.reduceSub, Int.cast_ofNat_Int]
end Go.Proofs.YtkmicjpoekbhfaaGreatDoor
