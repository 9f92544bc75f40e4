import Derived.Test.YtkmicjpoekbhfaaGreatDoorP2
import Derived.Test.YtkmicjpoekbhfaaGreatDoorRows
import Derived.ProofKit
import Derived.OpenShut
import Derived.ChangeArms
import Derived.ChangeSlices
import Derived.Deep.DeepHandedRow
import Derived.Deep.Slices
import Derived.Below
import Derived.Carry
import Derived.ChangeSame
import Derived.Lay
import Derived.MakeChecks
import Derived.Shelf.Vars
/- Texts merged: WkH WkK WSh WSi WkO WkP. -/
/- Chapter 40: the examples of the chapter. INTS -/
set_option linter.unusedSimpArgs false
set_option linter.unusedVariables false
namespace Go.Proofs.YtkmicjpoekbhfaaGreatDoor
open Go.RowKit Go.Shelf Lim

theorem sort201 : sortI [2, 0, 1] = [0, 1, 2] := by simp [List.mergeSort]
theorem sort210 : sortI [2, 1, 0] = [0, 1, 2] := by simp [List.mergeSort]
theorem ord_item : itemE (sampleV 3 2 [2, 0, 1]) = 0 := by
  have k : keyB (sampleV 3 2 [2, 0, 1]) = true := by
    have e : keyB (sampleV 3 2 [2, 0, 1]) = key3 (sampleV 3 2 [2, 0, 1]) := rfl
    rw [e]
    unfold key3
    rw [show (sampleV 3 2 [2, 0, 1]).key = [2, 0, 1] from rfl, sort201]
    rfl
  unfold itemE
  rw [k]
  rfl
theorem ord_valid (l : List Int) (hs : sortI l = [0, 1, 2]) (hl : l.length = 3) (hr : l.all (inRB 3) = true) : validE (sampleV 3 2 [2, 0, 1]) ⟨7, l, 0, [], false⟩ = 0 := by
  have c : chE 3 3 l = 0 := by
    unfold chE fitB
    rw [hr, hs, hl]
    kernel_rfl
  have b : badB (sampleV 3 2 [2, 0, 1]) ⟨7, l, 0, [], false⟩ = false := by
    unfold badB
    rw [show hasChB (sampleV 3 2 [2, 0, 1]).kind = true by kernel_rfl]
    simp
  unfold validE
  rw [ord_item, b]
  exact c
theorem ord_score (l : List Int) (hs : sortI l = [0, 1, 2]) (hl : l.length = 3) (hr : l.all (inRB 3) = true) : scoreV (sampleV 3 2 [2, 0, 1]) ⟨7, l, 0, [], false⟩ = (orderV (sampleV 3 2 [2, 0, 1]) l, 0) := by
  unfold scoreV
  rw [ord_valid l hs hl hr]
  rfl
theorem sample_ok (k p : Int) (key : List Int) (h1 : key.length ≤ 3) (h2 : ∀ z ∈ key, inI z) (hk : inI k) (hp : inI p) : IOK (sampleV k p key) := by
  unfold sampleV smO
  constructor <;> first | exact h2 | exact hk | exact hp | (simp [inI]; done) | (cases k == 3 <;> simp; done) | (simp; omega)
set_option maxHeartbeats 8000000 in
theorem awake40_c : AC 15 [] (boo true) := by
  have m1 := sample_c 2 3 [0, 1, 3]
  have m2 := sample_c 3 2 [2, 0, 1]
  have m3 := sample_c 1 1 [2]
  have o1 := sample_ok 2 3 [0, 1, 3] (by simp) (by simp [inI]) (by simp [inI]) (by simp [inI])
  have o2 := sample_ok 3 2 [2, 0, 1] (by simp) (by simp [inI]) (by simp [inI]) (by simp [inI])
  have o3 := sample_ok 1 1 [2] (by simp) (by simp [inI]) (by simp [inI]) (by simp [inI])
  have s1 := scored_c _ o1 1 [0, 1, 2] (by simp) (by simp [inI])
  have s2 := scored_c _ o1 3 [0, 1, 3] (by simp) (by simp [inI])
  have s3 := scored_c _ o2 0 [2, 1, 0] (by simp) (by simp [inI])
  have s4 := scored_c _ o2 2 [2, 0, 1] (by simp) (by simp [inI])
  have s5 := scored_c _ o3 1 [2] (by simp) (by simp [inI])
  have s6 := scored_c _ o3 0 [1] (by simp) (by simp [inI])
  rw [show scoredB (sampleV 2 3 [0, 1, 3]) 1 [0, 1, 2] = true by kernel_rfl] at s1
  rw [show scoredB (sampleV 2 3 [0, 1, 3]) 3 [0, 1, 3] = true by kernel_rfl] at s2
  rw [show scoredB (sampleV 3 2 [2, 0, 1]) 0 [2, 1, 0] = true by unfold scoredB; rw [ord_score _ sort210 rfl (by kernel_rfl)]; kernel_rfl] at s3
  rw [show scoredB (sampleV 3 2 [2, 0, 1]) 2 [2, 0, 1] = true by unfold scoredB; rw [ord_score _ sort201 rfl (by kernel_rfl)]; kernel_rfl] at s4
  rw [show scoredB (sampleV 1 1 [2]) 1 [2] = true by kernel_rfl] at s5
  rw [show scoredB (sampleV 1 1 [2]) 0 [1] = true by kernel_rfl] at s6
  have pr := print_c _ o1 ⟨7, [0, 2], 0, [], false⟩ ⟨by simp, by simp [inI], by simp, by simp [inI]⟩
  rw [show printV (sampleV 2 3 [0, 1, 3]) ⟨7, [0, 2], 0, [], false⟩ = ([49, 44, 51], 0) by kernel_rfl] at pr
  have p1 := parse_of _ o1 [49, 44, 51] _ (read_ok _ _ (by simp)) (read_c (sampleV 2 3 [0, 1, 3]) [49, 44, 51] (by simp) rfl)
  rw [show parseV (sampleV 2 3 [0, 1, 3]) (readT (sampleV 2 3 [0, 1, 3]) [49, 44, 51]) = (⟨7, [0, 2], 0, [], false⟩, 0) by kernel_rfl] at p1
  have p2 := parse_of _ o3 [49, 44, 50] _ (read_ok _ _ (by simp)) (read_c (sampleV 1 1 [2]) [49, 44, 50] (by simp) rfl)
  rw [show parseV (sampleV 1 1 [2]) (readT (sampleV 1 1 [2]) [49, 44, 50]) = (ans0, 23) by kernel_rfl] at p2
  have p3 := parse_of _ o3 [48] _ (read_ok _ _ (by simp)) (read_c (sampleV 1 1 [2]) [48] (by simp) rfl)
  rw [show parseV (sampleV 1 1 [2]) (readT (sampleV 1 1 [2]) [48]) = (ans0, 2) by kernel_rfl] at p3
  have r := right_c _ o3
  rw [show rightV (sampleV 1 1 [2]) = ⟨7, [2], 0, [], false⟩ by kernel_rfl, show rightE (sampleV 1 1 [2]) = 0 by kernel_rfl] at r
  have q1 := same_c ⟨7, [0, 2], 0, [], false⟩ ⟨7, [0, 2], 0, [], false⟩ (by simp)
  rw [show sameB ⟨7, [0, 2], 0, [], false⟩ ⟨7, [0, 2], 0, [], false⟩ = true by kernel_rfl] at q1
  have q2 := same_c ⟨7, [2], 0, [], false⟩ ⟨7, [2], 0, [], false⟩ (by simp)
  rw [show sameB ⟨7, [2], 0, [], false⟩ ⟨7, [2], 0, [], false⟩ = true by kernel_rfl] at q2
  have n1 := normal_c [32, 32, 78, 101, 119, 45, 89, 111, 114, 107, 32, 46, 32] (by simp)
  rw [show normV [32, 32, 78, 101, 119, 45, 89, 111, 114, 107, 32, 46, 32] = [110, 101, 119, 121, 111, 114, 107] by kernel_rfl] at n1
  have n2 := normal_c [79, 32, 32, 50] (by simp)
  rw [show normV [79, 32, 32, 50] = [111, 32, 50] by kernel_rfl] at n2
  clear o1 o2 o3
  have t1 : (([49, 44, 51] : List UInt8) == (ByteArray.mk #[49, 44, 51]).toList) = true := by rw [show (ByteArray.mk #[49, 44, 51]).toList = [49, 44, 51] from toList_bs [49, 44, 51]]; rfl
  have t2 : (([110, 101, 119, 121, 111, 114, 107] : List UInt8) == (ByteArray.mk #[110, 101, 119, 121, 111, 114, 107]).toList) = true := by rw [show (ByteArray.mk #[110, 101, 119, 121, 111, 114, 107]).toList = [110, 101, 119, 121, 111, 114, 107] from toList_bs [110, 101, 119, 121, 111, 114, 107]]; rfl
  have t3 : (([111, 32, 50] : List UInt8) == (ByteArray.mk #[111, 32, 50]).toList) = true := by rw [show (ByteArray.mk #[111, 32, 50]).toList = [111, 32, 50] from toList_bs [111, 32, 50]]; rfl
  generalize sampleV 2 3 [0, 1, 3] = A at *
  generalize sampleV 3 2 [2, 0, 1] = B at *
  generalize sampleV 1 1 [2] = C at *
  refine ACalls.of ⟨14, [], []⟩ (fn := Tryz.f15) Tryz.func15 rfl rfl rfl (by kernel_rfl) (by kernel_rfl) (Nat.le_of_ble_eq_true rfl) ?_
  simp (maxSteps := 1000000) -implicitDefEqProofs only [go_sem, awp_seq, Nat.reduceBNe, Nat.reduceBEq, Nat.reduceAdd, Nat.reduceSub, Nat.reduceMul, Nat.reduceLeDiff, Nat.reduceLT, Nat.reduceEqDiff, Nat.reduceBneDiff, Int.reduceLE, Int.reduceLT, Int.reduceToNat, Int.reduceBEq, Int.reduceBNe, Int.reduceAdd, Int.reduceSub, Int.cast_ofNat_Int]
  refine callA_t m1 ?_
  simp (maxSteps := 1000000) -implicitDefEqProofs only [go_sem, awp_seq, Nat.reduceBNe, Nat.reduceBEq, Nat.reduceAdd, Nat.reduceSub, Nat.reduceMul, Nat.reduceLeDiff, Nat.reduceLT, Nat.reduceEqDiff, Nat.reduceBneDiff, Int.reduceLE, Int.reduceLT, Int.reduceToNat, Int.reduceBEq, Int.reduceBNe, Int.reduceAdd, Int.reduceSub, Int.cast_ofNat_Int]
  refine callA_t m2 ?_
  simp (maxSteps := 1000000) -implicitDefEqProofs only [go_sem, awp_seq, Nat.reduceBNe, Nat.reduceBEq, Nat.reduceAdd, Nat.reduceSub, Nat.reduceMul, Nat.reduceLeDiff, Nat.reduceLT, Nat.reduceEqDiff, Nat.reduceBneDiff, Int.reduceLE, Int.reduceLT, Int.reduceToNat, Int.reduceBEq, Int.reduceBNe, Int.reduceAdd, Int.reduceSub, Int.cast_ofNat_Int]
  refine callA_t m3 ?_
  simp (maxSteps := 1000000) -implicitDefEqProofs only [go_sem, awp_seq, Nat.reduceBNe, Nat.reduceBEq, Nat.reduceAdd, Nat.reduceSub, Nat.reduceMul, Nat.reduceLeDiff, Nat.reduceLT, Nat.reduceEqDiff, Nat.reduceBneDiff, Int.reduceLE, Int.reduceLT, Int.reduceToNat, Int.reduceBEq, Int.reduceBNe, Int.reduceAdd, Int.reduceSub, Int.cast_ofNat_Int]
  refine callA_mk s1 ?_
  simp (maxSteps := 1000000) -implicitDefEqProofs only [Bool.not_true, go_sem, awp_seq, Nat.reduceBNe, Nat.reduceBEq, Nat.reduceAdd, Nat.reduceSub, Nat.reduceMul, Nat.reduceLeDiff, Nat.reduceLT, Nat.reduceEqDiff, Nat.reduceBneDiff, Int.reduceLE, Int.reduceLT, Int.reduceToNat, Int.reduceBEq, Int.reduceBNe, Int.reduceAdd, Int.reduceSub, Int.cast_ofNat_Int]
  refine callA_mk s2 ?_
  simp (maxSteps := 1000000) -implicitDefEqProofs only [Bool.not_true, go_sem, awp_seq, Nat.reduceBNe, Nat.reduceBEq, Nat.reduceAdd, Nat.reduceSub, Nat.reduceMul, Nat.reduceLeDiff, Nat.reduceLT, Nat.reduceEqDiff, Nat.reduceBneDiff, Int.reduceLE, Int.reduceLT, Int.reduceToNat, Int.reduceBEq, Int.reduceBNe, Int.reduceAdd, Int.reduceSub, Int.cast_ofNat_Int]
  refine callA_mk s3 ?_
  simp (maxSteps := 1000000) -implicitDefEqProofs only [Bool.not_true, go_sem, awp_seq, Nat.reduceBNe, Nat.reduceBEq, Nat.reduceAdd, Nat.reduceSub, Nat.reduceMul, Nat.reduceLeDiff, Nat.reduceLT, Nat.reduceEqDiff, Nat.reduceBneDiff, Int.reduceLE, Int.reduceLT, Int.reduceToNat, Int.reduceBEq, Int.reduceBNe, Int.reduceAdd, Int.reduceSub, Int.cast_ofNat_Int]
  refine callA_mk s4 ?_
  simp (maxSteps := 1000000) -implicitDefEqProofs only [Bool.not_true, go_sem, awp_seq, Nat.reduceBNe, Nat.reduceBEq, Nat.reduceAdd, Nat.reduceSub, Nat.reduceMul, Nat.reduceLeDiff, Nat.reduceLT, Nat.reduceEqDiff, Nat.reduceBneDiff, Int.reduceLE, Int.reduceLT, Int.reduceToNat, Int.reduceBEq, Int.reduceBNe, Int.reduceAdd, Int.reduceSub, Int.cast_ofNat_Int]
  refine callA_mk s5 ?_
  simp (maxSteps := 1000000) -implicitDefEqProofs only [Bool.not_true, go_sem, awp_seq, Nat.reduceBNe, Nat.reduceBEq, Nat.reduceAdd, Nat.reduceSub, Nat.reduceMul, Nat.reduceLeDiff, Nat.reduceLT, Nat.reduceEqDiff, Nat.reduceBneDiff, Int.reduceLE, Int.reduceLT, Int.reduceToNat, Int.reduceBEq, Int.reduceBNe, Int.reduceAdd, Int.reduceSub, Int.cast_ofNat_Int]
  refine callA_mk s6 ?_
  simp (maxSteps := 1000000) -implicitDefEqProofs only [Bool.not_true, go_sem, awp_seq, Nat.reduceBNe, Nat.reduceBEq, Nat.reduceAdd, Nat.reduceSub, Nat.reduceMul, Nat.reduceLeDiff, Nat.reduceLT, Nat.reduceEqDiff, Nat.reduceBneDiff, Int.reduceLE, Int.reduceLT, Int.reduceToNat, Int.reduceBEq, Int.reduceBNe, Int.reduceAdd, Int.reduceSub, Int.cast_ofNat_Int]
  refine callA_mk pr ?_
  simp (maxSteps := 1000000) -implicitDefEqProofs only [Bool.not_true, go_sem, awp_seq, Nat.reduceBNe, Nat.reduceBEq, Nat.reduceAdd, Nat.reduceSub, Nat.reduceMul, Nat.reduceLeDiff, Nat.reduceLT, Nat.reduceEqDiff, Nat.reduceBneDiff, Int.reduceLE, Int.reduceLT, Int.reduceToNat, Int.reduceBEq, Int.reduceBNe, Int.reduceAdd, Int.reduceSub, Int.cast_ofNat_Int]
  refine callA_mk p1 ?_
  simp (maxSteps := 1000000) -implicitDefEqProofs only [Bool.not_true, go_sem, awp_seq, Nat.reduceBNe, Nat.reduceBEq, Nat.reduceAdd, Nat.reduceSub, Nat.reduceMul, Nat.reduceLeDiff, Nat.reduceLT, Nat.reduceEqDiff, Nat.reduceBneDiff, Int.reduceLE, Int.reduceLT, Int.reduceToNat, Int.reduceBEq, Int.reduceBNe, Int.reduceAdd, Int.reduceSub, Int.cast_ofNat_Int]
  refine callA_mk p2 ?_
  simp (maxSteps := 1000000) -implicitDefEqProofs only [Bool.not_true, go_sem, awp_seq, Nat.reduceBNe, Nat.reduceBEq, Nat.reduceAdd, Nat.reduceSub, Nat.reduceMul, Nat.reduceLeDiff, Nat.reduceLT, Nat.reduceEqDiff, Nat.reduceBneDiff, Int.reduceLE, Int.reduceLT, Int.reduceToNat, Int.reduceBEq, Int.reduceBNe, Int.reduceAdd, Int.reduceSub, Int.cast_ofNat_Int]
  refine callA_mk p3 ?_
  simp (maxSteps := 1000000) -implicitDefEqProofs only [Bool.not_true, go_sem, awp_seq, Nat.reduceBNe, Nat.reduceBEq, Nat.reduceAdd, Nat.reduceSub, Nat.reduceMul, Nat.reduceLeDiff, Nat.reduceLT, Nat.reduceEqDiff, Nat.reduceBneDiff, Int.reduceLE, Int.reduceLT, Int.reduceToNat, Int.reduceBEq, Int.reduceBNe, Int.reduceAdd, Int.reduceSub, Int.cast_ofNat_Int]
  refine callA_mk r ?_
  simp (maxSteps := 1000000) -implicitDefEqProofs only [toList_bs, t1, t2, t3, Bool.not_true, go_sem, awp_seq, Nat.reduceBNe, Nat.reduceBEq, Nat.reduceAdd, Nat.reduceSub, Nat.reduceMul, Nat.reduceLeDiff, Nat.reduceLT, Nat.reduceEqDiff, Nat.reduceBneDiff, Int.reduceLE, Int.reduceLT, Int.reduceToNat, Int.reduceBEq, Int.reduceBNe, Int.reduceAdd, Int.reduceSub, Int.cast_ofNat_Int]
  refine callA_t q1 ?_
  simp (maxSteps := 1000000) -implicitDefEqProofs only [toList_bs, t1, t2, t3, Bool.not_true, go_sem, awp_seq, Nat.reduceBNe, Nat.reduceBEq, Nat.reduceAdd, Nat.reduceSub, Nat.reduceMul, Nat.reduceLeDiff, Nat.reduceLT, Nat.reduceEqDiff, Nat.reduceBneDiff, Int.reduceLE, Int.reduceLT, Int.reduceToNat, Int.reduceBEq, Int.reduceBNe, Int.reduceAdd, Int.reduceSub, Int.cast_ofNat_Int]
  refine callA_t q2 ?_
  simp (maxSteps := 1000000) -implicitDefEqProofs only [toList_bs, t1, t2, t3, Bool.not_true, go_sem, awp_seq, Nat.reduceBNe, Nat.reduceBEq, Nat.reduceAdd, Nat.reduceSub, Nat.reduceMul, Nat.reduceLeDiff, Nat.reduceLT, Nat.reduceEqDiff, Nat.reduceBneDiff, Int.reduceLE, Int.reduceLT, Int.reduceToNat, Int.reduceBEq, Int.reduceBNe, Int.reduceAdd, Int.reduceSub, Int.cast_ofNat_Int]
  refine callA_t n1 ?_
  simp (maxSteps := 1000000) -implicitDefEqProofs only [toList_bs, t1, t2, t3, Bool.not_true, go_sem, awp_seq, Nat.reduceBNe, Nat.reduceBEq, Nat.reduceAdd, Nat.reduceSub, Nat.reduceMul, Nat.reduceLeDiff, Nat.reduceLT, Nat.reduceEqDiff, Nat.reduceBneDiff, Int.reduceLE, Int.reduceLT, Int.reduceToNat, Int.reduceBEq, Int.reduceBNe, Int.reduceAdd, Int.reduceSub, Int.cast_ofNat_Int]
  refine callA_t n2 ?_
  simp (maxSteps := 1000000) -implicitDefEqProofs only [toList_bs, t1, t2, t3, Bool.not_true, go_sem, awp_seq, Nat.reduceBNe, Nat.reduceBEq, Nat.reduceAdd, Nat.reduceSub, Nat.reduceMul, Nat.reduceLeDiff, Nat.reduceLT, Nat.reduceEqDiff, Nat.reduceBneDiff, Int.reduceLE, Int.reduceLT, Int.reduceToNat, Int.reduceBEq, Int.reduceBNe, Int.reduceAdd, Int.reduceSub, Int.cast_ofNat_Int]
end Go.Proofs.YtkmicjpoekbhfaaGreatDoor

/- Chapter 40: the law KeyingBounds, its walk. INTS -/
set_option linter.unusedSimpArgs false
set_option linter.unusedVariables false
namespace Go.Proofs.YtkmicjpoekbhfaaGreatDoor
open Go.RowKit Lim

theorem same00 : sameB ans0 ans0 = true := by rfl
theorem right_ok {it : ItV} (h : IOK it) : ANOK (rightA it) := by
  have h1 := h.key
  have h2 := h.keyi
  have h3 := h.val
  have h4 := h.textl
  unfold rightA
  cases it.kind == 4 with
  | true => exact ⟨by simp, by simp, by simp, h3⟩
  | false =>
  cases it.kind == 5 with
  | true =>
    refine ⟨by simp, by simp, ?_, by unfold inI; simp⟩
    cases hh : it.texts with
    | nil => simp
    | cons x r => simpa using h4 x (by rw [hh]; simp)
  | false => exact ⟨h1, h2, by simp, by unfold inI; simp⟩
set_option maxHeartbeats 8000000 in
theorem bounds_A (it : ItV) (h : IOK it) (a : AnsV) (n e f : Int) (SC : AC 8 [itA it, ansA a] (.tup [i64 n, i64 e])) (VA : AC 12 [itA it, ansA a] (i64 f))
    (q1 : f ≠ 0) (q2 : e = f) (q3 : n = 0) : AC 4 [itA it, ansA a] (boo true) := by
  have I := itemValid_c it h
  have RC := right_c it h
  have AW := awake40_c
  have SM := same_c ans0 ans0 (by simp)
  rw [same00] at SM
  have c00 : ((0 : Int) != 0) = false := rfl
  have c01 : ((0 : Int) == 0) = true := rfl
  have c80 : ((8 : Int) == 0) = false := rfl
  have c81 : ((8 : Int) != 0) = true := rfl
  have ff : (false == false) = true := rfl
  have tt : (true == true) = true := rfl
  have dp : (it.pts == it.pts) = true := by simp
  subst q2 q3
  have d1 : (e != 0) = true := by simpa using q1
  have d2 : (e != e) = false := by simp
  have d3 : (e == 0) = false := by simpa using q1
  cases hr : rightE it != 0 with
  | true =>
    have hv : rightV it = ans0 := by unfold rightV; rw [hr]; rfl
    rw [hv] at RC
    cases ci : itemE it != 0 with
    | true =>
      generalize itemE it = ie at *
      generalize rightE it = re at *
      refine ACalls.of ⟨12, [], []⟩ (fn := Tryz.f4) Tryz.func4 rfl rfl rfl (by kernel_rfl) (by kernel_rfl) (Nat.le_of_ble_eq_true rfl) ?_
      simp (maxSteps := 1000000) -implicitDefEqProofs only [go_sem, awp_seq, Nat.reduceBNe, Nat.reduceBEq, Nat.reduceAdd, Nat.reduceSub, Nat.reduceMul, Nat.reduceLeDiff, Nat.reduceLT, Nat.reduceEqDiff, Nat.reduceBneDiff, Int.reduceLE, Int.reduceLT, Int.reduceToNat, Int.reduceBEq, Int.reduceBNe, Int.reduceAdd, Int.reduceSub, Int.cast_ofNat_Int]
      refine callA_mk SC ?_
      simp (maxSteps := 1000000) -implicitDefEqProofs only [go_sem, awp_seq, Nat.reduceBNe, Nat.reduceBEq, Nat.reduceAdd, Nat.reduceSub, Nat.reduceMul, Nat.reduceLeDiff, Nat.reduceLT, Nat.reduceEqDiff, Nat.reduceBneDiff, Int.reduceLE, Int.reduceLT, Int.reduceToNat, Int.reduceBEq, Int.reduceBNe, Int.reduceAdd, Int.reduceSub, Int.cast_ofNat_Int]
      refine callA_mk VA ?_
      simp (maxSteps := 1000000) -implicitDefEqProofs only [d1, d2, d3, c00, c01, go_sem, awp_seq, Nat.reduceBNe, Nat.reduceBEq, Nat.reduceAdd, Nat.reduceSub, Nat.reduceMul, Nat.reduceLeDiff, Nat.reduceLT, Nat.reduceEqDiff, Nat.reduceBneDiff, Int.reduceLE, Int.reduceLT, Int.reduceToNat, Int.reduceBEq, Int.reduceBNe, Int.reduceAdd, Int.reduceSub, Int.cast_ofNat_Int]
      refine callA_mk RC ?_
      simp (maxSteps := 1000000) -implicitDefEqProofs only [hr, go_sem, awp_seq, Nat.reduceBNe, Nat.reduceBEq, Nat.reduceAdd, Nat.reduceSub, Nat.reduceMul, Nat.reduceLeDiff, Nat.reduceLT, Nat.reduceEqDiff, Nat.reduceBneDiff, Int.reduceLE, Int.reduceLT, Int.reduceToNat, Int.reduceBEq, Int.reduceBNe, Int.reduceAdd, Int.reduceSub, Int.cast_ofNat_Int]
      refine callA_t SM ?_
      simp (maxSteps := 1000000) -implicitDefEqProofs only [go_sem, awp_seq, Nat.reduceBNe, Nat.reduceBEq, Nat.reduceAdd, Nat.reduceSub, Nat.reduceMul, Nat.reduceLeDiff, Nat.reduceLT, Nat.reduceEqDiff, Nat.reduceBneDiff, Int.reduceLE, Int.reduceLT, Int.reduceToNat, Int.reduceBEq, Int.reduceBNe, Int.reduceAdd, Int.reduceSub, Int.cast_ofNat_Int]
      refine callA_mk I ?_
      simp (maxSteps := 1000000) -implicitDefEqProofs only [ci, go_sem, awp_seq, Nat.reduceBNe, Nat.reduceBEq, Nat.reduceAdd, Nat.reduceSub, Nat.reduceMul, Nat.reduceLeDiff, Nat.reduceLT, Nat.reduceEqDiff, Nat.reduceBneDiff, Int.reduceLE, Int.reduceLT, Int.reduceToNat, Int.reduceBEq, Int.reduceBNe, Int.reduceAdd, Int.reduceSub, Int.cast_ofNat_Int]
      refine callA_mk AW ?_
      simp (maxSteps := 1000000) -implicitDefEqProofs only [go_sem, awp_seq, Nat.reduceBNe, Nat.reduceBEq, Nat.reduceAdd, Nat.reduceSub, Nat.reduceMul, Nat.reduceLeDiff, Nat.reduceLT, Nat.reduceEqDiff, Nat.reduceBneDiff, Int.reduceLE, Int.reduceLT, Int.reduceToNat, Int.reduceBEq, Int.reduceBNe, Int.reduceAdd, Int.reduceSub, Int.cast_ofNat_Int]
    | false =>
      have ci0 : itemE it = 0 := by simpa using ci
      have k6 : (it.kind == 6) = true := by
        cases h6 : it.kind == 6 with
        | true => rfl
        | false => unfold rightE at hr; rw [ci, h6] at hr; cases hr
      rw [ci0] at I
      generalize rightE it = re at *
      refine ACalls.of ⟨12, [], []⟩ (fn := Tryz.f4) Tryz.func4 rfl rfl rfl (by kernel_rfl) (by kernel_rfl) (Nat.le_of_ble_eq_true rfl) ?_
      simp (maxSteps := 1000000) -implicitDefEqProofs only [go_sem, awp_seq, Nat.reduceBNe, Nat.reduceBEq, Nat.reduceAdd, Nat.reduceSub, Nat.reduceMul, Nat.reduceLeDiff, Nat.reduceLT, Nat.reduceEqDiff, Nat.reduceBneDiff, Int.reduceLE, Int.reduceLT, Int.reduceToNat, Int.reduceBEq, Int.reduceBNe, Int.reduceAdd, Int.reduceSub, Int.cast_ofNat_Int]
      refine callA_mk SC ?_
      simp (maxSteps := 1000000) -implicitDefEqProofs only [go_sem, awp_seq, Nat.reduceBNe, Nat.reduceBEq, Nat.reduceAdd, Nat.reduceSub, Nat.reduceMul, Nat.reduceLeDiff, Nat.reduceLT, Nat.reduceEqDiff, Nat.reduceBneDiff, Int.reduceLE, Int.reduceLT, Int.reduceToNat, Int.reduceBEq, Int.reduceBNe, Int.reduceAdd, Int.reduceSub, Int.cast_ofNat_Int]
      refine callA_mk VA ?_
      simp (maxSteps := 1000000) -implicitDefEqProofs only [d1, d2, d3, c00, c01, go_sem, awp_seq, Nat.reduceBNe, Nat.reduceBEq, Nat.reduceAdd, Nat.reduceSub, Nat.reduceMul, Nat.reduceLeDiff, Nat.reduceLT, Nat.reduceEqDiff, Nat.reduceBneDiff, Int.reduceLE, Int.reduceLT, Int.reduceToNat, Int.reduceBEq, Int.reduceBNe, Int.reduceAdd, Int.reduceSub, Int.cast_ofNat_Int]
      refine callA_mk RC ?_
      simp (maxSteps := 1000000) -implicitDefEqProofs only [hr, go_sem, awp_seq, Nat.reduceBNe, Nat.reduceBEq, Nat.reduceAdd, Nat.reduceSub, Nat.reduceMul, Nat.reduceLeDiff, Nat.reduceLT, Nat.reduceEqDiff, Nat.reduceBneDiff, Int.reduceLE, Int.reduceLT, Int.reduceToNat, Int.reduceBEq, Int.reduceBNe, Int.reduceAdd, Int.reduceSub, Int.cast_ofNat_Int]
      refine callA_t SM ?_
      simp (maxSteps := 1000000) -implicitDefEqProofs only [go_sem, awp_seq, Nat.reduceBNe, Nat.reduceBEq, Nat.reduceAdd, Nat.reduceSub, Nat.reduceMul, Nat.reduceLeDiff, Nat.reduceLT, Nat.reduceEqDiff, Nat.reduceBneDiff, Int.reduceLE, Int.reduceLT, Int.reduceToNat, Int.reduceBEq, Int.reduceBNe, Int.reduceAdd, Int.reduceSub, Int.cast_ofNat_Int]
      refine callA_mk I ?_
      simp (maxSteps := 1000000) -implicitDefEqProofs only [c00, k6, go_sem, awp_seq, Nat.reduceBNe, Nat.reduceBEq, Nat.reduceAdd, Nat.reduceSub, Nat.reduceMul, Nat.reduceLeDiff, Nat.reduceLT, Nat.reduceEqDiff, Nat.reduceBneDiff, Int.reduceLE, Int.reduceLT, Int.reduceToNat, Int.reduceBEq, Int.reduceBNe, Int.reduceAdd, Int.reduceSub, Int.cast_ofNat_Int]
      refine callA_mk AW ?_
      simp (maxSteps := 1000000) -implicitDefEqProofs only [go_sem, awp_seq, Nat.reduceBNe, Nat.reduceBEq, Nat.reduceAdd, Nat.reduceSub, Nat.reduceMul, Nat.reduceLeDiff, Nat.reduceLT, Nat.reduceEqDiff, Nat.reduceBneDiff, Int.reduceLE, Int.reduceLT, Int.reduceToNat, Int.reduceBEq, Int.reduceBNe, Int.reduceAdd, Int.reduceSub, Int.cast_ofNat_Int]
  | false =>
    have hr0 : rightE it = 0 := by simpa using hr
    have hv : rightV it = rightA it := by unfold rightV; rw [hr]; rfl
    have F := right_full hr0
    have V2 := keyingValid_c it h (rightA it) (right_ok h)
    have S2 := score_c it h (rightA it) (right_ok h)
    rw [F.1] at V2
    rw [F.2] at S2
    rw [hv, hr0] at RC
    generalize rightA it = ra at *
    refine ACalls.of ⟨12, [], []⟩ (fn := Tryz.f4) Tryz.func4 rfl rfl rfl (by kernel_rfl) (by kernel_rfl) (Nat.le_of_ble_eq_true rfl) ?_
    simp (maxSteps := 1000000) -implicitDefEqProofs only [go_sem, awp_seq, Nat.reduceBNe, Nat.reduceBEq, Nat.reduceAdd, Nat.reduceSub, Nat.reduceMul, Nat.reduceLeDiff, Nat.reduceLT, Nat.reduceEqDiff, Nat.reduceBneDiff, Int.reduceLE, Int.reduceLT, Int.reduceToNat, Int.reduceBEq, Int.reduceBNe, Int.reduceAdd, Int.reduceSub, Int.cast_ofNat_Int]
    refine callA_mk SC ?_
    simp (maxSteps := 1000000) -implicitDefEqProofs only [go_sem, awp_seq, Nat.reduceBNe, Nat.reduceBEq, Nat.reduceAdd, Nat.reduceSub, Nat.reduceMul, Nat.reduceLeDiff, Nat.reduceLT, Nat.reduceEqDiff, Nat.reduceBneDiff, Int.reduceLE, Int.reduceLT, Int.reduceToNat, Int.reduceBEq, Int.reduceBNe, Int.reduceAdd, Int.reduceSub, Int.cast_ofNat_Int]
    refine callA_mk VA ?_
    simp (maxSteps := 1000000) -implicitDefEqProofs only [d1, d2, d3, c00, c01, go_sem, awp_seq, Nat.reduceBNe, Nat.reduceBEq, Nat.reduceAdd, Nat.reduceSub, Nat.reduceMul, Nat.reduceLeDiff, Nat.reduceLT, Nat.reduceEqDiff, Nat.reduceBneDiff, Int.reduceLE, Int.reduceLT, Int.reduceToNat, Int.reduceBEq, Int.reduceBNe, Int.reduceAdd, Int.reduceSub, Int.cast_ofNat_Int]
    refine callA_mk RC ?_
    simp (maxSteps := 1000000) -implicitDefEqProofs only [c00, go_sem, awp_seq, Nat.reduceBNe, Nat.reduceBEq, Nat.reduceAdd, Nat.reduceSub, Nat.reduceMul, Nat.reduceLeDiff, Nat.reduceLT, Nat.reduceEqDiff, Nat.reduceBneDiff, Int.reduceLE, Int.reduceLT, Int.reduceToNat, Int.reduceBEq, Int.reduceBNe, Int.reduceAdd, Int.reduceSub, Int.cast_ofNat_Int]
    refine callA_mk S2 ?_
    simp (maxSteps := 1000000) -implicitDefEqProofs only [c00, c01, dp, go_sem, awp_seq, Nat.reduceBNe, Nat.reduceBEq, Nat.reduceAdd, Nat.reduceSub, Nat.reduceMul, Nat.reduceLeDiff, Nat.reduceLT, Nat.reduceEqDiff, Nat.reduceBneDiff, Int.reduceLE, Int.reduceLT, Int.reduceToNat, Int.reduceBEq, Int.reduceBNe, Int.reduceAdd, Int.reduceSub, Int.cast_ofNat_Int]
    refine callA_mk V2 ?_
    simp (maxSteps := 1000000) -implicitDefEqProofs only [c00, c01, go_sem, awp_seq, Nat.reduceBNe, Nat.reduceBEq, Nat.reduceAdd, Nat.reduceSub, Nat.reduceMul, Nat.reduceLeDiff, Nat.reduceLT, Nat.reduceEqDiff, Nat.reduceBneDiff, Int.reduceLE, Int.reduceLT, Int.reduceToNat, Int.reduceBEq, Int.reduceBNe, Int.reduceAdd, Int.reduceSub, Int.cast_ofNat_Int]
    refine callA_mk AW ?_
    simp (maxSteps := 1000000) -implicitDefEqProofs only [go_sem, awp_seq, Nat.reduceBNe, Nat.reduceBEq, Nat.reduceAdd, Nat.reduceSub, Nat.reduceMul, Nat.reduceLeDiff, Nat.reduceLT, Nat.reduceEqDiff, Nat.reduceBneDiff, Int.reduceLE, Int.reduceLT, Int.reduceToNat, Int.reduceBEq, Int.reduceBNe, Int.reduceAdd, Int.reduceSub, Int.cast_ofNat_Int]
set_option maxHeartbeats 8000000 in
theorem bounds_B (it : ItV) (h : IOK it) (a : AnsV) (n e f : Int) (SC : AC 8 [itA it, ansA a] (.tup [i64 n, i64 e])) (VA : AC 12 [itA it, ansA a] (i64 f))
    (q1 : f = 0) (q2 : e = 8) (q3 : n = 0) (q4 : (it.kind == 6) = true) : AC 4 [itA it, ansA a] (boo true) := by
  have I := itemValid_c it h
  have RC := right_c it h
  have AW := awake40_c
  have SM := same_c ans0 ans0 (by simp)
  rw [same00] at SM
  have c00 : ((0 : Int) != 0) = false := rfl
  have c01 : ((0 : Int) == 0) = true := rfl
  have c80 : ((8 : Int) == 0) = false := rfl
  have c81 : ((8 : Int) != 0) = true := rfl
  have ff : (false == false) = true := rfl
  have tt : (true == true) = true := rfl
  have dp : (it.pts == it.pts) = true := by simp
  subst q1 q2 q3
  have d6 : (it.kind != 6) = false := by simp only [bne, q4, Bool.not_true]
  cases hr : rightE it != 0 with
  | true =>
    have hv : rightV it = ans0 := by unfold rightV; rw [hr]; rfl
    rw [hv] at RC
    cases ci : itemE it != 0 with
    | true =>
      generalize itemE it = ie at *
      generalize rightE it = re at *
      refine ACalls.of ⟨12, [], []⟩ (fn := Tryz.f4) Tryz.func4 rfl rfl rfl (by kernel_rfl) (by kernel_rfl) (Nat.le_of_ble_eq_true rfl) ?_
      simp (maxSteps := 1000000) -implicitDefEqProofs only [go_sem, awp_seq, Nat.reduceBNe, Nat.reduceBEq, Nat.reduceAdd, Nat.reduceSub, Nat.reduceMul, Nat.reduceLeDiff, Nat.reduceLT, Nat.reduceEqDiff, Nat.reduceBneDiff, Int.reduceLE, Int.reduceLT, Int.reduceToNat, Int.reduceBEq, Int.reduceBNe, Int.reduceAdd, Int.reduceSub, Int.cast_ofNat_Int]
      refine callA_mk SC ?_
      simp (maxSteps := 1000000) -implicitDefEqProofs only [go_sem, awp_seq, Nat.reduceBNe, Nat.reduceBEq, Nat.reduceAdd, Nat.reduceSub, Nat.reduceMul, Nat.reduceLeDiff, Nat.reduceLT, Nat.reduceEqDiff, Nat.reduceBneDiff, Int.reduceLE, Int.reduceLT, Int.reduceToNat, Int.reduceBEq, Int.reduceBNe, Int.reduceAdd, Int.reduceSub, Int.cast_ofNat_Int]
      refine callA_mk VA ?_
      simp (maxSteps := 1000000) -implicitDefEqProofs only [c00, c01, c80, c81, d6, ff, Bool.not_true, go_sem, awp_seq, Nat.reduceBNe, Nat.reduceBEq, Nat.reduceAdd, Nat.reduceSub, Nat.reduceMul, Nat.reduceLeDiff, Nat.reduceLT, Nat.reduceEqDiff, Nat.reduceBneDiff, Int.reduceLE, Int.reduceLT, Int.reduceToNat, Int.reduceBEq, Int.reduceBNe, Int.reduceAdd, Int.reduceSub, Int.cast_ofNat_Int]
      refine callA_mk RC ?_
      simp (maxSteps := 1000000) -implicitDefEqProofs only [hr, go_sem, awp_seq, Nat.reduceBNe, Nat.reduceBEq, Nat.reduceAdd, Nat.reduceSub, Nat.reduceMul, Nat.reduceLeDiff, Nat.reduceLT, Nat.reduceEqDiff, Nat.reduceBneDiff, Int.reduceLE, Int.reduceLT, Int.reduceToNat, Int.reduceBEq, Int.reduceBNe, Int.reduceAdd, Int.reduceSub, Int.cast_ofNat_Int]
      refine callA_t SM ?_
      simp (maxSteps := 1000000) -implicitDefEqProofs only [go_sem, awp_seq, Nat.reduceBNe, Nat.reduceBEq, Nat.reduceAdd, Nat.reduceSub, Nat.reduceMul, Nat.reduceLeDiff, Nat.reduceLT, Nat.reduceEqDiff, Nat.reduceBneDiff, Int.reduceLE, Int.reduceLT, Int.reduceToNat, Int.reduceBEq, Int.reduceBNe, Int.reduceAdd, Int.reduceSub, Int.cast_ofNat_Int]
      refine callA_mk I ?_
      simp (maxSteps := 1000000) -implicitDefEqProofs only [ci, go_sem, awp_seq, Nat.reduceBNe, Nat.reduceBEq, Nat.reduceAdd, Nat.reduceSub, Nat.reduceMul, Nat.reduceLeDiff, Nat.reduceLT, Nat.reduceEqDiff, Nat.reduceBneDiff, Int.reduceLE, Int.reduceLT, Int.reduceToNat, Int.reduceBEq, Int.reduceBNe, Int.reduceAdd, Int.reduceSub, Int.cast_ofNat_Int]
      refine callA_mk AW ?_
      simp (maxSteps := 1000000) -implicitDefEqProofs only [go_sem, awp_seq, Nat.reduceBNe, Nat.reduceBEq, Nat.reduceAdd, Nat.reduceSub, Nat.reduceMul, Nat.reduceLeDiff, Nat.reduceLT, Nat.reduceEqDiff, Nat.reduceBneDiff, Int.reduceLE, Int.reduceLT, Int.reduceToNat, Int.reduceBEq, Int.reduceBNe, Int.reduceAdd, Int.reduceSub, Int.cast_ofNat_Int]
    | false =>
      have ci0 : itemE it = 0 := by simpa using ci
      have k6 : (it.kind == 6) = true := by
        cases h6 : it.kind == 6 with
        | true => rfl
        | false => unfold rightE at hr; rw [ci, h6] at hr; cases hr
      rw [ci0] at I
      generalize rightE it = re at *
      refine ACalls.of ⟨12, [], []⟩ (fn := Tryz.f4) Tryz.func4 rfl rfl rfl (by kernel_rfl) (by kernel_rfl) (Nat.le_of_ble_eq_true rfl) ?_
      simp (maxSteps := 1000000) -implicitDefEqProofs only [go_sem, awp_seq, Nat.reduceBNe, Nat.reduceBEq, Nat.reduceAdd, Nat.reduceSub, Nat.reduceMul, Nat.reduceLeDiff, Nat.reduceLT, Nat.reduceEqDiff, Nat.reduceBneDiff, Int.reduceLE, Int.reduceLT, Int.reduceToNat, Int.reduceBEq, Int.reduceBNe, Int.reduceAdd, Int.reduceSub, Int.cast_ofNat_Int]
      refine callA_mk SC ?_
      simp (maxSteps := 1000000) -implicitDefEqProofs only [go_sem, awp_seq, Nat.reduceBNe, Nat.reduceBEq, Nat.reduceAdd, Nat.reduceSub, Nat.reduceMul, Nat.reduceLeDiff, Nat.reduceLT, Nat.reduceEqDiff, Nat.reduceBneDiff, Int.reduceLE, Int.reduceLT, Int.reduceToNat, Int.reduceBEq, Int.reduceBNe, Int.reduceAdd, Int.reduceSub, Int.cast_ofNat_Int]
      refine callA_mk VA ?_
      simp (maxSteps := 1000000) -implicitDefEqProofs only [c00, c01, c80, c81, d6, ff, Bool.not_true, go_sem, awp_seq, Nat.reduceBNe, Nat.reduceBEq, Nat.reduceAdd, Nat.reduceSub, Nat.reduceMul, Nat.reduceLeDiff, Nat.reduceLT, Nat.reduceEqDiff, Nat.reduceBneDiff, Int.reduceLE, Int.reduceLT, Int.reduceToNat, Int.reduceBEq, Int.reduceBNe, Int.reduceAdd, Int.reduceSub, Int.cast_ofNat_Int]
      refine callA_mk RC ?_
      simp (maxSteps := 1000000) -implicitDefEqProofs only [hr, go_sem, awp_seq, Nat.reduceBNe, Nat.reduceBEq, Nat.reduceAdd, Nat.reduceSub, Nat.reduceMul, Nat.reduceLeDiff, Nat.reduceLT, Nat.reduceEqDiff, Nat.reduceBneDiff, Int.reduceLE, Int.reduceLT, Int.reduceToNat, Int.reduceBEq, Int.reduceBNe, Int.reduceAdd, Int.reduceSub, Int.cast_ofNat_Int]
      refine callA_t SM ?_
      simp (maxSteps := 1000000) -implicitDefEqProofs only [go_sem, awp_seq, Nat.reduceBNe, Nat.reduceBEq, Nat.reduceAdd, Nat.reduceSub, Nat.reduceMul, Nat.reduceLeDiff, Nat.reduceLT, Nat.reduceEqDiff, Nat.reduceBneDiff, Int.reduceLE, Int.reduceLT, Int.reduceToNat, Int.reduceBEq, Int.reduceBNe, Int.reduceAdd, Int.reduceSub, Int.cast_ofNat_Int]
      refine callA_mk I ?_
      simp (maxSteps := 1000000) -implicitDefEqProofs only [c00, k6, go_sem, awp_seq, Nat.reduceBNe, Nat.reduceBEq, Nat.reduceAdd, Nat.reduceSub, Nat.reduceMul, Nat.reduceLeDiff, Nat.reduceLT, Nat.reduceEqDiff, Nat.reduceBneDiff, Int.reduceLE, Int.reduceLT, Int.reduceToNat, Int.reduceBEq, Int.reduceBNe, Int.reduceAdd, Int.reduceSub, Int.cast_ofNat_Int]
      refine callA_mk AW ?_
      simp (maxSteps := 1000000) -implicitDefEqProofs only [go_sem, awp_seq, Nat.reduceBNe, Nat.reduceBEq, Nat.reduceAdd, Nat.reduceSub, Nat.reduceMul, Nat.reduceLeDiff, Nat.reduceLT, Nat.reduceEqDiff, Nat.reduceBneDiff, Int.reduceLE, Int.reduceLT, Int.reduceToNat, Int.reduceBEq, Int.reduceBNe, Int.reduceAdd, Int.reduceSub, Int.cast_ofNat_Int]
  | false =>
    have hr0 : rightE it = 0 := by simpa using hr
    have hv : rightV it = rightA it := by unfold rightV; rw [hr]; rfl
    have F := right_full hr0
    have V2 := keyingValid_c it h (rightA it) (right_ok h)
    have S2 := score_c it h (rightA it) (right_ok h)
    rw [F.1] at V2
    rw [F.2] at S2
    rw [hv, hr0] at RC
    generalize rightA it = ra at *
    refine ACalls.of ⟨12, [], []⟩ (fn := Tryz.f4) Tryz.func4 rfl rfl rfl (by kernel_rfl) (by kernel_rfl) (Nat.le_of_ble_eq_true rfl) ?_
    simp (maxSteps := 1000000) -implicitDefEqProofs only [go_sem, awp_seq, Nat.reduceBNe, Nat.reduceBEq, Nat.reduceAdd, Nat.reduceSub, Nat.reduceMul, Nat.reduceLeDiff, Nat.reduceLT, Nat.reduceEqDiff, Nat.reduceBneDiff, Int.reduceLE, Int.reduceLT, Int.reduceToNat, Int.reduceBEq, Int.reduceBNe, Int.reduceAdd, Int.reduceSub, Int.cast_ofNat_Int]
    refine callA_mk SC ?_
    simp (maxSteps := 1000000) -implicitDefEqProofs only [go_sem, awp_seq, Nat.reduceBNe, Nat.reduceBEq, Nat.reduceAdd, Nat.reduceSub, Nat.reduceMul, Nat.reduceLeDiff, Nat.reduceLT, Nat.reduceEqDiff, Nat.reduceBneDiff, Int.reduceLE, Int.reduceLT, Int.reduceToNat, Int.reduceBEq, Int.reduceBNe, Int.reduceAdd, Int.reduceSub, Int.cast_ofNat_Int]
    refine callA_mk VA ?_
    simp (maxSteps := 1000000) -implicitDefEqProofs only [c00, c01, c80, c81, d6, ff, Bool.not_true, go_sem, awp_seq, Nat.reduceBNe, Nat.reduceBEq, Nat.reduceAdd, Nat.reduceSub, Nat.reduceMul, Nat.reduceLeDiff, Nat.reduceLT, Nat.reduceEqDiff, Nat.reduceBneDiff, Int.reduceLE, Int.reduceLT, Int.reduceToNat, Int.reduceBEq, Int.reduceBNe, Int.reduceAdd, Int.reduceSub, Int.cast_ofNat_Int]
    refine callA_mk RC ?_
    simp (maxSteps := 1000000) -implicitDefEqProofs only [c00, go_sem, awp_seq, Nat.reduceBNe, Nat.reduceBEq, Nat.reduceAdd, Nat.reduceSub, Nat.reduceMul, Nat.reduceLeDiff, Nat.reduceLT, Nat.reduceEqDiff, Nat.reduceBneDiff, Int.reduceLE, Int.reduceLT, Int.reduceToNat, Int.reduceBEq, Int.reduceBNe, Int.reduceAdd, Int.reduceSub, Int.cast_ofNat_Int]
    refine callA_mk S2 ?_
    simp (maxSteps := 1000000) -implicitDefEqProofs only [c00, c01, dp, go_sem, awp_seq, Nat.reduceBNe, Nat.reduceBEq, Nat.reduceAdd, Nat.reduceSub, Nat.reduceMul, Nat.reduceLeDiff, Nat.reduceLT, Nat.reduceEqDiff, Nat.reduceBneDiff, Int.reduceLE, Int.reduceLT, Int.reduceToNat, Int.reduceBEq, Int.reduceBNe, Int.reduceAdd, Int.reduceSub, Int.cast_ofNat_Int]
    refine callA_mk V2 ?_
    simp (maxSteps := 1000000) -implicitDefEqProofs only [c00, c01, go_sem, awp_seq, Nat.reduceBNe, Nat.reduceBEq, Nat.reduceAdd, Nat.reduceSub, Nat.reduceMul, Nat.reduceLeDiff, Nat.reduceLT, Nat.reduceEqDiff, Nat.reduceBneDiff, Int.reduceLE, Int.reduceLT, Int.reduceToNat, Int.reduceBEq, Int.reduceBNe, Int.reduceAdd, Int.reduceSub, Int.cast_ofNat_Int]
    refine callA_mk AW ?_
    simp (maxSteps := 1000000) -implicitDefEqProofs only [go_sem, awp_seq, Nat.reduceBNe, Nat.reduceBEq, Nat.reduceAdd, Nat.reduceSub, Nat.reduceMul, Nat.reduceLeDiff, Nat.reduceLT, Nat.reduceEqDiff, Nat.reduceBneDiff, Int.reduceLE, Int.reduceLT, Int.reduceToNat, Int.reduceBEq, Int.reduceBNe, Int.reduceAdd, Int.reduceSub, Int.cast_ofNat_Int]
set_option maxHeartbeats 8000000 in
theorem bounds_C (it : ItV) (h : IOK it) (a : AnsV) (n e f : Int) (SC : AC 8 [itA it, ansA a] (.tup [i64 n, i64 e])) (VA : AC 12 [itA it, ansA a] (i64 f))
    (q1 : f = 0) (q2 : e = 0) (q3 : (it.kind == 6) = false) (q4 : 0 ≤ n) (q5 : n ≤ it.pts) (q6 : a.om = true → n = 0) : AC 4 [itA it, ansA a] (boo true) := by
  have I := itemValid_c it h
  have RC := right_c it h
  have AW := awake40_c
  have SM := same_c ans0 ans0 (by simp)
  rw [same00] at SM
  have c00 : ((0 : Int) != 0) = false := rfl
  have c01 : ((0 : Int) == 0) = true := rfl
  have c80 : ((8 : Int) == 0) = false := rfl
  have c81 : ((8 : Int) != 0) = true := rfl
  have ff : (false == false) = true := rfl
  have tt : (true == true) = true := rfl
  have dp : (it.pts == it.pts) = true := by simp
  subst q1 q2
  have d6 : (it.kind != 6) = true := by simp only [bne, q3, Bool.not_false]
  have l1 : decide (n < 0) = false := by simp; omega
  have l2 : decide (it.pts < n) = false := by simp; omega
  cases om : a.om with
  | true =>
    have hn := q6 om
    subst hn
    cases hr : rightE it != 0 with
    | true =>
      have hv : rightV it = ans0 := by unfold rightV; rw [hr]; rfl
      rw [hv] at RC
      cases ci : itemE it != 0 with
      | true =>
        generalize itemE it = ie at *
        generalize rightE it = re at *
        refine ACalls.of ⟨12, [], []⟩ (fn := Tryz.f4) Tryz.func4 rfl rfl rfl (by kernel_rfl) (by kernel_rfl) (Nat.le_of_ble_eq_true rfl) ?_
        simp (maxSteps := 1000000) -implicitDefEqProofs only [go_sem, awp_seq, Nat.reduceBNe, Nat.reduceBEq, Nat.reduceAdd, Nat.reduceSub, Nat.reduceMul, Nat.reduceLeDiff, Nat.reduceLT, Nat.reduceEqDiff, Nat.reduceBneDiff, Int.reduceLE, Int.reduceLT, Int.reduceToNat, Int.reduceBEq, Int.reduceBNe, Int.reduceAdd, Int.reduceSub, Int.cast_ofNat_Int]
        refine callA_mk SC ?_
        simp (maxSteps := 1000000) -implicitDefEqProofs only [go_sem, awp_seq, Nat.reduceBNe, Nat.reduceBEq, Nat.reduceAdd, Nat.reduceSub, Nat.reduceMul, Nat.reduceLeDiff, Nat.reduceLT, Nat.reduceEqDiff, Nat.reduceBneDiff, Int.reduceLE, Int.reduceLT, Int.reduceToNat, Int.reduceBEq, Int.reduceBNe, Int.reduceAdd, Int.reduceSub, Int.cast_ofNat_Int]
        refine callA_mk VA ?_
        simp (maxSteps := 1000000) -implicitDefEqProofs only [c00, c01, d6, tt, l1, l2, om, Bool.not_true, go_sem, awp_seq, Nat.reduceBNe, Nat.reduceBEq, Nat.reduceAdd, Nat.reduceSub, Nat.reduceMul, Nat.reduceLeDiff, Nat.reduceLT, Nat.reduceEqDiff, Nat.reduceBneDiff, Int.reduceLE, Int.reduceLT, Int.reduceToNat, Int.reduceBEq, Int.reduceBNe, Int.reduceAdd, Int.reduceSub, Int.cast_ofNat_Int]
        refine callA_mk RC ?_
        simp (maxSteps := 1000000) -implicitDefEqProofs only [hr, go_sem, awp_seq, Nat.reduceBNe, Nat.reduceBEq, Nat.reduceAdd, Nat.reduceSub, Nat.reduceMul, Nat.reduceLeDiff, Nat.reduceLT, Nat.reduceEqDiff, Nat.reduceBneDiff, Int.reduceLE, Int.reduceLT, Int.reduceToNat, Int.reduceBEq, Int.reduceBNe, Int.reduceAdd, Int.reduceSub, Int.cast_ofNat_Int]
        refine callA_t SM ?_
        simp (maxSteps := 1000000) -implicitDefEqProofs only [go_sem, awp_seq, Nat.reduceBNe, Nat.reduceBEq, Nat.reduceAdd, Nat.reduceSub, Nat.reduceMul, Nat.reduceLeDiff, Nat.reduceLT, Nat.reduceEqDiff, Nat.reduceBneDiff, Int.reduceLE, Int.reduceLT, Int.reduceToNat, Int.reduceBEq, Int.reduceBNe, Int.reduceAdd, Int.reduceSub, Int.cast_ofNat_Int]
        refine callA_mk I ?_
        simp (maxSteps := 1000000) -implicitDefEqProofs only [ci, go_sem, awp_seq, Nat.reduceBNe, Nat.reduceBEq, Nat.reduceAdd, Nat.reduceSub, Nat.reduceMul, Nat.reduceLeDiff, Nat.reduceLT, Nat.reduceEqDiff, Nat.reduceBneDiff, Int.reduceLE, Int.reduceLT, Int.reduceToNat, Int.reduceBEq, Int.reduceBNe, Int.reduceAdd, Int.reduceSub, Int.cast_ofNat_Int]
        refine callA_mk AW ?_
        simp (maxSteps := 1000000) -implicitDefEqProofs only [go_sem, awp_seq, Nat.reduceBNe, Nat.reduceBEq, Nat.reduceAdd, Nat.reduceSub, Nat.reduceMul, Nat.reduceLeDiff, Nat.reduceLT, Nat.reduceEqDiff, Nat.reduceBneDiff, Int.reduceLE, Int.reduceLT, Int.reduceToNat, Int.reduceBEq, Int.reduceBNe, Int.reduceAdd, Int.reduceSub, Int.cast_ofNat_Int]
      | false =>
        have ci0 : itemE it = 0 := by simpa using ci
        have k6 : (it.kind == 6) = true := by
          cases h6 : it.kind == 6 with
          | true => rfl
          | false => unfold rightE at hr; rw [ci, h6] at hr; cases hr
        rw [ci0] at I
        generalize rightE it = re at *
        refine ACalls.of ⟨12, [], []⟩ (fn := Tryz.f4) Tryz.func4 rfl rfl rfl (by kernel_rfl) (by kernel_rfl) (Nat.le_of_ble_eq_true rfl) ?_
        simp (maxSteps := 1000000) -implicitDefEqProofs only [go_sem, awp_seq, Nat.reduceBNe, Nat.reduceBEq, Nat.reduceAdd, Nat.reduceSub, Nat.reduceMul, Nat.reduceLeDiff, Nat.reduceLT, Nat.reduceEqDiff, Nat.reduceBneDiff, Int.reduceLE, Int.reduceLT, Int.reduceToNat, Int.reduceBEq, Int.reduceBNe, Int.reduceAdd, Int.reduceSub, Int.cast_ofNat_Int]
        refine callA_mk SC ?_
        simp (maxSteps := 1000000) -implicitDefEqProofs only [go_sem, awp_seq, Nat.reduceBNe, Nat.reduceBEq, Nat.reduceAdd, Nat.reduceSub, Nat.reduceMul, Nat.reduceLeDiff, Nat.reduceLT, Nat.reduceEqDiff, Nat.reduceBneDiff, Int.reduceLE, Int.reduceLT, Int.reduceToNat, Int.reduceBEq, Int.reduceBNe, Int.reduceAdd, Int.reduceSub, Int.cast_ofNat_Int]
        refine callA_mk VA ?_
        simp (maxSteps := 1000000) -implicitDefEqProofs only [c00, c01, d6, tt, l1, l2, om, Bool.not_true, go_sem, awp_seq, Nat.reduceBNe, Nat.reduceBEq, Nat.reduceAdd, Nat.reduceSub, Nat.reduceMul, Nat.reduceLeDiff, Nat.reduceLT, Nat.reduceEqDiff, Nat.reduceBneDiff, Int.reduceLE, Int.reduceLT, Int.reduceToNat, Int.reduceBEq, Int.reduceBNe, Int.reduceAdd, Int.reduceSub, Int.cast_ofNat_Int]
        refine callA_mk RC ?_
        simp (maxSteps := 1000000) -implicitDefEqProofs only [hr, go_sem, awp_seq, Nat.reduceBNe, Nat.reduceBEq, Nat.reduceAdd, Nat.reduceSub, Nat.reduceMul, Nat.reduceLeDiff, Nat.reduceLT, Nat.reduceEqDiff, Nat.reduceBneDiff, Int.reduceLE, Int.reduceLT, Int.reduceToNat, Int.reduceBEq, Int.reduceBNe, Int.reduceAdd, Int.reduceSub, Int.cast_ofNat_Int]
        refine callA_t SM ?_
        simp (maxSteps := 1000000) -implicitDefEqProofs only [go_sem, awp_seq, Nat.reduceBNe, Nat.reduceBEq, Nat.reduceAdd, Nat.reduceSub, Nat.reduceMul, Nat.reduceLeDiff, Nat.reduceLT, Nat.reduceEqDiff, Nat.reduceBneDiff, Int.reduceLE, Int.reduceLT, Int.reduceToNat, Int.reduceBEq, Int.reduceBNe, Int.reduceAdd, Int.reduceSub, Int.cast_ofNat_Int]
        refine callA_mk I ?_
        simp (maxSteps := 1000000) -implicitDefEqProofs only [c00, k6, go_sem, awp_seq, Nat.reduceBNe, Nat.reduceBEq, Nat.reduceAdd, Nat.reduceSub, Nat.reduceMul, Nat.reduceLeDiff, Nat.reduceLT, Nat.reduceEqDiff, Nat.reduceBneDiff, Int.reduceLE, Int.reduceLT, Int.reduceToNat, Int.reduceBEq, Int.reduceBNe, Int.reduceAdd, Int.reduceSub, Int.cast_ofNat_Int]
        refine callA_mk AW ?_
        simp (maxSteps := 1000000) -implicitDefEqProofs only [go_sem, awp_seq, Nat.reduceBNe, Nat.reduceBEq, Nat.reduceAdd, Nat.reduceSub, Nat.reduceMul, Nat.reduceLeDiff, Nat.reduceLT, Nat.reduceEqDiff, Nat.reduceBneDiff, Int.reduceLE, Int.reduceLT, Int.reduceToNat, Int.reduceBEq, Int.reduceBNe, Int.reduceAdd, Int.reduceSub, Int.cast_ofNat_Int]
    | false =>
      have hr0 : rightE it = 0 := by simpa using hr
      have hv : rightV it = rightA it := by unfold rightV; rw [hr]; rfl
      have F := right_full hr0
      have V2 := keyingValid_c it h (rightA it) (right_ok h)
      have S2 := score_c it h (rightA it) (right_ok h)
      rw [F.1] at V2
      rw [F.2] at S2
      rw [hv, hr0] at RC
      generalize rightA it = ra at *
      refine ACalls.of ⟨12, [], []⟩ (fn := Tryz.f4) Tryz.func4 rfl rfl rfl (by kernel_rfl) (by kernel_rfl) (Nat.le_of_ble_eq_true rfl) ?_
      simp (maxSteps := 1000000) -implicitDefEqProofs only [go_sem, awp_seq, Nat.reduceBNe, Nat.reduceBEq, Nat.reduceAdd, Nat.reduceSub, Nat.reduceMul, Nat.reduceLeDiff, Nat.reduceLT, Nat.reduceEqDiff, Nat.reduceBneDiff, Int.reduceLE, Int.reduceLT, Int.reduceToNat, Int.reduceBEq, Int.reduceBNe, Int.reduceAdd, Int.reduceSub, Int.cast_ofNat_Int]
      refine callA_mk SC ?_
      simp (maxSteps := 1000000) -implicitDefEqProofs only [go_sem, awp_seq, Nat.reduceBNe, Nat.reduceBEq, Nat.reduceAdd, Nat.reduceSub, Nat.reduceMul, Nat.reduceLeDiff, Nat.reduceLT, Nat.reduceEqDiff, Nat.reduceBneDiff, Int.reduceLE, Int.reduceLT, Int.reduceToNat, Int.reduceBEq, Int.reduceBNe, Int.reduceAdd, Int.reduceSub, Int.cast_ofNat_Int]
      refine callA_mk VA ?_
      simp (maxSteps := 1000000) -implicitDefEqProofs only [c00, c01, d6, tt, l1, l2, om, Bool.not_true, go_sem, awp_seq, Nat.reduceBNe, Nat.reduceBEq, Nat.reduceAdd, Nat.reduceSub, Nat.reduceMul, Nat.reduceLeDiff, Nat.reduceLT, Nat.reduceEqDiff, Nat.reduceBneDiff, Int.reduceLE, Int.reduceLT, Int.reduceToNat, Int.reduceBEq, Int.reduceBNe, Int.reduceAdd, Int.reduceSub, Int.cast_ofNat_Int]
      refine callA_mk RC ?_
      simp (maxSteps := 1000000) -implicitDefEqProofs only [c00, go_sem, awp_seq, Nat.reduceBNe, Nat.reduceBEq, Nat.reduceAdd, Nat.reduceSub, Nat.reduceMul, Nat.reduceLeDiff, Nat.reduceLT, Nat.reduceEqDiff, Nat.reduceBneDiff, Int.reduceLE, Int.reduceLT, Int.reduceToNat, Int.reduceBEq, Int.reduceBNe, Int.reduceAdd, Int.reduceSub, Int.cast_ofNat_Int]
      refine callA_mk S2 ?_
      simp (maxSteps := 1000000) -implicitDefEqProofs only [c00, c01, dp, go_sem, awp_seq, Nat.reduceBNe, Nat.reduceBEq, Nat.reduceAdd, Nat.reduceSub, Nat.reduceMul, Nat.reduceLeDiff, Nat.reduceLT, Nat.reduceEqDiff, Nat.reduceBneDiff, Int.reduceLE, Int.reduceLT, Int.reduceToNat, Int.reduceBEq, Int.reduceBNe, Int.reduceAdd, Int.reduceSub, Int.cast_ofNat_Int]
      refine callA_mk V2 ?_
      simp (maxSteps := 1000000) -implicitDefEqProofs only [c00, c01, go_sem, awp_seq, Nat.reduceBNe, Nat.reduceBEq, Nat.reduceAdd, Nat.reduceSub, Nat.reduceMul, Nat.reduceLeDiff, Nat.reduceLT, Nat.reduceEqDiff, Nat.reduceBneDiff, Int.reduceLE, Int.reduceLT, Int.reduceToNat, Int.reduceBEq, Int.reduceBNe, Int.reduceAdd, Int.reduceSub, Int.cast_ofNat_Int]
      refine callA_mk AW ?_
      simp (maxSteps := 1000000) -implicitDefEqProofs only [go_sem, awp_seq, Nat.reduceBNe, Nat.reduceBEq, Nat.reduceAdd, Nat.reduceSub, Nat.reduceMul, Nat.reduceLeDiff, Nat.reduceLT, Nat.reduceEqDiff, Nat.reduceBneDiff, Int.reduceLE, Int.reduceLT, Int.reduceToNat, Int.reduceBEq, Int.reduceBNe, Int.reduceAdd, Int.reduceSub, Int.cast_ofNat_Int]
  | false =>
    cases hr : rightE it != 0 with
    | true =>
      have hv : rightV it = ans0 := by unfold rightV; rw [hr]; rfl
      rw [hv] at RC
      cases ci : itemE it != 0 with
      | true =>
        generalize itemE it = ie at *
        generalize rightE it = re at *
        refine ACalls.of ⟨12, [], []⟩ (fn := Tryz.f4) Tryz.func4 rfl rfl rfl (by kernel_rfl) (by kernel_rfl) (Nat.le_of_ble_eq_true rfl) ?_
        simp (maxSteps := 1000000) -implicitDefEqProofs only [go_sem, awp_seq, Nat.reduceBNe, Nat.reduceBEq, Nat.reduceAdd, Nat.reduceSub, Nat.reduceMul, Nat.reduceLeDiff, Nat.reduceLT, Nat.reduceEqDiff, Nat.reduceBneDiff, Int.reduceLE, Int.reduceLT, Int.reduceToNat, Int.reduceBEq, Int.reduceBNe, Int.reduceAdd, Int.reduceSub, Int.cast_ofNat_Int]
        refine callA_mk SC ?_
        simp (maxSteps := 1000000) -implicitDefEqProofs only [go_sem, awp_seq, Nat.reduceBNe, Nat.reduceBEq, Nat.reduceAdd, Nat.reduceSub, Nat.reduceMul, Nat.reduceLeDiff, Nat.reduceLT, Nat.reduceEqDiff, Nat.reduceBneDiff, Int.reduceLE, Int.reduceLT, Int.reduceToNat, Int.reduceBEq, Int.reduceBNe, Int.reduceAdd, Int.reduceSub, Int.cast_ofNat_Int]
        refine callA_mk VA ?_
        simp (maxSteps := 1000000) -implicitDefEqProofs only [c00, c01, d6, tt, l1, l2, om, Bool.not_true, go_sem, awp_seq, Nat.reduceBNe, Nat.reduceBEq, Nat.reduceAdd, Nat.reduceSub, Nat.reduceMul, Nat.reduceLeDiff, Nat.reduceLT, Nat.reduceEqDiff, Nat.reduceBneDiff, Int.reduceLE, Int.reduceLT, Int.reduceToNat, Int.reduceBEq, Int.reduceBNe, Int.reduceAdd, Int.reduceSub, Int.cast_ofNat_Int]
        refine callA_mk RC ?_
        simp (maxSteps := 1000000) -implicitDefEqProofs only [hr, go_sem, awp_seq, Nat.reduceBNe, Nat.reduceBEq, Nat.reduceAdd, Nat.reduceSub, Nat.reduceMul, Nat.reduceLeDiff, Nat.reduceLT, Nat.reduceEqDiff, Nat.reduceBneDiff, Int.reduceLE, Int.reduceLT, Int.reduceToNat, Int.reduceBEq, Int.reduceBNe, Int.reduceAdd, Int.reduceSub, Int.cast_ofNat_Int]
        refine callA_t SM ?_
        simp (maxSteps := 1000000) -implicitDefEqProofs only [go_sem, awp_seq, Nat.reduceBNe, Nat.reduceBEq, Nat.reduceAdd, Nat.reduceSub, Nat.reduceMul, Nat.reduceLeDiff, Nat.reduceLT, Nat.reduceEqDiff, Nat.reduceBneDiff, Int.reduceLE, Int.reduceLT, Int.reduceToNat, Int.reduceBEq, Int.reduceBNe, Int.reduceAdd, Int.reduceSub, Int.cast_ofNat_Int]
        refine callA_mk I ?_
        simp (maxSteps := 1000000) -implicitDefEqProofs only [ci, go_sem, awp_seq, Nat.reduceBNe, Nat.reduceBEq, Nat.reduceAdd, Nat.reduceSub, Nat.reduceMul, Nat.reduceLeDiff, Nat.reduceLT, Nat.reduceEqDiff, Nat.reduceBneDiff, Int.reduceLE, Int.reduceLT, Int.reduceToNat, Int.reduceBEq, Int.reduceBNe, Int.reduceAdd, Int.reduceSub, Int.cast_ofNat_Int]
        refine callA_mk AW ?_
        simp (maxSteps := 1000000) -implicitDefEqProofs only [go_sem, awp_seq, Nat.reduceBNe, Nat.reduceBEq, Nat.reduceAdd, Nat.reduceSub, Nat.reduceMul, Nat.reduceLeDiff, Nat.reduceLT, Nat.reduceEqDiff, Nat.reduceBneDiff, Int.reduceLE, Int.reduceLT, Int.reduceToNat, Int.reduceBEq, Int.reduceBNe, Int.reduceAdd, Int.reduceSub, Int.cast_ofNat_Int]
      | false =>
        have ci0 : itemE it = 0 := by simpa using ci
        have k6 : (it.kind == 6) = true := by
          cases h6 : it.kind == 6 with
          | true => rfl
          | false => unfold rightE at hr; rw [ci, h6] at hr; cases hr
        rw [ci0] at I
        generalize rightE it = re at *
        refine ACalls.of ⟨12, [], []⟩ (fn := Tryz.f4) Tryz.func4 rfl rfl rfl (by kernel_rfl) (by kernel_rfl) (Nat.le_of_ble_eq_true rfl) ?_
        simp (maxSteps := 1000000) -implicitDefEqProofs only [go_sem, awp_seq, Nat.reduceBNe, Nat.reduceBEq, Nat.reduceAdd, Nat.reduceSub, Nat.reduceMul, Nat.reduceLeDiff, Nat.reduceLT, Nat.reduceEqDiff, Nat.reduceBneDiff, Int.reduceLE, Int.reduceLT, Int.reduceToNat, Int.reduceBEq, Int.reduceBNe, Int.reduceAdd, Int.reduceSub, Int.cast_ofNat_Int]
        refine callA_mk SC ?_
        simp (maxSteps := 1000000) -implicitDefEqProofs only [go_sem, awp_seq, Nat.reduceBNe, Nat.reduceBEq, Nat.reduceAdd, Nat.reduceSub, Nat.reduceMul, Nat.reduceLeDiff, Nat.reduceLT, Nat.reduceEqDiff, Nat.reduceBneDiff, Int.reduceLE, Int.reduceLT, Int.reduceToNat, Int.reduceBEq, Int.reduceBNe, Int.reduceAdd, Int.reduceSub, Int.cast_ofNat_Int]
        refine callA_mk VA ?_
        simp (maxSteps := 1000000) -implicitDefEqProofs only [c00, c01, d6, tt, l1, l2, om, Bool.not_true, go_sem, awp_seq, Nat.reduceBNe, Nat.reduceBEq, Nat.reduceAdd, Nat.reduceSub, Nat.reduceMul, Nat.reduceLeDiff, Nat.reduceLT, Nat.reduceEqDiff, Nat.reduceBneDiff, Int.reduceLE, Int.reduceLT, Int.reduceToNat, Int.reduceBEq, Int.reduceBNe, Int.reduceAdd, Int.reduceSub, Int.cast_ofNat_Int]
        refine callA_mk RC ?_
        simp (maxSteps := 1000000) -implicitDefEqProofs only [hr, go_sem, awp_seq, Nat.reduceBNe, Nat.reduceBEq, Nat.reduceAdd, Nat.reduceSub, Nat.reduceMul, Nat.reduceLeDiff, Nat.reduceLT, Nat.reduceEqDiff, Nat.reduceBneDiff, Int.reduceLE, Int.reduceLT, Int.reduceToNat, Int.reduceBEq, Int.reduceBNe, Int.reduceAdd, Int.reduceSub, Int.cast_ofNat_Int]
        refine callA_t SM ?_
        simp (maxSteps := 1000000) -implicitDefEqProofs only [go_sem, awp_seq, Nat.reduceBNe, Nat.reduceBEq, Nat.reduceAdd, Nat.reduceSub, Nat.reduceMul, Nat.reduceLeDiff, Nat.reduceLT, Nat.reduceEqDiff, Nat.reduceBneDiff, Int.reduceLE, Int.reduceLT, Int.reduceToNat, Int.reduceBEq, Int.reduceBNe, Int.reduceAdd, Int.reduceSub, Int.cast_ofNat_Int]
        refine callA_mk I ?_
        simp (maxSteps := 1000000) -implicitDefEqProofs only [c00, k6, go_sem, awp_seq, Nat.reduceBNe, Nat.reduceBEq, Nat.reduceAdd, Nat.reduceSub, Nat.reduceMul, Nat.reduceLeDiff, Nat.reduceLT, Nat.reduceEqDiff, Nat.reduceBneDiff, Int.reduceLE, Int.reduceLT, Int.reduceToNat, Int.reduceBEq, Int.reduceBNe, Int.reduceAdd, Int.reduceSub, Int.cast_ofNat_Int]
        refine callA_mk AW ?_
        simp (maxSteps := 1000000) -implicitDefEqProofs only [go_sem, awp_seq, Nat.reduceBNe, Nat.reduceBEq, Nat.reduceAdd, Nat.reduceSub, Nat.reduceMul, Nat.reduceLeDiff, Nat.reduceLT, Nat.reduceEqDiff, Nat.reduceBneDiff, Int.reduceLE, Int.reduceLT, Int.reduceToNat, Int.reduceBEq, Int.reduceBNe, Int.reduceAdd, Int.reduceSub, Int.cast_ofNat_Int]
    | false =>
      have hr0 : rightE it = 0 := by simpa using hr
      have hv : rightV it = rightA it := by unfold rightV; rw [hr]; rfl
      have F := right_full hr0
      have V2 := keyingValid_c it h (rightA it) (right_ok h)
      have S2 := score_c it h (rightA it) (right_ok h)
      rw [F.1] at V2
      rw [F.2] at S2
      rw [hv, hr0] at RC
      generalize rightA it = ra at *
      refine ACalls.of ⟨12, [], []⟩ (fn := Tryz.f4) Tryz.func4 rfl rfl rfl (by kernel_rfl) (by kernel_rfl) (Nat.le_of_ble_eq_true rfl) ?_
      simp (maxSteps := 1000000) -implicitDefEqProofs only [go_sem, awp_seq, Nat.reduceBNe, Nat.reduceBEq, Nat.reduceAdd, Nat.reduceSub, Nat.reduceMul, Nat.reduceLeDiff, Nat.reduceLT, Nat.reduceEqDiff, Nat.reduceBneDiff, Int.reduceLE, Int.reduceLT, Int.reduceToNat, Int.reduceBEq, Int.reduceBNe, Int.reduceAdd, Int.reduceSub, Int.cast_ofNat_Int]
      refine callA_mk SC ?_
      simp (maxSteps := 1000000) -implicitDefEqProofs only [go_sem, awp_seq, Nat.reduceBNe, Nat.reduceBEq, Nat.reduceAdd, Nat.reduceSub, Nat.reduceMul, Nat.reduceLeDiff, Nat.reduceLT, Nat.reduceEqDiff, Nat.reduceBneDiff, Int.reduceLE, Int.reduceLT, Int.reduceToNat, Int.reduceBEq, Int.reduceBNe, Int.reduceAdd, Int.reduceSub, Int.cast_ofNat_Int]
      refine callA_mk VA ?_
      simp (maxSteps := 1000000) -implicitDefEqProofs only [c00, c01, d6, tt, l1, l2, om, Bool.not_true, go_sem, awp_seq, Nat.reduceBNe, Nat.reduceBEq, Nat.reduceAdd, Nat.reduceSub, Nat.reduceMul, Nat.reduceLeDiff, Nat.reduceLT, Nat.reduceEqDiff, Nat.reduceBneDiff, Int.reduceLE, Int.reduceLT, Int.reduceToNat, Int.reduceBEq, Int.reduceBNe, Int.reduceAdd, Int.reduceSub, Int.cast_ofNat_Int]
      refine callA_mk RC ?_
      simp (maxSteps := 1000000) -implicitDefEqProofs only [c00, go_sem, awp_seq, Nat.reduceBNe, Nat.reduceBEq, Nat.reduceAdd, Nat.reduceSub, Nat.reduceMul, Nat.reduceLeDiff, Nat.reduceLT, Nat.reduceEqDiff, Nat.reduceBneDiff, Int.reduceLE, Int.reduceLT, Int.reduceToNat, Int.reduceBEq, Int.reduceBNe, Int.reduceAdd, Int.reduceSub, Int.cast_ofNat_Int]
      refine callA_mk S2 ?_
      simp (maxSteps := 1000000) -implicitDefEqProofs only [c00, c01, dp, go_sem, awp_seq, Nat.reduceBNe, Nat.reduceBEq, Nat.reduceAdd, Nat.reduceSub, Nat.reduceMul, Nat.reduceLeDiff, Nat.reduceLT, Nat.reduceEqDiff, Nat.reduceBneDiff, Int.reduceLE, Int.reduceLT, Int.reduceToNat, Int.reduceBEq, Int.reduceBNe, Int.reduceAdd, Int.reduceSub, Int.cast_ofNat_Int]
      refine callA_mk V2 ?_
      simp (maxSteps := 1000000) -implicitDefEqProofs only [c00, c01, go_sem, awp_seq, Nat.reduceBNe, Nat.reduceBEq, Nat.reduceAdd, Nat.reduceSub, Nat.reduceMul, Nat.reduceLeDiff, Nat.reduceLT, Nat.reduceEqDiff, Nat.reduceBneDiff, Int.reduceLE, Int.reduceLT, Int.reduceToNat, Int.reduceBEq, Int.reduceBNe, Int.reduceAdd, Int.reduceSub, Int.cast_ofNat_Int]
      refine callA_mk AW ?_
      simp (maxSteps := 1000000) -implicitDefEqProofs only [go_sem, awp_seq, Nat.reduceBNe, Nat.reduceBEq, Nat.reduceAdd, Nat.reduceSub, Nat.reduceMul, Nat.reduceLeDiff, Nat.reduceLT, Nat.reduceEqDiff, Nat.reduceBneDiff, Int.reduceLE, Int.reduceLT, Int.reduceToNat, Int.reduceBEq, Int.reduceBNe, Int.reduceAdd, Int.reduceSub, Int.cast_ofNat_Int]
/-- The law. -/
theorem keyingBounds_c (it : ItV) (h : IOK it) (a : AnsV) (ha : ANOK a) : AC 4 [itA it, ansA a] (boo true) := by
  have SC := score_c it h a ha
  have VA := keyingValid_c it h a ha
  cases hv : validE it a != 0 with
  | true =>
    have e : scoreV it a = (0, validE it a) := by unfold scoreV; rw [hv]; rfl
    exact bounds_A it h a _ _ _ SC VA (by simpa using hv) (by rw [e]) (by rw [e])
  | false =>
  have hv0 : validE it a = 0 := by simpa using hv
  cases h6 : it.kind == 6 with
  | true =>
    have e : scoreV it a = (0, 8) := by unfold scoreV; rw [hv, h6]; rfl
    exact bounds_B it h a _ _ _ SC VA hv0 (by rw [e]) (by rw [e]) h6
  | false =>
    have B := score_bounds hv0 h6
    exact bounds_C it h a _ _ _ SC VA hv0 B.1 h6 B.2.1 B.2.2.1 B.2.2.2
end Go.Proofs.YtkmicjpoekbhfaaGreatDoor

/- What an argument that can be read is, by the shape of its type. -/
set_option linter.unusedSimpArgs false
set_option linter.unusedVariables false
namespace Go.Proofs.YtkmicjpoekbhfaaGreatDoor
open Go.ChangeShapes Go.WideShapes Go.ChangeAt Go.RowKit Lim

/-- The shape of a type; a struct is a chain of its members. -/
inductive SH where
  | int (k : IntKind)
  | bool
  | str
  | nat
  | sl (e : SH)
  | nil
  | cons (f r : SH)
def SH.sz : SH → Nat
  | .nil => 0
  | .cons f r => f.sz + r.sz
  | _ => 1
/-- Cells of a shape, each row at most B long. -/
inductive Ok (B : Nat) : SH → List AV → Prop
  | int {k : IntKind} {z : Int} (h : k.min ≤ z ∧ z ≤ k.max) : Ok B (.int k) [.lit (.int k z)]
  | bool {b : Bool} : Ok B .bool [.lit (.bool b)]
  | str {l : List UInt8} (h : l.length ≤ B) : Ok B .str [Go.Proofs.YtkmicjpoekbhfaaGreatDoor.str l]
  | nat {l : List Nat} (h1 : Dig l) (h2 : l.length ≤ B) : Ok B .nat [.nat l]
  | sl {e : SH} {xs : List (List AV)} (h1 : xs.length ≤ B) (h2 : ∀ x, x ∈ xs → Ok B e x) : Ok B (.sl e) [.sl e.sz (xs.map (mkEl e.sz))]
  | nil : Ok B .nil []
  | cons {f r : SH} {a b : List AV} (h1 : Ok B f a) (h2 : Ok B r b) : Ok B (.cons f r) (a ++ b)
theorem Ok.facts {B : Nat} {s : SH} {cs : List AV} (h : Ok B s cs) : cs.length = s.sz ∧ cs.all AV.one = true := by
  induction h with
  | cons _ _ ih1 ih2 => simp only [SH.sz, List.length_append, List.all_append, ih1.1, ih2.1, ih1.2, ih2.2, Bool.and_self]; exact ⟨trivial, trivial⟩
  | nil => exact ⟨rfl, rfl⟩
  | _ => exact ⟨rfl, rfl⟩
/-- Whether a type has a shape; whether members have it. -/
def shB (P : Program) : SH → (TypeId → Bool) × (List Field → Nat → Bool)
  | .int k => (fun t => match P.underlying t with | some (.int k') => decide (k' = k) | _ => false, fun _ _ => false)
  | .bool => (fun t => match P.underlying t with | some .bool => true | _ => false, fun _ _ => false)
  | .str => (fun t => match P.underlying t with | some .string => true | _ => false, fun _ _ => false)
  | .nat => (fun t => match P.underlying t with | some (.slice e) => (match P.underlying e with | some (.int .u32) => P.cellsOf e == 1 | _ => false) | _ => false, fun _ _ => false)
  | .sl s => (fun t => match P.underlying t with | some (.slice e) => (shB P s).1 e && P.cellsOf e == s.sz && decide (0 < s.sz) | _ => false, fun _ _ => false)
  | .nil => (fun t => match P.underlying t with | some (.struct fs) => fs.toList.isEmpty && P.cellsOf t == 0 | _ => false, fun fs _ => fs.isEmpty)
  | .cons f r => (fun t => match P.underlying t with | some (.struct fs) => (match fs.toList with | g :: gs => g.offset == 0 && (shB P f).1 g.type && P.cellsOf g.type == f.sz && (shB P r).2 gs (0 + f.sz) | [] => false) && P.cellsOf t == f.sz + r.sz | _ => false,
      fun fs off => match fs with | g :: gs => g.offset == off && (shB P f).1 g.type && P.cellsOf g.type == f.sz && (shB P r).2 gs (off + f.sz) | [] => false)
theorem bulk_one {H : Type} (d : DataW H) : 1 ≤ Rows.uptoBulk d := by
  cases d with
  | lit l => cases l <;> simp [Rows.uptoBulk]
  | nil => simp [Rows.uptoBulk]
  | ptr d => simp [Rows.uptoBulk]
  | slice elems spare => simp [Rows.uptoBulk]
  | agg parts => simp [Rows.uptoBulk]
  | iface t d => simp [Rows.uptoBulk]
  | map entries => simp [Rows.uptoBulk]
  | held h => simp [Rows.uptoBulk]
theorem bulk_len {H : Type} (l : List (DataW H)) : l.length ≤ Rows.uptoBulkAll l := by
  induction l with
  | nil => simp [Rows.uptoBulkAll]
  | cons x r ih => have := bulk_one x; simp only [Rows.uptoBulkAll, List.length_cons]; omega
theorem bulk_mem {H : Type} {l : List (DataW H)} {x : DataW H} (h : x ∈ l) : Rows.uptoBulk x ≤ Rows.uptoBulkAll l := by
  induction l with
  | nil => simp at h
  | cons y r ih =>
    simp only [Rows.uptoBulkAll]
    rcases List.mem_cons.1 h with rfl | h
    · omega
    · have := ih h; omega
theorem cell_spot {w : World} {a : Addr} {v : Value} (h : w.cell? a = some v) : a = ⟨a.block, a.off, none⟩ := by
  obtain ⟨b, o, s⟩ := a
  cases s with
  | none => rfl
  | some q =>
    simp only [World.cell?] at h
    split at h <;> simp at h
abbrev inW (w : World) : Zone := fun b _ => b < w.heap.size
section
variable {H : Type} {enc : TypeId × Value → H} {P : Program} {w : World} {base : Nat} {spare : Nat → Bool} {held : Bool} {B : Nat}

theorem open_nat {t e : TypeId} {fuel : Nat} {cs : List Value} {x : DataW H × List MemPlace} (ht : P.underlying t = some (.slice e)) (he : P.underlying e = some (.int .u32)) (hc : P.cellsOf e = 1)
    (h : DataW.trod enc P w base spare held fuel t cs = some x) (hB : Rows.uptoBulk x.1 ≤ B) : ∃ l v, cs = [v] ∧ Dig l ∧ l.length ≤ B ∧ Rep w (inW w) (.nat l) v := by
  rcases open_ints ht he hc h with ⟨rfl, rfl⟩ | ⟨a, len, cap, zs, rfl, _, hl, hm, hz, rfl, hcell, hwf⟩
  · exact ⟨[], _, rfl, dig_nil, by simp, Rep.nat (l := []) (Rd.nil _ _) (by simp) (fun _ _ _ j hj => by simp at hj)⟩
  · have hlen : len ≤ zs.length := by rw [hz]; split <;> omega
    have hb : ∀ n ∈ zs, 0 ≤ n ∧ n < 4294967296 := fun n hn => by
      have := hwf n hn
      simp [Lit.wf, IntKind.min, IntKind.max, IntKind.signed, IntKind.bits] at this
      omega
    have hl2 : ((zs.take len).map Int.toNat).length = len := by simp; omega
    have hd : Dig ((zs.take len).map Int.toNat) := by
      intro y hy
      obtain ⟨n, hn, rfl⟩ := List.mem_map.1 hy
      have := hb n (List.mem_of_mem_take hn)
      omega
    have hR : Rd w (some a) ((zs.take len).map Int.toNat) := ⟨hd, fun hpos => by
      have h0 := hcell 0 (by omega)
      rw [show a.add 0 = a by simp [Addr.add]] at h0
      have ha := cell_spot h0
      refine ⟨a.block, a.off, by rw [← ha], World.block_lt_of_cell? w a h0, fun j hj => ?_⟩
      have hj2 : j < zs.length := by omega
      have := hcell j hj2
      rw [ha, add_addr] at this
      rw [this]
      simp only [List.getElem_map, List.getElem_take]
      have hb2 := hb zs[j] (List.getElem_mem hj2)
      rw [Int.toNat_of_nonneg hb2.1]
      simp [List.getD, List.getElem?_eq_getElem hj2]⟩
    refine ⟨(zs.take len).map Int.toNat, .slice (some a) ((zs.take len).map Int.toNat).length cap, by rw [hl2], hd, ?_, .nat hR (by omega) ?_⟩
    · rw [hl2]
      simp only [Rows.uptoBulk] at hB
      have h1 := bulk_len (lits (H := H) .u32 (zs.take len))
      have : (lits (H := H) .u32 (zs.take len)).length = len := by simp [lits]; omega
      omega
    · intro b off e j hj
      obtain ⟨b', off', e', hb', _⟩ := hR.2 (by omega)
      rw [e] at e'
      cases e'
      exact hb'
/-- Cells that stand for abstract ones. -/
def Stand (w : World) (as' : List AV) (cs : List Value) : Prop := as'.length = cs.length ∧ ∀ j (h1 : j < as'.length) (h2 : j < cs.length), Rep w (inW w) (as'[j]'h1) (cs[j]'h2)
theorem Stand.one {a : AV} {v : Value} (h : Rep w (inW w) a v) : Stand w [a] [v] := ⟨rfl, fun j h1 h2 => by
  have : j = 0 := by simp at h1; exact h1
  subst this
  exact h⟩
theorem add_cell {a : Addr} {i j : Nat} : (a.add i).add j = a.add (i + j) := Go.Deep.add_add a i j
theorem open_sl {s : SH} {t e : TypeId} {fuel : Nat} {cs : List Value} {x : DataW H × List MemPlace} (ht : P.underlying t = some (.slice e)) (hc : P.cellsOf e = s.sz) (hs : 0 < s.sz)
    (ih : ∀ {n : Nat} {cs' : List Value} {y : DataW H × List MemPlace}, DataW.trod enc P w base spare held n e cs' = some y → Rows.uptoBulk y.1 ≤ B → ∃ as', Ok B s as' ∧ Stand w as' cs')
    (h : DataW.trod enc P w base spare held fuel t cs = some x) (hB : Rows.uptoBulk x.1 ≤ B) : ∃ as', Ok B (.sl s) as' ∧ Stand w as' cs := by
  rcases Go.Deep.open_slice ht h with ⟨rfl, rfl⟩ | ⟨a, len, cap, m, n, D, Pl, rfl, hb, hl, hm, hmm, rfl, hx⟩
  · exact ⟨_, .sl (xs := []) (by simp) (fun x hx => by simp at hx), Stand.one .nil⟩
  have hlm : len ≤ m := by rw [hmm]; split <;> omega
  simp only [Rows.uptoBulk] at hB
  have h1 := bulk_len ((List.range len).map D)
  have h2 : ((List.range len).map D).length = len := by simp
  have hel : ∀ i, i < len → ∃ as', Ok B s as' ∧ ∃ cs', w.cells? base (a.add (i * s.sz)) s.sz = some cs' ∧ Stand w as' cs' := fun i hi => by
    obtain ⟨cs', k1, k2⟩ := hx i (by omega)
    rw [hc] at k1
    have k3 : Rows.uptoBulk (D i) ≤ Rows.uptoBulkAll ((List.range len).map D) := bulk_mem (List.mem_map.2 ⟨i, List.mem_range.2 hi, rfl⟩)
    obtain ⟨as', o1, o2⟩ := ih k2 (show Rows.uptoBulk (D i) ≤ B by omega)
    exact ⟨as', o1, cs', k1, o2⟩
  let A : Nat → List AV := fun i => if h : i < len then Classical.choose (hel i h) else []
  have hA : ∀ i (hi : i < len), Ok B s (A i) ∧ ∃ cs', w.cells? base (a.add (i * s.sz)) s.sz = some cs' ∧ Stand w (A i) cs' := fun i hi => by
    have := Classical.choose_spec (hel i hi)
    simp only [A, dif_pos hi]
    exact this
  let V : Nat → List Value := fun i => (w.cells? base (a.add (i * s.sz)) s.sz).getD []
  have hV : ∀ i (hi : i < len), w.cells? base (a.add (i * s.sz)) s.sz = some (V i) ∧ Stand w (A i) (V i) := fun i hi => by
    obtain ⟨_, cs', k1, k2⟩ := hA i hi
    simp only [V, k1, Option.getD_some]
    exact ⟨trivial, k2⟩
  have hcl : ∀ i (hi : i < len) j (hj : j < s.sz), ∃ hv : j < (V i).length, w.cell? (a.add (i * s.sz + j)) = some ((V i)[j]'hv) := fun i hi j hj => by
    obtain ⟨_, k2, k3⟩ := World.cells?_some (hV i hi).1
    refine ⟨by omega, ?_⟩
    rw [← add_cell, k3 j hj, List.getElem?_eq_getElem]
  have hE : ∀ i (hi : i < len), (mkEl s.sz (A i)).cells = A i := fun i hi => mkEl_cells hs (hA i hi).1.facts.1 (hA i hi).1.facts.2
  have hmm' : ((List.range len).map A).map (mkEl s.sz) = (List.range len).map fun i => mkEl s.sz (A i) := by rw [List.map_map]; rfl
  refine ⟨_, .sl (xs := (List.range len).map A) (by simp; omega) (fun x hx => ?_), Stand.one ?_⟩
  · obtain ⟨i, hi, rfl⟩ := List.mem_map.1 hx
    exact (hA i (List.mem_range.1 hi)).1
  · rw [hmm']
    by_cases h0 : len = 0
    · subst h0
      exact .nil
    · obtain ⟨_, hc0⟩ := hcl 0 (by omega) 0 hs
      have hadd0 : a.add (0 * s.sz + 0) = a := by simp [Addr.add]
      rw [hadd0] at hc0
      have ha := cell_spot hc0
      have hlt := World.block_lt_of_cell? w a hc0
      have key : Rep w (inW w) (.sl s.sz ((List.range len).map fun i => mkEl s.sz (A i))) (.slice (some ⟨a.block, a.off, none⟩) ((List.range len).map fun i => mkEl s.sz (A i)).length cap) := by
        refine .sl (fun i j => (V i).getD j undef) hlt (by simp; exact hl) (fun i hi => ?_) (fun i j hi hj => ?_) (fun i hi j hj => ?_)
        · simp only [List.length_map, List.length_range] at hi
          simp only [List.getElem_map, List.getElem_range, hE i hi]
          exact (hA i hi).1.facts.1
        · simp only [List.length_map, List.length_range] at hi
          obtain ⟨q1, q2⟩ := hcl i hi j hj
          rw [ha, add_addr] at q2
          refine ⟨?_, hlt⟩
          rw [Nat.add_assoc, q2]
          simp [List.getD, List.getElem?_eq_getElem q1]
        · simp only [List.length_map, List.length_range] at hi
          have e0 : ((List.range len).map fun i => mkEl s.sz (A i))[i]'(by simpa using hi) = mkEl s.sz (A i) := by simp
          have hj' : j < (A i).length := by
            rw [← hE i hi]
            simpa [e0] using hj
          obtain ⟨q1, q2⟩ := hcl i hi j (by rw [← (hA i hi).1.facts.1]; exact hj')
          have := (hV i hi).2.2 j hj' q1
          have e1 : (V i).getD j undef = (V i)[j] := by simp [List.getD, List.getElem?_eq_getElem q1]
          rw [e1]
          have e2 : (((List.range len).map fun i => mkEl s.sz (A i))[i]'(by simpa using hi)).cells[j]'hj = (A i)[j] := by simp only [e0, hE i hi]
          rw [e2]
          exact this
      rw [ha]
      simpa using key
end
end Go.Proofs.YtkmicjpoekbhfaaGreatDoor

/- The opener of arguments; from a contract to a row's end. -/
set_option linter.unusedSimpArgs false
set_option linter.unusedVariables false
namespace Go.Proofs.YtkmicjpoekbhfaaGreatDoor
open Go.ChangeShapes Go.WideShapes Go.ChangeAt Go.RowKit Lim

section
variable {H : Type} {enc : TypeId × Value → H} {P : Program} {w : World} {base : Nat} {spare : Nat → Bool} {held : Bool} {B : Nat}

theorem Stand.app {as' bs' : List AV} {cs ds : List Value} (h1 : Stand w as' cs) (h2 : Stand w bs' ds) : Stand w (as' ++ bs') (cs ++ ds) := by
  refine ⟨by rw [List.length_append, List.length_append, h1.1, h2.1], fun j k1 k2 => ?_⟩
  by_cases hj : j < as'.length
  · rw [List.getElem_append_left hj, List.getElem_append_left (by rw [← h1.1]; exact hj)]
    exact h1.2 j hj _
  · have e : cs.length = as'.length := h1.1.symm
    rw [List.getElem_append_right (by omega), List.getElem_append_right (by omega)]
    have := h2.2 (j - as'.length) (by simp at k1; omega) (by simp at k2; omega)
    simpa [e] using this
/-- Members, from an offset on. -/
def OpenF (enc : TypeId × Value → H) (P : Program) (w : World) (base : Nat) (spare : Nat → Bool) (held : Bool) (B : Nat) (s : SH) : Prop :=
  ∀ (fs : List Field) (off n : Nat) (cs : List Value) (xs : List (DataW H × List MemPlace)), (shB P s).2 fs off = true → off + s.sz ≤ cs.length →
    (∀ (i : Nat) (f : Field), fs[i]? = some f → DataW.trod enc P w base spare held n f.type ((cs.drop f.offset).take (P.cellsOf f.type)) = xs[i]?) → xs.length = fs.length →
    Rows.uptoBulkAll (xs.map (·.1)) ≤ B → ∃ as', Ok B s as' ∧ Stand w as' ((cs.drop off).take s.sz)
def OpenT (enc : TypeId × Value → H) (P : Program) (w : World) (base : Nat) (spare : Nat → Bool) (held : Bool) (B : Nat) (s : SH) : Prop :=
  ∀ (t : TypeId) (n : Nat) (cs : List Value) (x : DataW H × List MemPlace), (shB P s).1 t = true → DataW.trod enc P w base spare held n t cs = some x → Rows.uptoBulk x.1 ≤ B → ∃ as', Ok B s as' ∧ Stand w as' cs
theorem openT_struct {s : SH} (hF : OpenF enc P w base spare held B s) {t : TypeId} {fs : Array Field} (hu : P.underlying t = some (.struct fs)) (hs : (shB P s).2 fs.toList 0 = true) (hc : P.cellsOf t = s.sz)
    {n : Nat} {cs : List Value} {x : DataW H × List MemPlace} (h : DataW.trod enc P w base spare held n t cs = some x) (hB : Rows.uptoBulk x.1 ≤ B) : ∃ as', Ok B s as' ∧ Stand w as' cs := by
  obtain ⟨xs, n, rfl, rfl, hl, hx, hf⟩ := DataW.trod_struct hu h
  rw [hc] at hl
  simp only [Rows.uptoBulk] at hB
  obtain ⟨as', h1, h2⟩ := hF fs.toList 0 n cs xs hs (by omega) (fun i f hi => hf i f (by simpa using hi)) (by simpa using hx) (by omega)
  rw [List.drop_zero, List.take_of_length_le (by omega)] at h2
  exact ⟨as', h1, h2⟩
theorem open_sh : ∀ s : SH, OpenT enc P w base spare held B s ∧ OpenF enc P w base spare held B s
  | .int k => ⟨fun t n cs x hs h hB => by
      simp only [shB] at hs
      split at hs
      · rename_i k' hu
        have hs := of_decide_eq_true hs
        subst hs
        obtain ⟨z, rfl, rfl, hw⟩ := DataW.trod_int hu h
        refine ⟨_, .int (z := z) ?_, Stand.one (.lit rfl)⟩
        simpa [Lit.wf] using hw
      · exact Bool.noConfusion hs, fun fs off n cs xs hs => by simp [shB] at hs⟩
  | .bool => ⟨fun t n cs x hs h hB => by
      simp only [shB] at hs
      split at hs
      · rename_i hu
        obtain ⟨b, rfl, rfl⟩ := DataW.trod_bool hu h
        exact ⟨_, .bool (b := b), Stand.one (.lit rfl)⟩
      · exact Bool.noConfusion hs, fun fs off n cs xs hs => by simp [shB] at hs⟩
  | .str => ⟨fun t n cs x hs h hB => by
      simp only [shB] at hs
      split at hs
      · rename_i hu
        obtain ⟨b, rfl, rfl, _⟩ := DataW.trod_string hu h
        simp only [Rows.uptoBulk] at hB
        refine ⟨_, .str (l := b.data.toList) (by omega), Stand.one ?_⟩
        have e : bs b.data.toList = b := by cases b; simp [bs]
        show Rep w _ (.lit (.string (bs b.data.toList))) (.string b)
        rw [e]
        exact .lit rfl
      · exact Bool.noConfusion hs, fun fs off n cs xs hs => by simp [shB] at hs⟩
  | .nat => ⟨fun t n cs x hs h hB => by
      simp only [shB] at hs
      split at hs
      · rename_i e hu
        split at hs
        · rename_i he
          obtain ⟨l, v, rfl, h1, h2, h3⟩ := open_nat hu he (by simpa using hs) h hB
          exact ⟨_, .nat h1 h2, Stand.one h3⟩
        · cases hs
      · exact Bool.noConfusion hs, fun fs off n cs xs hs => by simp [shB] at hs⟩
  | .sl s => ⟨fun t n cs x hs h hB => by
      simp only [shB] at hs
      split at hs
      · rename_i e hu
        simp only [Bool.and_eq_true, beq_iff_eq, decide_eq_true_eq] at hs
        exact open_sl hu hs.1.2 hs.2 (fun hy hb => (open_sh s).1 e _ _ _ hs.1.1 hy hb) h hB
      · exact Bool.noConfusion hs, fun fs off n cs xs hs => by simp [shB] at hs⟩
  | .nil => by
    have hF : OpenF enc P w base spare held B .nil := fun fs off n cs xs hs hl hf hx hb => ⟨[], .nil, by simp [SH.sz], fun j h1 h2 => by simp at h1⟩
    refine ⟨fun t n cs x hs h hB => ?_, hF⟩
    simp only [shB] at hs
    split at hs
    · rename_i fs hu
      simp only [Bool.and_eq_true, beq_iff_eq] at hs
      exact openT_struct hF hu hs.1 hs.2 h hB
    · cases hs
  | .cons f r => by
    have hF : OpenF enc P w base spare held B (.cons f r) := fun fs off n cs xs hs hl hf hx hb => by
      cases fs with
      | nil => simp [shB] at hs
      | cons g gs =>
        simp only [shB, Bool.and_eq_true, beq_iff_eq] at hs
        obtain ⟨⟨⟨ho, hg⟩, hc⟩, hr⟩ := hs
        cases xs with
        | nil => simp at hx
        | cons x xs =>
          simp only [List.map_cons, Rows.uptoBulkAll] at hb
          simp only [SH.sz] at hl
          have h0 := hf 0 g rfl
          rw [ho, hc] at h0
          obtain ⟨as1, k1, k2⟩ := (open_sh f).1 g.type n _ x hg h0 (by omega)
          obtain ⟨as2, k3, k4⟩ := (open_sh r).2 gs (off + f.sz) n cs xs hr (by omega) (fun i q hi => hf (i + 1) q (by simpa using hi)) (by simpa using hx) (by omega)
          refine ⟨as1 ++ as2, .cons k1 k3, ?_⟩
          have e : (cs.drop off).take (f.sz + r.sz) = (cs.drop off).take f.sz ++ (cs.drop (off + f.sz)).take r.sz := by
            rw [List.take_add, List.drop_drop]
          show Stand w _ ((cs.drop off).take (f.sz + r.sz))
          rw [e]
          exact k2.app k4
    refine ⟨fun t n cs x hs h hB => ?_, hF⟩
    simp only [shB] at hs
    split at hs
    · rename_i fs hu
      simp only [Bool.and_eq_true, beq_iff_eq] at hs
      exact openT_struct hF hu hs.1 hs.2 h hB
    · cases hs
/-- What a value of a shape reads as. -/
def SH.top : SH → List AV → AV
  | .nil, cs => .agg cs
  | .cons _ _, cs => .agg cs
  | _, cs => cs.headD (.agg [])
/-- A value whose cells stand for abstract ones. -/
theorem stand_top {s : SH} {t : TypeId} {v : Value} {as' : List AV} {r : Reach} (hs : (shB P s).1 t = true) (ho : Ok B s as') (h : Stand w as' v.cells.toList) (hv : Value.okWide P w r base t v) : Rep w (inW w) (s.top as') v := by
  have one : ∀ {a : AV}, as' = [a] → v.cells.toList = [v] → Rep w (inW w) a v := fun {a} e1 e2 => by
    subst e1
    rw [e2] at h
    exact h.2 0 (by simp) (by simp)
  have agg : (∃ cs, v = .agg cs) → Rep w (inW w) (.agg as') v := fun ⟨cs, e⟩ => by
    subst e
    have h' : Stand w as' cs.toList := h
    exact .agg (by have := h'.1; simp at this; omega) fun j hj => by
      have := h'.2 j hj (by have := h'.1; simp at this ⊢; omega)
      simpa using this
  cases ho with
  | int hh =>
    simp only [shB] at hs
    split at hs
    · rename_i hu
      obtain ⟨n, rfl⟩ := okWide_int hu hv
      exact one rfl rfl
    · cases hs
  | bool =>
    simp only [shB] at hs
    split at hs
    · rename_i hu
      obtain ⟨n, rfl⟩ := okWide_bool hu hv
      exact one rfl rfl
    · cases hs
  | str hh =>
    simp only [shB] at hs
    split at hs
    · rename_i hu
      obtain ⟨n, rfl⟩ := okWide_string hu hv
      exact one rfl rfl
    · cases hs
  | nat h1 h2 =>
    simp only [shB] at hs
    split at hs
    · rename_i hu
      obtain ⟨a, n, c, rfl⟩ := okWide_slice hu hv
      exact one rfl rfl
    · cases hs
  | sl h1 h2 =>
    simp only [shB] at hs
    split at hs
    · rename_i hu
      obtain ⟨a, n, c, rfl⟩ := okWide_slice hu hv
      exact one rfl rfl
    · cases hs
  | nil =>
    simp only [shB] at hs
    split at hs
    · rename_i hu
      obtain ⟨cs, e, _⟩ := okWide_struct hu hv
      exact agg ⟨cs, e⟩
    · cases hs
  | cons h1 h2 =>
    simp only [shB] at hs
    split at hs
    · rename_i hu
      obtain ⟨cs, e, _⟩ := okWide_struct hu hv
      exact agg ⟨cs, e⟩
    · cases hs
/-- Arguments of shapes. -/
inductive OkA (B : Nat) : List SH → List AV → Prop
  | nil : OkA B [] []
  | cons {s : SH} {ss : List SH} {cs : List AV} {as' : List AV} (h1 : Ok B s cs) (h2 : OkA B ss as') : OkA B (s :: ss) (s.top cs :: as')
def shAll (P : Program) : List SH → List TypeId → Bool
  | [], [] => true
  | s :: ss, t :: ts => (shB P s).1 t && shAll P ss ts
  | _, _ => false
theorem args_open : ∀ (ss : List SH) (ts : List TypeId) (vs : List Value) (ds : List (DataW H)) (p : List MemPlace) (r : Reach) (b : Nat), shAll P ss ts = true → DataW.TrodAll enc P w base spare held ts vs ds p →
    (∀ (j : Nat) (t : TypeId) (v : Value), ts[j]? = some t → vs[j]? = some v → Value.okWide P w r b t v) → Rows.uptoBulkAll ds ≤ B → ∃ as', OkA B ss as' ∧ Stand w as' vs
  | [], [], vs, ds, p, r, b, _, h, _, _ => by
    obtain ⟨rfl, rfl, rfl⟩ := trodAll_nil h
    exact ⟨[], .nil, rfl, fun j h1 => by simp at h1⟩
  | [], t :: ts, _, _, _, _, _, hs, _, _, _ => by simp [shAll] at hs
  | s :: ss, [], _, _, _, _, _, hs, _, _, _ => by simp [shAll] at hs
  | s :: ss, t :: ts, vs, ds, p, r, b, hs, h, hv, hB => by
    obtain ⟨v, vs1, d, ds1, p1, p2, rfl, rfl, rfl, ⟨n, h1⟩, h2⟩ := trodAll_cons h
    simp only [shAll, Bool.and_eq_true] at hs
    simp only [Rows.uptoBulkAll] at hB
    obtain ⟨cs, k1, k2⟩ := (open_sh s).1 t n _ _ hs.1 h1 (show Rows.uptoBulk d ≤ B by omega)
    obtain ⟨as', k3, k4⟩ := args_open ss ts vs1 ds1 p2 r b hs.2 h2 (fun j t v ht hv' => hv (j + 1) t v (by simpa using ht) (by simpa using hv')) (by omega)
    have hr := stand_top hs.1 k1 k2 (hv 0 t v rfl rfl)
    exact ⟨_, .cons k1 k3, (Stand.one hr).app k4⟩
theorem stand_args {as' : List AV} {args : Array Value} (h : Stand w as' args.toList) : Rep w (inW w) (.agg as') (.agg args) :=
  .agg (by have := h.1; simp at this; omega) fun j hj => by
    have := h.2 j hj (by have := h.1; simp at this ⊢; omega)
    simpa using this
end
section
variable {H : Type} {enc : TypeId × Value → H} {P : Program}
theorem stay_all (hl : laidOutB P = true) {W W' : World} (hb : Below W.heap.size W W') : ∀ (ts : List TypeId) (vs : List Value) (ds : List (DataW H)) (p : List MemPlace), ts.all (fun t => P.readableRec t && decide (t < P.types.size)) = true →
    DataW.TrodAll enc P W 0 (fun _ => true) true ts vs ds p → (∀ x ∈ p, x.block < W.heap.size) → ∀ sp : Nat → Bool, (∀ q ∈ p, sp q.block = true) → DataW.TrodAll enc P W' 0 sp true ts vs ds p
  | [], vs, ds, p, _, h, _, sp, _ => by
    obtain ⟨rfl, rfl, rfl⟩ := trodAll_nil h
    exact trodAll_mk0
  | t :: ts, vs, ds, p, ht, h, hlt, sp, hsp => by
    obtain ⟨v, vs1, d, ds1, a, b, rfl, rfl, rfl, h1, h2⟩ := trodAll_cons h
    simp only [List.all_cons, Bool.and_eq_true, decide_eq_true_eq] at ht
    refine trodAll_cons_mk (WideElems.Trod_stays hl ht.1.1 ht.1.2 h1 (fun x hx => hb.same (hlt x (List.mem_append_left _ hx))) (fun x hx => hsp x (List.mem_append_left _ hx))) ?_
    exact stay_all hl hb ts vs1 ds1 b (by simpa using ht.2) h2 (fun x hx => hlt x (List.mem_append_right _ hx)) sp (fun x hx => hsp x (List.mem_append_right _ hx))
/-- A law's contract gives the row's end. -/
theorem law_end (hl : laidOutB P = true) {tb : TypeId} (hu : P.underlying tb = some .bool) {fid : FuncId} {fn : Func} {s : ChangeSpec} {apart : Bool} (hv : s.vars = []) (hres : fn.resultTypes = #[tb]) (hts : fn.params.toList.all (fun t => P.readableRec t && decide (t < P.types.size)) = true)
    {W : World} {args : Array Value} {ds : List (DataW H)} {before : List MemPlace} (hW : DataW.Whole enc P fn.params.toList s.vars apart W args.toList ds [] before)
    (hfn : s.fn H (ds ++ []) = { results := [.lit (.bool true)], args := ds }) (hc : Calls P fid args W fun e W' => e = .returned (.bool true) ∧ Below W.heap.size W W') :
    Calls P fid args W fun e W' => ∃ v, e = .returned v ∧ s.post enc P fn apart true false false W args v W' := by
  have hW' := hW
  obtain ⟨p, q, hA, hV, rfl, hfz, hnd⟩ := hW
  rw [hv] at hV
  obtain ⟨_, rfl⟩ := trodVars_none hV
  refine hc.mono fun e W' ⟨he, hb⟩ => ⟨.bool true, he, ?_⟩
  have hlt : ∀ x ∈ p, x.block < W.heap.size := fun x hx => hW'.lt x (List.mem_append_left _ hx)
  have hl2 : ∀ x ∈ p ++ [], x.block < W.heap.size := fun x hx => hW'.lt x hx
  have hA2 : ∀ sp : Nat → Bool, (∀ x ∈ p, sp x.block = true) → DataW.TrodAll enc P W' 0 sp true fn.params.toList args.toList (s.fn H (ds ++ [])).args p := fun sp h => by
    rw [hfn]
    exact stay_all hl hb _ _ _ _ hts hA hlt sp h
  have hR2 : ∀ b sp hd, DataW.TrodAll enc P W' b sp hd fn.resultTypes.toList ((Value.bool true).resultList fn.resultTypes.size) (s.fn H (ds ++ [])).results [] := fun b sp hd => by
    rw [hfn, hres]
    exact trodAll_cons_mk (shut_bool hu _) trodAll_mk0
  have hV2 : ∀ sp, DataW.TrodVars enc P W' sp s.vars (s.fn H (ds ++ [])).vars [] := fun sp => by
    rw [hfn, hv]
    rfl
  refine ⟨ds, [], p ++ [], [], p, [], hW', hR2 _ _ _, hA2 _ (fun x hx => by simpa using hlt x hx), hV2 _, World.keptBut_mono (fun x hx => ⟨hx, .inr (List.mem_append.1 hx)⟩) (hb.frame (· ∈ p ++ [])), fun _ =>
    ⟨ok_one hres rfl (okWide_bool_mk hu _), _, _, ([] ++ p) ++ [], ⟨[] ++ p, [], trodAll_append (hA2 _ fun _ _ => rfl) (hR2 _ _ _), hV2 _, rfl, fun b off hx => ?_, fun h => by simpa using hnd h⟩, fun x hx _ => by simpa using hx⟩⟩
  have hx2 : MemPlace.cell b off ∈ p ++ [] := by simpa using hx
  rw [hb.frozen (hl2 _ hx2)]
  exact hfz b off hx2
end
theorem ac_calls {fid : FuncId} {avs : List AV} {W : World} {args : Array Value} (hc : AC fid avs (boo true)) (hE : Env W) (hR : Rep W (inW W) (.agg avs) (.agg args)) :
    Calls Tryz.prog fid args W fun e W' => e = .returned (.bool true) ∧ Below W.heap.size W W' := by
  refine (hc.2 W _ args hE (fun _ _ h => h) (fun _ b o v h _ => World.block_lt_of_cell? W _ h) hR).mono fun e W' ⟨v, he, hb, hr⟩ => ⟨?_, hb⟩
  cases hr
  exact he
set_option maxRecDepth 100000 in
/-- A law that holds for all arguments of its shapes. -/
theorem law_row {H : Type} {enc : TypeId × Value → H} (hl : laidOutB Tryz.prog = true) {tb : TypeId} (hu : Tryz.prog.underlying tb = some .bool) {fid : FuncId} {fn : Func} {s : ChangeSpec} (hv : s.vars = []) (hres : fn.resultTypes = #[tb]) (hts : fn.params.toList.all (fun t => Tryz.prog.readableRec t && decide (t < Tryz.prog.types.size)) = true)
    (ss : List SH) (hss : shAll Tryz.prog ss fn.params.toList = true) (hfn : ∀ ds : List (DataW H), ds.length = fn.params.toList.length → s.fn H (ds ++ []) = { results := [.lit (.bool true)], args := ds })
    (law : ∀ as', OkA 1048576 ss as' → AC fid as' (boo true))
    {W : World} {base : Nat} {args : Array Value} {ds gs : List (DataW H)} {before : List MemPlace} (hval : ∀ (j : Nat) t v, fn.params[j]? = some t → args[j]? = some v → Value.okWide Tryz.prog W .any base t v)
    (hW : DataW.Whole enc Tryz.prog fn.params.toList s.vars false W args.toList ds gs before) (hE : Env W) (hsm : Rows.uptoSmall H (ds ++ gs) = true) :
    Calls Tryz.prog fid args W fun e W' => ∃ v, e = .returned v ∧ s.post enc Tryz.prog fn false true false false W args v W' := by
  have hW' := hW
  obtain ⟨p, q, hA, hV, rfl, hfz, hnd⟩ := hW
  rw [hv] at hV
  obtain ⟨rfl, rfl⟩ := trodVars_none hV
  simp only [Rows.uptoSmall, List.append_nil, decide_eq_true_eq] at hsm
  obtain ⟨as', k1, k2⟩ := args_open ss _ _ _ _ .any base hss hA (fun j t v ht hv' => hval j t v (by simpa using ht) (by simpa using hv')) hsm
  have hlen : ds.length = fn.params.toList.length := by
    have : ∀ (ts : List TypeId) (vs : List Value) (ds : List (DataW H)) (p : List MemPlace), DataW.TrodAll enc Tryz.prog W 0 (fun _ => true) true ts vs ds p → ds.length = ts.length := by
      intro ts
      induction ts with
      | nil => intro vs ds p h; obtain ⟨rfl, rfl, rfl⟩ := trodAll_nil h; rfl
      | cons t ts ih =>
        intro vs ds p h
        obtain ⟨v, vs1, d, ds1, p1, p2, rfl, rfl, rfl, _, h2⟩ := trodAll_cons h
        rw [List.length_cons, List.length_cons, ih _ _ _ h2]
    exact this _ _ _ _ hA
  exact law_end hl hu hv hres hts hW' (hfn ds hlen) (ac_calls (law as' k1) hE (stand_args k2))
end Go.Proofs.YtkmicjpoekbhfaaGreatDoor

/- Chapter 40: items and answers as arguments. -/
set_option linter.unusedSimpArgs false
set_option linter.unusedVariables false
namespace Go.Proofs.YtkmicjpoekbhfaaGreatDoor
open Go.RowKit Lim

section
variable {B : Nat} {cs : List AV}
theorem Ok.pair {f r : SH} (h : Ok B (.cons f r) cs) : ∃ a b, cs = a ++ b ∧ Ok B f a ∧ Ok B r b := by
  cases h with | cons h1 h2 => exact ⟨_, _, rfl, h1, h2⟩
theorem Ok.done (h : Ok B .nil cs) : cs = [] := by cases h; rfl
theorem Ok.i64 (h : Ok B (.int .i64) cs) : ∃ z : Int, cs = [Go.Proofs.YtkmicjpoekbhfaaGreatDoor.i64 z] ∧ inI z := by
  cases h with | int h => exact ⟨_, rfl, h⟩
theorem Ok.boo (h : Ok B .bool cs) : ∃ b : Bool, cs = [Go.Proofs.YtkmicjpoekbhfaaGreatDoor.boo b] := by cases h; exact ⟨_, rfl⟩
theorem Ok.s (h : Ok B .str cs) : ∃ l : List UInt8, cs = [Go.Proofs.YtkmicjpoekbhfaaGreatDoor.str l] ∧ l.length ≤ B := by cases h; exact ⟨_, rfl, by assumption⟩
theorem Ok.row {e : SH} (h : Ok B (.sl e) cs) : ∃ xs : List (List AV), cs = [.sl e.sz (xs.map (mkEl e.sz))] ∧ xs.length ≤ B ∧ ∀ x, x ∈ xs → Ok B e x := by
  cases h; exact ⟨_, rfl, by assumption, by assumption⟩
theorem map_of {α β : Type} {f : α → β} {Q : α → Prop} : ∀ (xs : List β), (∀ x, x ∈ xs → ∃ r, x = f r ∧ Q r) → ∃ rs : List α, xs = rs.map f ∧ ∀ r ∈ rs, Q r
  | [], _ => ⟨[], rfl, fun r hr => by simp at hr⟩
  | x :: xs, h => by
    obtain ⟨r, rfl, hr⟩ := h x (by simp)
    obtain ⟨rs, rfl, hrs⟩ := map_of xs (fun y hy => h y (by simp [hy]))
    exact ⟨r :: rs, rfl, fun q hq => by
      rcases List.mem_cons.1 hq with rfl | hq
      · exact hr
      · exact hrs q hq⟩
/-- Elements of a shape, each read as a value. -/
theorem Ok.list {e : SH} {α : Type} {f : α → List AV} {Q : α → Prop} (h : Ok B (.sl e) cs) (he : ∀ x, Ok B e x → ∃ r, x = f r ∧ Q r) : ∃ rs : List α, cs = [.sl e.sz (rs.map fun r => mkEl e.sz (f r))] ∧ rs.length ≤ B ∧ ∀ r ∈ rs, Q r := by
  obtain ⟨xs, rfl, h1, h2⟩ := h.row
  obtain ⟨rs, rfl, h3⟩ := map_of xs (fun x hx => he x (h2 x hx))
  refine ⟨rs, ?_, by simpa using h1, h3⟩
  rw [List.map_map]
  rfl
abbrev shI : SH := .int .i64
abbrev shItem : SH := .cons shI (.cons shI (.cons shI (.cons .str (.cons (.sl .str) (.cons (.sl shI) (.cons shI (.cons shI (.cons (.sl .str) (.cons shI (.cons .str (.cons shI (.cons shI (.cons shI (.cons shI (.cons (.sl shI) (.cons shI .nil))))))))))))))))
abbrev shAns : SH := .cons shI (.cons (.sl shI) (.cons shI (.cons .str (.cons .bool .nil))))
theorem Ok.ints (h : Ok B (.sl shI) cs) : ∃ l : List Int, cs = [Go.Proofs.YtkmicjpoekbhfaaGreatDoor.ints l] ∧ l.length ≤ B ∧ ∀ z ∈ l, inI z := by
  obtain ⟨l, rfl, h1, h2⟩ := h.list (f := fun z : Int => [Go.Proofs.YtkmicjpoekbhfaaGreatDoor.i64 z]) (Q := inI) (fun x hx => hx.i64)
  exact ⟨l, rfl, h1, h2⟩
theorem Ok.strs (h : Ok B (.sl .str) cs) : ∃ l : List (List UInt8), cs = [Go.Proofs.YtkmicjpoekbhfaaGreatDoor.strs l] ∧ l.length ≤ B ∧ ∀ z ∈ l, z.length ≤ B := by
  obtain ⟨l, rfl, h1, h2⟩ := h.list (f := fun z : List UInt8 => [Go.Proofs.YtkmicjpoekbhfaaGreatDoor.str z]) (Q := fun z => z.length ≤ B) (fun x hx => hx.s)
  exact ⟨l, rfl, h1, h2⟩
theorem Ok.ans (h : Ok B shAns cs) (hB : B ≤ 1048576) : ∃ a : AnsV, cs = ansC a ∧ ANOK a ∧ a.ch.length ≤ B ∧ a.text.length ≤ B := by
  obtain ⟨a, b, rfl, h1, h2⟩ := h.pair
  obtain ⟨c, d, rfl, h3, h4⟩ := h2.pair
  obtain ⟨e, f, rfl, h5, h6⟩ := h4.pair
  obtain ⟨g, i, rfl, h7, h8⟩ := h6.pair
  obtain ⟨j, k, rfl, h9, h10⟩ := h8.pair
  obtain ⟨z1, rfl, _⟩ := h1.i64
  obtain ⟨l, rfl, l1, l2⟩ := h3.ints
  obtain ⟨z2, rfl, v2⟩ := h5.i64
  obtain ⟨t, rfl, t1⟩ := h7.s
  obtain ⟨o, rfl⟩ := h9.boo
  rw [h10.done]
  exact ⟨⟨z1, l, z2, t, o⟩, rfl, ⟨by show l.length ≤ _; omega, l2, by show t.length ≤ _; omega, v2⟩, l1, t1⟩
theorem Ok.item (h : Ok B shItem cs) (hB : B ≤ 1048576) : ∃ it : ItV, cs = itC it ∧ IOK it := by
  obtain ⟨c1, r1, rfl, h1, q1⟩ := h.pair
  obtain ⟨c2, r2, rfl, h2, q2⟩ := q1.pair
  obtain ⟨c3, r3, rfl, h3, q3⟩ := q2.pair
  obtain ⟨c4, r4, rfl, h4, q4⟩ := q3.pair
  obtain ⟨c5, r5, rfl, h5, q5⟩ := q4.pair
  obtain ⟨c6, r6, rfl, h6, q6⟩ := q5.pair
  obtain ⟨c7, r7, rfl, h7, q7⟩ := q6.pair
  obtain ⟨c8, r8, rfl, h8, q8⟩ := q7.pair
  obtain ⟨c9, r9, rfl, h9, q9⟩ := q8.pair
  obtain ⟨c10, r10, rfl, h10, q10⟩ := q9.pair
  obtain ⟨c11, r11, rfl, h11, q11⟩ := q10.pair
  obtain ⟨c12, r12, rfl, h12, q12⟩ := q11.pair
  obtain ⟨c13, r13, rfl, h13, q13⟩ := q12.pair
  obtain ⟨c14, r14, rfl, h14, q14⟩ := q13.pair
  obtain ⟨c15, r15, rfl, h15, q15⟩ := q14.pair
  obtain ⟨c16, r16, rfl, h16, q16⟩ := q15.pair
  obtain ⟨c17, r17, rfl, h17, q17⟩ := q16.pair
  obtain ⟨id, rfl, v1⟩ := h1.i64
  obtain ⟨ver, rfl, v2⟩ := h2.i64
  obtain ⟨kind, rfl, v3⟩ := h3.i64
  obtain ⟨stem, rfl, v4⟩ := h4.s
  obtain ⟨opts, rfl, v5, v5'⟩ := h5.strs
  obtain ⟨key, rfl, v6, v6'⟩ := h6.ints
  obtain ⟨val, rfl, v7⟩ := h7.i64
  obtain ⟨tol, rfl, v8⟩ := h8.i64
  obtain ⟨texts, rfl, v9, v9'⟩ := h9.strs
  obtain ⟨pts, rfl, v10⟩ := h10.i64
  obtain ⟨content, rfl, v11⟩ := h11.s
  obtain ⟨fam, rfl, v12⟩ := h12.i64
  obtain ⟨set, rfl, v13⟩ := h13.i64
  obtain ⟨words, rfl, v14⟩ := h14.i64
  obtain ⟨secs, rfl, v15⟩ := h15.i64
  obtain ⟨assets, rfl, v16, v16'⟩ := h16.ints
  obtain ⟨rubric, rfl, v17⟩ := h17.i64
  rw [q17.done]
  refine ⟨⟨id, ver, kind, stem, opts, key, val, tol, texts, pts, content, fam, set, words, secs, assets, rubric⟩, rfl, ?_⟩
  constructor <;> first | assumption | (dsimp only; omega) | (intro o ho; have := v5' o ho; omega) | (intro o ho; have := v9' o ho; omega)
end
theorem okA_one {B : Nat} {s : SH} {as' : List AV} (h : OkA B [s] as') : ∃ a, as' = [s.top a] ∧ Ok B s a := by
  cases h with | cons h1 h2 => cases h2; exact ⟨_, rfl, h1⟩
theorem okA_two {B : Nat} {s t : SH} {as' : List AV} (h : OkA B [s, t] as') : ∃ a b, as' = [s.top a, t.top b] ∧ Ok B s a ∧ Ok B t b := by
  cases h with | cons h1 h2 => obtain ⟨b, rfl, h3⟩ := okA_one h2; exact ⟨_, b, rfl, h1, h3⟩
end Go.Proofs.YtkmicjpoekbhfaaGreatDoor

/- Chapter 40: KeyingBounds for all arguments. -/
set_option linter.unusedSimpArgs false
set_option linter.unusedVariables false
namespace Go.Proofs.YtkmicjpoekbhfaaGreatDoor
open Go.RowKit Lim

theorem kBounds.law (as' : List AV) (h : OkA 1048576 [shItem, shAns] as') : AC 4 as' (boo true) := by
  obtain ⟨a, b, rfl, h1, h2⟩ := okA_two h
  obtain ⟨it, rfl, hi⟩ := h1.item (by omega)
  obtain ⟨x, rfl, hx, _⟩ := h2.ans (by omega)
  exact keyingBounds_c it hi x hx
end Go.Proofs.YtkmicjpoekbhfaaGreatDoor
