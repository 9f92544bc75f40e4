import Derived.Test.YtfchbehmeppckaaGreatP3
import Derived.Deep.DeepHandedRow
import Derived.Deep.DeepWitnessRowRef
import Derived.Lib.LaidTab
import Derived.Stop.LaidErr
import Derived.ChangeMaps5
/- Texts merged: Wt5 WSq Wt6 Wt7 Wt8 Wt9 WtA WtB WSr. -/
/- Chapter 38: policies in the reference; the law StoppingChecks. INTS -/
set_option linter.unusedSimpArgs false
set_option linter.unusedVariables false
namespace Go.Proofs.YtfchbehmeppckaaGreat
open Go.RowKit Lim

theorem within38_c (n lo hi : Int) : AT 26 [i64 n, i64 lo, i64 hi] (boo (withinB n lo hi)) := by
  unfold withinB
  cases c1 : decide (lo ≤ n) with
  | true =>
    refine ACalls.of ⟨7, []⟩ (fn := Tryz.f26) Tryz.func26 rfl rfl rfl (by kernel_rfl) (by kernel_rfl) (Nat.le_of_ble_eq_true rfl) ?_
    simp -implicitDefEqProofs only [c1, go_sem, awp_seq, Nat.reduceBNe, Nat.reduceBEq, Nat.reduceAdd, Nat.reduceSub, Nat.reduceMul, Nat.reduceLeDiff, Nat.reduceLT, Nat.reduceEqDiff, Nat.reduceBneDiff, Int.reduceLE, Int.reduceLT, Int.reduceToNat, Int.reduceBEq, Int.reduceBNe, Int.reduceAdd, Int.reduceSub, Int.cast_ofNat_Int]
  | false =>
    refine ACalls.of ⟨7, []⟩ (fn := Tryz.f26) Tryz.func26 rfl rfl rfl (by kernel_rfl) (by kernel_rfl) (Nat.le_of_ble_eq_true rfl) ?_
    simp -implicitDefEqProofs only [c1, go_sem, awp_seq, Nat.reduceBNe, Nat.reduceBEq, Nat.reduceAdd, Nat.reduceSub, Nat.reduceMul, Nat.reduceLeDiff, Nat.reduceLT, Nat.reduceEqDiff, Nat.reduceBneDiff, Int.reduceLE, Int.reduceLT, Int.reduceToNat, Int.reduceBEq, Int.reduceBNe, Int.reduceAdd, Int.reduceSub, Int.cast_ofNat_Int]
theorem ROK.dR {r : RatV} (h : ROK r) : DR r.a r.z r.d := ⟨r.t, r.l, r.m, rfl, h.dl, h.dm, rfl, rfl, by have := h.nl; omega, by have := h.nm; omega⟩
theorem dr_small (a b : Nat) (ha : a < 4294967296) (hb : b < 4294967296) : DR (ratA false [a] [b]) (a : Int) b := ⟨false, [a], [b], rfl, fun x hx => by simp at hx; omega, fun x hx => by simp at hx; omega, by simp [sg, val], by simp [val], by simp, by simp⟩
def mostB (r : RatV) : Bool := decide (cmpZ (pz r.z r.d) (pd r.d) ≤ 0)
def halfB (r : RatV) : Bool := decide (0 < cmpZ (pz r.z r.d * 2) (pd r.d))
theorem most_c {r : RatV} (h : ROK r) : AT 29 [r.a] (boo (mostB r)) := by
  have C := r3cmp_c h.dR (dr_small 1 1 (by omega) (by omega))
  rw [show pd 1 = 1 from rfl, show pz ((1 : Nat) : Int) 1 = 1 from rfl, Int.one_mul, show pz r.z r.d * ((1 : Nat) : Int) = pz r.z r.d from Int.mul_one _] at C
  refine ACalls.of ⟨3, []⟩ (fn := Tryz.f29) Tryz.func29 rfl rfl rfl (by kernel_rfl) (by kernel_rfl) (Nat.le_of_ble_eq_true rfl) ?_
  simp -implicitDefEqProofs only [Int.toNat_one, Int.reduceToNat, go_sem, awp_seq, Nat.reduceBNe, Nat.reduceBEq, Nat.reduceAdd, Nat.reduceSub, Nat.reduceMul, Nat.reduceLeDiff, Nat.reduceLT, Nat.reduceEqDiff, Nat.reduceBneDiff, Int.reduceLE, Int.reduceLT, Int.reduceToNat, Int.reduceBEq, Int.reduceBNe, Int.reduceAdd, Int.reduceSub, Int.cast_ofNat_Int]
  refine callA_tt C ?_
  simp -implicitDefEqProofs only [mostB, go_sem, awp_seq, Nat.reduceBNe, Nat.reduceBEq, Nat.reduceAdd, Nat.reduceSub, Nat.reduceMul, Nat.reduceLeDiff, Nat.reduceLT, Nat.reduceEqDiff, Nat.reduceBneDiff, Int.reduceLE, Int.reduceLT, Int.reduceToNat, Int.reduceBEq, Int.reduceBNe, Int.reduceAdd, Int.reduceSub, Int.cast_ofNat_Int]
theorem level_c {r : RatV} (h : ROK r) : AT 28 [r.a] (boo (mostB r && halfB r)) := by
  have M := most_c h
  have C := r3cmp_c h.dR (dr_small 1 2 (by omega) (by omega))
  rw [show pd 2 = 2 from rfl, show pz ((1 : Nat) : Int) 2 = 1 from rfl, Int.one_mul] at C
  cases c1 : mostB r with
  | true =>
    rw [c1] at M
    refine ACalls.of ⟨3, []⟩ (fn := Tryz.f28) Tryz.func28 rfl rfl rfl (by kernel_rfl) (by kernel_rfl) (Nat.le_of_ble_eq_true rfl) ?_
    simp -implicitDefEqProofs only [go_sem, awp_seq, Nat.reduceBNe, Nat.reduceBEq, Nat.reduceAdd, Nat.reduceSub, Nat.reduceMul, Nat.reduceLeDiff, Nat.reduceLT, Nat.reduceEqDiff, Nat.reduceBneDiff, Int.reduceLE, Int.reduceLT, Int.reduceToNat, Int.reduceBEq, Int.reduceBNe, Int.reduceAdd, Int.reduceSub, Int.cast_ofNat_Int]
    refine callA_tt M ?_
    simp -implicitDefEqProofs only [Int.toNat_one, Int.reduceToNat, go_sem, awp_seq, Nat.reduceBNe, Nat.reduceBEq, Nat.reduceAdd, Nat.reduceSub, Nat.reduceMul, Nat.reduceLeDiff, Nat.reduceLT, Nat.reduceEqDiff, Nat.reduceBneDiff, Int.reduceLE, Int.reduceLT, Int.reduceToNat, Int.reduceBEq, Int.reduceBNe, Int.reduceAdd, Int.reduceSub, Int.cast_ofNat_Int]
    refine callA_tt C ?_
    simp -implicitDefEqProofs only [halfB, go_sem, awp_seq, Nat.reduceBNe, Nat.reduceBEq, Nat.reduceAdd, Nat.reduceSub, Nat.reduceMul, Nat.reduceLeDiff, Nat.reduceLT, Nat.reduceEqDiff, Nat.reduceBneDiff, Int.reduceLE, Int.reduceLT, Int.reduceToNat, Int.reduceBEq, Int.reduceBNe, Int.reduceAdd, Int.reduceSub, Int.cast_ofNat_Int]
  | false =>
    rw [c1] at M
    refine ACalls.of ⟨3, []⟩ (fn := Tryz.f28) Tryz.func28 rfl rfl rfl (by kernel_rfl) (by kernel_rfl) (Nat.le_of_ble_eq_true rfl) ?_
    simp -implicitDefEqProofs only [go_sem, awp_seq, Nat.reduceBNe, Nat.reduceBEq, Nat.reduceAdd, Nat.reduceSub, Nat.reduceMul, Nat.reduceLeDiff, Nat.reduceLT, Nat.reduceEqDiff, Nat.reduceBneDiff, Int.reduceLE, Int.reduceLT, Int.reduceToNat, Int.reduceBEq, Int.reduceBNe, Int.reduceAdd, Int.reduceSub, Int.cast_ofNat_Int]
    refine callA_tt M ?_
    simp -implicitDefEqProofs only [go_sem, awp_seq, Nat.reduceBNe, Nat.reduceBEq, Nat.reduceAdd, Nat.reduceSub, Nat.reduceMul, Nat.reduceLeDiff, Nat.reduceLT, Nat.reduceEqDiff, Nat.reduceBneDiff, Int.reduceLE, Int.reduceLT, Int.reduceToNat, Int.reduceBEq, Int.reduceBNe, Int.reduceAdd, Int.reduceSub, Int.cast_ofNat_Int]
theorem above_half (r : RatV) : aboveB r 1 2 = (mostB r && halfB r) := by
  unfold aboveB mostB halfB
  rw [Int.one_mul, Bool.and_comm]
  rfl
theorem above_zero (r : RatV) : aboveB r 0 1 = (!(decide (sgnI (pz r.z r.d) ≤ 0)) && mostB r) := by
  unfold aboveB mostB
  congr 1
  have h1 := sgn_pos (z := pz r.z r.d)
  have h2 := cmp_gt (a := pz r.z r.d * ((1 : Nat) : Int)) (b := 0 * (pd r.d : Int))
  rw [show pz r.z r.d * ((1 : Nat) : Int) = pz r.z r.d from Int.mul_one _, Int.zero_mul] at h2
  rw [show pz r.z r.d * ((1 : Nat) : Int) = pz r.z r.d from Int.mul_one _, Int.zero_mul]
  by_cases h : 0 < pz r.z r.d
  · have := h1.2 h
    rw [decide_eq_true (h2.2 h), decide_eq_false (by omega)]; rfl
  · have k1 : ¬ 0 < sgnI (pz r.z r.d) := fun q => h (h1.1 q)
    have k2 : ¬ 0 < cmpZ (pz r.z r.d) 0 := fun q => h (h2.1 q)
    rw [decide_eq_false k2, decide_eq_true (by omega)]; rfl
theorem within_not (n lo hi : Int) : withinB n lo hi = !(decide (n < lo) || decide (hi < n)) := by
  unfold withinB
  by_cases h1 : lo ≤ n <;> by_cases h2 : n ≤ hi
  · rw [decide_eq_true h1, decide_eq_true h2, decide_eq_false (by omega), decide_eq_false (by omega)]; rfl
  · rw [decide_eq_true h1, decide_eq_false h2, decide_eq_false (by omega), decide_eq_true (by omega)]; rfl
  · rw [decide_eq_false h1, decide_eq_true (by omega : n < lo)]; rfl
  · rw [decide_eq_false h1, decide_eq_true (by omega : n < lo)]; rfl
set_option maxHeartbeats 2000000 in
theorem valid38_c (p : PolV) (hp : POK p) : AT 10 [polA p] (i64 (polE p)) := by
  have B := valid33_c p.len p.rs
  have G := valid18_c p.pts p.prs
  have S := r3sign_c hp.v.dR
  have S2 := r3sign_c hp.rate.dR
  have A1 := level_c hp.lv
  have A2 := most_c hp.rate
  have W1 := within38_c p.min 0 p.len
  have W2 := within38_c p.cut 0 (((p.pts.length : Nat) : Int) - 1)
  have W3 := within38_c p.top 1 5
  have W4 := within38_c p.slack 0 1000000
  by_cases h1 : specE p.len p.rs ≠ 0
  · have g1 : (specE p.len p.rs != 0) = true := by simpa using h1
    rw [show polE p = specE p.len p.rs by unfold polE; rw [if_pos h1]]
    refine ACalls.of ⟨4, []⟩ (fn := Tryz.f10) Tryz.func10 rfl rfl rfl (by kernel_rfl) (by kernel_rfl) (Nat.le_of_ble_eq_true rfl) ?_
    simp -implicitDefEqProofs only [go_sem, awp_seq, Nat.reduceBNe, Nat.reduceBEq, Nat.reduceAdd, Nat.reduceSub, Nat.reduceMul, Nat.reduceLeDiff, Nat.reduceLT, Nat.reduceEqDiff, Nat.reduceBneDiff, Int.reduceLE, Int.reduceLT, Int.reduceToNat, Int.reduceBEq, Int.reduceBNe, Int.reduceAdd, Int.reduceSub, Int.cast_ofNat_Int]
    refine callA_tt B ?_
    simp -implicitDefEqProofs only [g1, go_sem, awp_seq, Nat.reduceBNe, Nat.reduceBEq, Nat.reduceAdd, Nat.reduceSub, Nat.reduceMul, Nat.reduceLeDiff, Nat.reduceLT, Nat.reduceEqDiff, Nat.reduceBneDiff, Int.reduceLE, Int.reduceLT, Int.reduceToNat, Int.reduceBEq, Int.reduceBNe, Int.reduceAdd, Int.reduceSub, Int.cast_ofNat_Int]
  have g1 : (specE p.len p.rs != 0) = false := by simpa using h1
  by_cases h2 : gridE p.pts p.prs ≠ 0
  · have g2 : (gridE p.pts p.prs != 0) = true := by simpa using h2
    rw [show polE p = gridE p.pts p.prs by unfold polE; rw [if_neg h1, if_pos h2]]
    refine ACalls.of ⟨4, []⟩ (fn := Tryz.f10) Tryz.func10 rfl rfl rfl (by kernel_rfl) (by kernel_rfl) (Nat.le_of_ble_eq_true rfl) ?_
    simp -implicitDefEqProofs only [go_sem, awp_seq, Nat.reduceBNe, Nat.reduceBEq, Nat.reduceAdd, Nat.reduceSub, Nat.reduceMul, Nat.reduceLeDiff, Nat.reduceLT, Nat.reduceEqDiff, Nat.reduceBneDiff, Int.reduceLE, Int.reduceLT, Int.reduceToNat, Int.reduceBEq, Int.reduceBNe, Int.reduceAdd, Int.reduceSub, Int.cast_ofNat_Int]
    refine callA_tt B ?_
    simp -implicitDefEqProofs only [g1, go_sem, awp_seq, Nat.reduceBNe, Nat.reduceBEq, Nat.reduceAdd, Nat.reduceSub, Nat.reduceMul, Nat.reduceLeDiff, Nat.reduceLT, Nat.reduceEqDiff, Nat.reduceBneDiff, Int.reduceLE, Int.reduceLT, Int.reduceToNat, Int.reduceBEq, Int.reduceBNe, Int.reduceAdd, Int.reduceSub, Int.cast_ofNat_Int]
    refine callA_tt G ?_
    simp -implicitDefEqProofs only [g2, go_sem, awp_seq, Nat.reduceBNe, Nat.reduceBEq, Nat.reduceAdd, Nat.reduceSub, Nat.reduceMul, Nat.reduceLeDiff, Nat.reduceLT, Nat.reduceEqDiff, Nat.reduceBneDiff, Int.reduceLE, Int.reduceLT, Int.reduceToNat, Int.reduceBEq, Int.reduceBNe, Int.reduceAdd, Int.reduceSub, Int.cast_ofNat_Int]
  have g2 : (gridE p.pts p.prs != 0) = false := by simpa using h2
  have hlen : p.pts.length ≤ 21 := (grid_ok (by omega : gridE p.pts p.prs = 0)).1
  by_cases h3 : 400 < p.en.length
  · have g3 : decide ((400 : Int) < (p.en.length : Nat)) = true := by simp; omega
    rw [show polE p = 5 by unfold polE; rw [if_neg h1, if_neg h2, if_pos h3]]
    refine ACalls.of ⟨4, []⟩ (fn := Tryz.f10) Tryz.func10 rfl rfl rfl (by kernel_rfl) (by kernel_rfl) (Nat.le_of_ble_eq_true rfl) ?_
    simp -implicitDefEqProofs only [go_sem, awp_seq, Nat.reduceBNe, Nat.reduceBEq, Nat.reduceAdd, Nat.reduceSub, Nat.reduceMul, Nat.reduceLeDiff, Nat.reduceLT, Nat.reduceEqDiff, Nat.reduceBneDiff, Int.reduceLE, Int.reduceLT, Int.reduceToNat, Int.reduceBEq, Int.reduceBNe, Int.reduceAdd, Int.reduceSub, Int.cast_ofNat_Int]
    refine callA_tt B ?_
    simp -implicitDefEqProofs only [g1, go_sem, awp_seq, Nat.reduceBNe, Nat.reduceBEq, Nat.reduceAdd, Nat.reduceSub, Nat.reduceMul, Nat.reduceLeDiff, Nat.reduceLT, Nat.reduceEqDiff, Nat.reduceBneDiff, Int.reduceLE, Int.reduceLT, Int.reduceToNat, Int.reduceBEq, Int.reduceBNe, Int.reduceAdd, Int.reduceSub, Int.cast_ofNat_Int]
    refine callA_tt G ?_
    simp -implicitDefEqProofs only [g2, g3, List.length_map, go_sem, awp_seq, Nat.reduceBNe, Nat.reduceBEq, Nat.reduceAdd, Nat.reduceSub, Nat.reduceMul, Nat.reduceLeDiff, Nat.reduceLT, Nat.reduceEqDiff, Nat.reduceBneDiff, Int.reduceLE, Int.reduceLT, Int.reduceToNat, Int.reduceBEq, Int.reduceBNe, Int.reduceAdd, Int.reduceSub, Int.cast_ofNat_Int]
  have g3 : decide ((400 : Int) < (p.en.length : Nat)) = false := by simp; omega
  have e : polE p = if polBad p then 3 else 0 := by unfold polE; rw [if_neg h1, if_neg h2, if_neg h3]
  have bad : polBad p = true → polE p = 3 := fun h => by rw [e, if_pos h]
  have good : polBad p = false → polE p = 0 := fun h => by rw [e, if_neg (by simp [h])]
  clear e
  have w1 : IntKind.i64.wrap (((p.pts.length : Nat) : Int) - 1) = ((p.pts.length : Nat) : Int) - 1 := IntWalk.i64_in _ (by omega)
  rw [within_not] at W1 W2 W3 W4
  unfold polBad at bad good
  rw [above_half, above_zero] at bad good
  generalize specE p.len p.rs = e1 at *
  generalize gridE p.pts p.prs = e2 at *
  generalize polE p = E at *
  generalize (mostB p.lv && halfB p.lv) = a1 at *
  generalize mostB p.rate = a2 at *
  generalize sgnI (pz p.v.z p.v.d) = sv at *
  generalize sgnI (pz p.rate.z p.rate.d) = sr at *
  generalize (decide (p.min < 0) || decide (p.len < p.min)) = q1 at *
  generalize (decide (p.cut < 0) || decide (((p.pts.length : Nat) : Int) - 1 < p.cut)) = q2 at *
  generalize (decide (p.top < 1) || decide (5 < p.top)) = q3 at *
  generalize (decide (p.slack < 0) || decide (1000000 < p.slack)) = q4 at *
  refine ACalls.of ⟨4, []⟩ (fn := Tryz.f10) Tryz.func10 rfl rfl rfl (by kernel_rfl) (by kernel_rfl) (Nat.le_of_ble_eq_true rfl) ?_
  simp -implicitDefEqProofs only [go_sem, awp_seq, Nat.reduceBNe, Nat.reduceBEq, Nat.reduceAdd, Nat.reduceSub, Nat.reduceMul, Nat.reduceLeDiff, Nat.reduceLT, Nat.reduceEqDiff, Nat.reduceBneDiff, Int.reduceLE, Int.reduceLT, Int.reduceToNat, Int.reduceBEq, Int.reduceBNe, Int.reduceAdd, Int.reduceSub, Int.cast_ofNat_Int]
  refine callA_tt B ?_
  simp -implicitDefEqProofs only [g1, go_sem, awp_seq, Nat.reduceBNe, Nat.reduceBEq, Nat.reduceAdd, Nat.reduceSub, Nat.reduceMul, Nat.reduceLeDiff, Nat.reduceLT, Nat.reduceEqDiff, Nat.reduceBneDiff, Int.reduceLE, Int.reduceLT, Int.reduceToNat, Int.reduceBEq, Int.reduceBNe, Int.reduceAdd, Int.reduceSub, Int.cast_ofNat_Int]
  refine callA_tt G ?_
  simp -implicitDefEqProofs only [g2, g3, List.length_map, go_sem, awp_seq, Nat.reduceBNe, Nat.reduceBEq, Nat.reduceAdd, Nat.reduceSub, Nat.reduceMul, Nat.reduceLeDiff, Nat.reduceLT, Nat.reduceEqDiff, Nat.reduceBneDiff, Int.reduceLE, Int.reduceLT, Int.reduceToNat, Int.reduceBEq, Int.reduceBNe, Int.reduceAdd, Int.reduceSub, Int.cast_ofNat_Int]
  refine callA_tt W1 ?_
  cases q1 with
  | true =>
    have := bad (by simp only [Bool.true_or])
    simp -implicitDefEqProofs only [this, go_sem, awp_seq, Nat.reduceBNe, Nat.reduceBEq, Nat.reduceAdd, Nat.reduceSub, Nat.reduceMul, Nat.reduceLeDiff, Nat.reduceLT, Nat.reduceEqDiff, Nat.reduceBneDiff, Int.reduceLE, Int.reduceLT, Int.reduceToNat, Int.reduceBEq, Int.reduceBNe, Int.reduceAdd, Int.reduceSub, Int.cast_ofNat_Int]
  | false =>
  simp -implicitDefEqProofs only [go_sem, awp_seq, Nat.reduceBNe, Nat.reduceBEq, Nat.reduceAdd, Nat.reduceSub, Nat.reduceMul, Nat.reduceLeDiff, Nat.reduceLT, Nat.reduceEqDiff, Nat.reduceBneDiff, Int.reduceLE, Int.reduceLT, Int.reduceToNat, Int.reduceBEq, Int.reduceBNe, Int.reduceAdd, Int.reduceSub, Int.cast_ofNat_Int]
  refine callA_tt S ?_
  cases c3 : decide (sv < 0) with
  | true =>
    have := bad (by simp only [c3, Bool.true_or, Bool.or_true])
    simp -implicitDefEqProofs only [c3, this, go_sem, awp_seq, Nat.reduceBNe, Nat.reduceBEq, Nat.reduceAdd, Nat.reduceSub, Nat.reduceMul, Nat.reduceLeDiff, Nat.reduceLT, Nat.reduceEqDiff, Nat.reduceBneDiff, Int.reduceLE, Int.reduceLT, Int.reduceToNat, Int.reduceBEq, Int.reduceBNe, Int.reduceAdd, Int.reduceSub, Int.cast_ofNat_Int]
  | false =>
  simp -implicitDefEqProofs only [c3, List.length_map, w1, go_sem, awp_seq, Nat.reduceBNe, Nat.reduceBEq, Nat.reduceAdd, Nat.reduceSub, Nat.reduceMul, Nat.reduceLeDiff, Nat.reduceLT, Nat.reduceEqDiff, Nat.reduceBneDiff, Int.reduceLE, Int.reduceLT, Int.reduceToNat, Int.reduceBEq, Int.reduceBNe, Int.reduceAdd, Int.reduceSub, Int.cast_ofNat_Int]
  refine callA_tt W2 ?_
  cases q2 with
  | true =>
    have := bad (by simp only [Bool.true_or, Bool.or_true])
    simp -implicitDefEqProofs only [this, go_sem, awp_seq, Nat.reduceBNe, Nat.reduceBEq, Nat.reduceAdd, Nat.reduceSub, Nat.reduceMul, Nat.reduceLeDiff, Nat.reduceLT, Nat.reduceEqDiff, Nat.reduceBneDiff, Int.reduceLE, Int.reduceLT, Int.reduceToNat, Int.reduceBEq, Int.reduceBNe, Int.reduceAdd, Int.reduceSub, Int.cast_ofNat_Int]
  | false =>
  simp -implicitDefEqProofs only [go_sem, awp_seq, Nat.reduceBNe, Nat.reduceBEq, Nat.reduceAdd, Nat.reduceSub, Nat.reduceMul, Nat.reduceLeDiff, Nat.reduceLT, Nat.reduceEqDiff, Nat.reduceBneDiff, Int.reduceLE, Int.reduceLT, Int.reduceToNat, Int.reduceBEq, Int.reduceBNe, Int.reduceAdd, Int.reduceSub, Int.cast_ofNat_Int]
  cases c6 : (p.cut != 0) with
  | true =>
    simp -implicitDefEqProofs only [go_sem, awp_seq, Nat.reduceBNe, Nat.reduceBEq, Nat.reduceAdd, Nat.reduceSub, Nat.reduceMul, Nat.reduceLeDiff, Nat.reduceLT, Nat.reduceEqDiff, Nat.reduceBneDiff, Int.reduceLE, Int.reduceLT, Int.reduceToNat, Int.reduceBEq, Int.reduceBNe, Int.reduceAdd, Int.reduceSub, Int.cast_ofNat_Int]
    refine callA_tt A1 ?_
    cases a1 with
    | false =>
      have := bad (by simp only [c6, Bool.not_false, Bool.and_self, Bool.true_or, Bool.or_true])
      simp -implicitDefEqProofs only [this, go_sem, awp_seq, Nat.reduceBNe, Nat.reduceBEq, Nat.reduceAdd, Nat.reduceSub, Nat.reduceMul, Nat.reduceLeDiff, Nat.reduceLT, Nat.reduceEqDiff, Nat.reduceBneDiff, Int.reduceLE, Int.reduceLT, Int.reduceToNat, Int.reduceBEq, Int.reduceBNe, Int.reduceAdd, Int.reduceSub, Int.cast_ofNat_Int]
    | true =>
    simp -implicitDefEqProofs only [go_sem, awp_seq, Nat.reduceBNe, Nat.reduceBEq, Nat.reduceAdd, Nat.reduceSub, Nat.reduceMul, Nat.reduceLeDiff, Nat.reduceLT, Nat.reduceEqDiff, Nat.reduceBneDiff, Int.reduceLE, Int.reduceLT, Int.reduceToNat, Int.reduceBEq, Int.reduceBNe, Int.reduceAdd, Int.reduceSub, Int.cast_ofNat_Int]
    refine callA_tt W3 ?_
    cases q3 with
    | true =>
      have := bad (by simp only [Bool.true_or, Bool.or_true])
      simp -implicitDefEqProofs only [this, go_sem, awp_seq, Nat.reduceBNe, Nat.reduceBEq, Nat.reduceAdd, Nat.reduceSub, Nat.reduceMul, Nat.reduceLeDiff, Nat.reduceLT, Nat.reduceEqDiff, Nat.reduceBneDiff, Int.reduceLE, Int.reduceLT, Int.reduceToNat, Int.reduceBEq, Int.reduceBNe, Int.reduceAdd, Int.reduceSub, Int.cast_ofNat_Int]
    | false =>
    simp -implicitDefEqProofs only [go_sem, awp_seq, Nat.reduceBNe, Nat.reduceBEq, Nat.reduceAdd, Nat.reduceSub, Nat.reduceMul, Nat.reduceLeDiff, Nat.reduceLT, Nat.reduceEqDiff, Nat.reduceBneDiff, Int.reduceLE, Int.reduceLT, Int.reduceToNat, Int.reduceBEq, Int.reduceBNe, Int.reduceAdd, Int.reduceSub, Int.cast_ofNat_Int]
    refine callA_tt S2 ?_
    cases c9 : decide (sr ≤ 0) with
    | true =>
      have := bad (by simp only [c9, Bool.not_true, Bool.false_and, Bool.not_false, Bool.true_or, Bool.or_true])
      simp -implicitDefEqProofs only [c9, this, go_sem, awp_seq, Nat.reduceBNe, Nat.reduceBEq, Nat.reduceAdd, Nat.reduceSub, Nat.reduceMul, Nat.reduceLeDiff, Nat.reduceLT, Nat.reduceEqDiff, Nat.reduceBneDiff, Int.reduceLE, Int.reduceLT, Int.reduceToNat, Int.reduceBEq, Int.reduceBNe, Int.reduceAdd, Int.reduceSub, Int.cast_ofNat_Int]
    | false =>
    simp -implicitDefEqProofs only [c9, go_sem, awp_seq, Nat.reduceBNe, Nat.reduceBEq, Nat.reduceAdd, Nat.reduceSub, Nat.reduceMul, Nat.reduceLeDiff, Nat.reduceLT, Nat.reduceEqDiff, Nat.reduceBneDiff, Int.reduceLE, Int.reduceLT, Int.reduceToNat, Int.reduceBEq, Int.reduceBNe, Int.reduceAdd, Int.reduceSub, Int.cast_ofNat_Int]
    refine callA_tt A2 ?_
    cases a2 with
    | false =>
      have := bad (by simp only [Bool.and_false, Bool.not_false, Bool.true_or, Bool.or_true])
      simp -implicitDefEqProofs only [this, go_sem, awp_seq, Nat.reduceBNe, Nat.reduceBEq, Nat.reduceAdd, Nat.reduceSub, Nat.reduceMul, Nat.reduceLeDiff, Nat.reduceLT, Nat.reduceEqDiff, Nat.reduceBneDiff, Int.reduceLE, Int.reduceLT, Int.reduceToNat, Int.reduceBEq, Int.reduceBNe, Int.reduceAdd, Int.reduceSub, Int.cast_ofNat_Int]
    | true =>
    simp -implicitDefEqProofs only [go_sem, awp_seq, Nat.reduceBNe, Nat.reduceBEq, Nat.reduceAdd, Nat.reduceSub, Nat.reduceMul, Nat.reduceLeDiff, Nat.reduceLT, Nat.reduceEqDiff, Nat.reduceBneDiff, Int.reduceLE, Int.reduceLT, Int.reduceToNat, Int.reduceBEq, Int.reduceBNe, Int.reduceAdd, Int.reduceSub, Int.cast_ofNat_Int]
    refine callA_tt W4 ?_
    cases q4 with
    | true =>
      have := bad (by simp only [Bool.true_or, Bool.or_true])
      simp -implicitDefEqProofs only [this, go_sem, awp_seq, Nat.reduceBNe, Nat.reduceBEq, Nat.reduceAdd, Nat.reduceSub, Nat.reduceMul, Nat.reduceLeDiff, Nat.reduceLT, Nat.reduceEqDiff, Nat.reduceBneDiff, Int.reduceLE, Int.reduceLT, Int.reduceToNat, Int.reduceBEq, Int.reduceBNe, Int.reduceAdd, Int.reduceSub, Int.cast_ofNat_Int]
    | false =>
      have := good (by simp only [c3, c6, c9, Bool.not_true, Bool.not_false, Bool.or_false, Bool.and_false, Bool.false_and, Bool.and_self])
      simp -implicitDefEqProofs only [this, go_sem, awp_seq, Nat.reduceBNe, Nat.reduceBEq, Nat.reduceAdd, Nat.reduceSub, Nat.reduceMul, Nat.reduceLeDiff, Nat.reduceLT, Nat.reduceEqDiff, Nat.reduceBneDiff, Int.reduceLE, Int.reduceLT, Int.reduceToNat, Int.reduceBEq, Int.reduceBNe, Int.reduceAdd, Int.reduceSub, Int.cast_ofNat_Int]
  | false =>
    simp -implicitDefEqProofs only [go_sem, awp_seq, Nat.reduceBNe, Nat.reduceBEq, Nat.reduceAdd, Nat.reduceSub, Nat.reduceMul, Nat.reduceLeDiff, Nat.reduceLT, Nat.reduceEqDiff, Nat.reduceBneDiff, Int.reduceLE, Int.reduceLT, Int.reduceToNat, Int.reduceBEq, Int.reduceBNe, Int.reduceAdd, Int.reduceSub, Int.cast_ofNat_Int]
    refine callA_tt W3 ?_
    cases q3 with
    | true =>
      have := bad (by simp only [Bool.true_or, Bool.or_true])
      simp -implicitDefEqProofs only [this, go_sem, awp_seq, Nat.reduceBNe, Nat.reduceBEq, Nat.reduceAdd, Nat.reduceSub, Nat.reduceMul, Nat.reduceLeDiff, Nat.reduceLT, Nat.reduceEqDiff, Nat.reduceBneDiff, Int.reduceLE, Int.reduceLT, Int.reduceToNat, Int.reduceBEq, Int.reduceBNe, Int.reduceAdd, Int.reduceSub, Int.cast_ofNat_Int]
    | false =>
    simp -implicitDefEqProofs only [go_sem, awp_seq, Nat.reduceBNe, Nat.reduceBEq, Nat.reduceAdd, Nat.reduceSub, Nat.reduceMul, Nat.reduceLeDiff, Nat.reduceLT, Nat.reduceEqDiff, Nat.reduceBneDiff, Int.reduceLE, Int.reduceLT, Int.reduceToNat, Int.reduceBEq, Int.reduceBNe, Int.reduceAdd, Int.reduceSub, Int.cast_ofNat_Int]
    refine callA_tt S2 ?_
    cases c9 : decide (sr ≤ 0) with
    | true =>
      have := bad (by simp only [c9, Bool.not_true, Bool.false_and, Bool.not_false, Bool.true_or, Bool.or_true])
      simp -implicitDefEqProofs only [c9, this, go_sem, awp_seq, Nat.reduceBNe, Nat.reduceBEq, Nat.reduceAdd, Nat.reduceSub, Nat.reduceMul, Nat.reduceLeDiff, Nat.reduceLT, Nat.reduceEqDiff, Nat.reduceBneDiff, Int.reduceLE, Int.reduceLT, Int.reduceToNat, Int.reduceBEq, Int.reduceBNe, Int.reduceAdd, Int.reduceSub, Int.cast_ofNat_Int]
    | false =>
    simp -implicitDefEqProofs only [c9, go_sem, awp_seq, Nat.reduceBNe, Nat.reduceBEq, Nat.reduceAdd, Nat.reduceSub, Nat.reduceMul, Nat.reduceLeDiff, Nat.reduceLT, Nat.reduceEqDiff, Nat.reduceBneDiff, Int.reduceLE, Int.reduceLT, Int.reduceToNat, Int.reduceBEq, Int.reduceBNe, Int.reduceAdd, Int.reduceSub, Int.cast_ofNat_Int]
    refine callA_tt A2 ?_
    cases a2 with
    | false =>
      have := bad (by simp only [Bool.and_false, Bool.not_false, Bool.true_or, Bool.or_true])
      simp -implicitDefEqProofs only [this, go_sem, awp_seq, Nat.reduceBNe, Nat.reduceBEq, Nat.reduceAdd, Nat.reduceSub, Nat.reduceMul, Nat.reduceLeDiff, Nat.reduceLT, Nat.reduceEqDiff, Nat.reduceBneDiff, Int.reduceLE, Int.reduceLT, Int.reduceToNat, Int.reduceBEq, Int.reduceBNe, Int.reduceAdd, Int.reduceSub, Int.cast_ofNat_Int]
    | true =>
    simp -implicitDefEqProofs only [go_sem, awp_seq, Nat.reduceBNe, Nat.reduceBEq, Nat.reduceAdd, Nat.reduceSub, Nat.reduceMul, Nat.reduceLeDiff, Nat.reduceLT, Nat.reduceEqDiff, Nat.reduceBneDiff, Int.reduceLE, Int.reduceLT, Int.reduceToNat, Int.reduceBEq, Int.reduceBNe, Int.reduceAdd, Int.reduceSub, Int.cast_ofNat_Int]
    refine callA_tt W4 ?_
    cases q4 with
    | true =>
      have := bad (by simp only [Bool.true_or, Bool.or_true])
      simp -implicitDefEqProofs only [this, go_sem, awp_seq, Nat.reduceBNe, Nat.reduceBEq, Nat.reduceAdd, Nat.reduceSub, Nat.reduceMul, Nat.reduceLeDiff, Nat.reduceLT, Nat.reduceEqDiff, Nat.reduceBneDiff, Int.reduceLE, Int.reduceLT, Int.reduceToNat, Int.reduceBEq, Int.reduceBNe, Int.reduceAdd, Int.reduceSub, Int.cast_ofNat_Int]
    | false =>
      have := good (by simp only [c3, c6, c9, Bool.not_true, Bool.not_false, Bool.or_false, Bool.and_false, Bool.false_and, Bool.and_self])
      simp -implicitDefEqProofs only [this, go_sem, awp_seq, Nat.reduceBNe, Nat.reduceBEq, Nat.reduceAdd, Nat.reduceSub, Nat.reduceMul, Nat.reduceLeDiff, Nat.reduceLT, Nat.reduceEqDiff, Nat.reduceBneDiff, Int.reduceLE, Int.reduceLT, Int.reduceToNat, Int.reduceBEq, Int.reduceBNe, Int.reduceAdd, Int.reduceSub, Int.cast_ofNat_Int]
theorem checks_c (p : PolV) (hp : POK p) : AC 3 [polA p] (boo true) := by
  have V := svalid_c p hp
  have R := valid38_c p hp
  generalize polE p = e at *
  refine ACalls.of ⟨3, []⟩ (fn := Tryz.f3) Tryz.func3 rfl rfl rfl (by kernel_rfl) (by kernel_rfl) (Nat.le_of_ble_eq_true rfl) ?_
  simp -implicitDefEqProofs only [go_sem, awp_seq, Nat.reduceBNe, Nat.reduceBEq, Nat.reduceAdd, Nat.reduceSub, Nat.reduceMul, Nat.reduceLeDiff, Nat.reduceLT, Nat.reduceEqDiff, Nat.reduceBneDiff, Int.reduceLE, Int.reduceLT, Int.reduceToNat, Int.reduceBEq, Int.reduceBNe, Int.reduceAdd, Int.reduceSub, Int.cast_ofNat_Int]
  refine callA_mk V ?_
  simp -implicitDefEqProofs only [go_sem, awp_seq, Nat.reduceBNe, Nat.reduceBEq, Nat.reduceAdd, Nat.reduceSub, Nat.reduceMul, Nat.reduceLeDiff, Nat.reduceLT, Nat.reduceEqDiff, Nat.reduceBneDiff, Int.reduceLE, Int.reduceLT, Int.reduceToNat, Int.reduceBEq, Int.reduceBNe, Int.reduceAdd, Int.reduceSub, Int.cast_ofNat_Int]
  refine callA_t R ?_
  simp -implicitDefEqProofs only [BEq.rfl, go_sem, awp_seq, Nat.reduceBNe, Nat.reduceBEq, Nat.reduceAdd, Nat.reduceSub, Nat.reduceMul, Nat.reduceLeDiff, Nat.reduceLT, Nat.reduceEqDiff, Nat.reduceBneDiff, Int.reduceLE, Int.reduceLT, Int.reduceToNat, Int.reduceBEq, Int.reduceBNe, Int.reduceAdd, Int.reduceSub, Int.cast_ofNat_Int]
  refine callA_mk awake38_c ?_
  simp -implicitDefEqProofs only [go_sem, awp_seq, Nat.reduceBNe, Nat.reduceBEq, Nat.reduceAdd, Nat.reduceSub, Nat.reduceMul, Nat.reduceLeDiff, Nat.reduceLT, Nat.reduceEqDiff, Nat.reduceBneDiff, Int.reduceLE, Int.reduceLT, Int.reduceToNat, Int.reduceBEq, Int.reduceBNe, Int.reduceAdd, Int.reduceSub, Int.cast_ofNat_Int]
end Go.Proofs.YtfchbehmeppckaaGreat

/- The laws of chapter 38, for all arguments of their shapes. -/
set_option linter.unusedSimpArgs false
set_option linter.unusedVariables false
namespace Go.Proofs.YtfchbehmeppckaaGreat
open Go.RowKit Lim

abbrev shW : SH := .sl (.sl .nat)
theorem Ok.wss {B : Nat} {cs : List AV} (h : Ok B shW cs) (hB : B ≤ 2000000) : ∃ wss : List (List (List Nat)), cs = [natss wss] ∧ W3 wss := by
  obtain ⟨l, rfl, h1, h2⟩ := h.list (f := fun ws : List (List Nat) => [nats ws]) (Q := fun ws => WOK ws ∧ ws.length < 3000000) (fun x hx => by
    obtain ⟨ws, rfl, k1, k2⟩ := hx.weights hB
    exact ⟨ws, rfl, k1, by omega⟩)
  exact ⟨l, rfl, h2⟩
theorem okA_one {B : Nat} {s : SH} {as' : List AV} (h : OkA B [s] as') : ∃ a, as' = [s.top a] ∧ Ok B s a := by
  cases h with | cons h1 h2 => cases h2; exact ⟨_, rfl, h1⟩
theorem okA_two {B : Nat} {s t : SH} {as' : List AV} (h : OkA B [s, t] as') : ∃ a b, as' = [s.top a, t.top b] ∧ Ok B s a ∧ Ok B t b := by
  cases h with | cons h1 h2 => obtain ⟨b, rfl, h3⟩ := okA_one h2; exact ⟨_, b, rfl, h1, h3⟩
theorem okA_three {B : Nat} {s t u : SH} {as' : List AV} (h : OkA B [s, t, u] as') : ∃ a b c, as' = [s.top a, t.top b, u.top c] ∧ Ok B s a ∧ Ok B t b ∧ Ok B u c := by
  cases h with | cons h1 h2 => obtain ⟨b, c, rfl, h3, h4⟩ := okA_two h2; exact ⟨_, b, c, rfl, h1, h3, h4⟩
theorem sFull.law (as' : List AV) (h : OkA 1048576 [shPol, shW] as') : AC 7 as' (boo true) := by
  obtain ⟨a, b, rfl, h1, h2⟩ := okA_two h
  obtain ⟨p, rfl, hp⟩ := h1.pol (by omega)
  obtain ⟨wss, rfl, hw⟩ := h2.wss (by omega)
  exact full_c p hp wss hw
theorem sLen.law (as' : List AV) (h : OkA 1048576 [shPol, shW] as') : AC 6 as' (boo true) := by
  obtain ⟨a, b, rfl, h1, h2⟩ := okA_two h
  obtain ⟨p, rfl, hp⟩ := h1.pol (by omega)
  obtain ⟨wss, rfl, hw⟩ := h2.wss (by omega)
  exact length_c p hp wss hw
theorem sPrec.law (as' : List AV) (h : OkA 1048576 [shPol, shR, shW] as') : AC 8 as' (boo true) := by
  obtain ⟨a, b, c, rfl, h1, h2, h3⟩ := okA_three h
  obtain ⟨p, rfl, hp⟩ := h1.pol (by omega)
  obtain ⟨o, rfl, ho⟩ := h2.rat (by omega)
  obtain ⟨wss, rfl, hw⟩ := h3.wss (by omega)
  exact precision_c p hp o ho wss hw
theorem sChk.law (as' : List AV) (h : OkA 1048576 [shPol] as') : AC 3 as' (boo true) := by
  obtain ⟨a, rfl, h1⟩ := okA_one h
  obtain ⟨p, rfl, hp⟩ := h1.pol (by omega)
  exact checks_c p hp
end Go.Proofs.YtfchbehmeppckaaGreat

/- Chapter 38: ratios of sums in the reference. INTS -/
set_option linter.unusedSimpArgs false
set_option linter.unusedVariables false
namespace Go.Proofs.YtfchbehmeppckaaGreat
open Go.RowKit Lim

theorem r3make_c {a b : AV} {z : Int} {d : Nat} (ha : DI a z) (hb : DI b (d : Int)) (hd : 0 < d) : AT 108 [a, b] (.tup [ratN (rn z d) (rd z d), boo true]) := by
  have na := ha.n1
  have nb := hb.n1
  rw [Int.natAbs_natCast] at nb
  have N1 := r2norm_c ha
  have N2 := r2norm_c hb
  have Bt := r1bits_c (limbs d) (dig_limbs d) (by show nlen d < _; omega)
  rw [val_limbs] at Bt
  have hbt := bits_pos (n := d) (by omega)
  have R := r3reduce_c (dI z na) (dN d nb) hd
  have e0 : decide ((d : Int) < 0) = false := by simp
  obtain ⟨_, _, rfl, _⟩ := ha
  obtain ⟨_, _, rfl, _⟩ := hb
  refine ACalls.of ⟨8, []⟩ (fn := Tryz.f108) Tryz.func108 rfl rfl rfl (by kernel_rfl) (by kernel_rfl) (Nat.le_of_ble_eq_true rfl) ?_
  simp -implicitDefEqProofs only [go_sem, awp_seq, Nat.reduceBNe, Nat.reduceBEq, Nat.reduceAdd, Nat.reduceSub, Nat.reduceMul, Nat.reduceLeDiff, Nat.reduceLT, Nat.reduceEqDiff, Nat.reduceBneDiff, Int.reduceLE, Int.reduceLT, Int.reduceToNat, Int.reduceBEq, Int.reduceBNe, Int.reduceAdd, Int.reduceSub, Int.cast_ofNat_Int]
  refine callA_tt N2 ?_
  simp -implicitDefEqProofs only [Int.natAbs_natCast, e0, go_sem, awp_seq, Nat.reduceBNe, Nat.reduceBEq, Nat.reduceAdd, Nat.reduceSub, Nat.reduceMul, Nat.reduceLeDiff, Nat.reduceLT, Nat.reduceEqDiff, Nat.reduceBneDiff, Int.reduceLE, Int.reduceLT, Int.reduceToNat, Int.reduceBEq, Int.reduceBNe, Int.reduceAdd, Int.reduceSub, Int.cast_ofNat_Int]
  refine callA_tt Bt ?_
  simp -implicitDefEqProofs only [hbt, go_sem, awp_seq, Nat.reduceBNe, Nat.reduceBEq, Nat.reduceAdd, Nat.reduceSub, Nat.reduceMul, Nat.reduceLeDiff, Nat.reduceLT, Nat.reduceEqDiff, Nat.reduceBneDiff, Int.reduceLE, Int.reduceLT, Int.reduceToNat, Int.reduceBEq, Int.reduceBNe, Int.reduceAdd, Int.reduceSub, Int.cast_ofNat_Int]
  refine callA_tt N1 ?_
  simp -implicitDefEqProofs only [go_sem, awp_seq, Nat.reduceBNe, Nat.reduceBEq, Nat.reduceAdd, Nat.reduceSub, Nat.reduceMul, Nat.reduceLeDiff, Nat.reduceLT, Nat.reduceEqDiff, Nat.reduceBneDiff, Int.reduceLE, Int.reduceLT, Int.reduceToNat, Int.reduceBEq, Int.reduceBNe, Int.reduceAdd, Int.reduceSub, Int.cast_ofNat_Int]
  refine callA_tt R ?_
  simp -implicitDefEqProofs only [go_sem, awp_seq, Nat.reduceBNe, Nat.reduceBEq, Nat.reduceAdd, Nat.reduceSub, Nat.reduceMul, Nat.reduceLeDiff, Nat.reduceLT, Nat.reduceEqDiff, Nat.reduceBneDiff, Int.reduceLE, Int.reduceLT, Int.reduceToNat, Int.reduceBEq, Int.reduceBNe, Int.reduceAdd, Int.reduceSub, Int.cast_ofNat_Int]
theorem r3of_c (z : Int) (d : Nat) (hd : 0 < d) (h1 : -9223372036854775808 ≤ z) (h2 : z ≤ 9223372036854775807) (h3 : d ≤ 9223372036854775807) : AT 92 [i64 z, i64 (d : Nat)] (.tup [ratN (rn z d) (rd z d), boo true]) := by
  have n1 : nlen z.natAbs ≤ 2 := nlen_le (by rw [show pw 2 = 18446744073709551616 from rfl]; omega)
  have n2 : nlen d ≤ 2 := nlen_le (by rw [show pw 2 = 18446744073709551616 from rfl]; omega)
  have M := r3make_c (dI z (by omega)) (dI (d : Int) (by rw [Int.natAbs_natCast]; omega)) hd
  refine ACalls.of ⟨6, []⟩ (fn := Tryz.f92) Tryz.func92 rfl rfl rfl (by kernel_rfl) (by kernel_rfl) (Nat.le_of_ble_eq_true rfl) ?_
  simp -implicitDefEqProofs only [go_sem, awp_seq, Nat.reduceBNe, Nat.reduceBEq, Nat.reduceAdd, Nat.reduceSub, Nat.reduceMul, Nat.reduceLeDiff, Nat.reduceLT, Nat.reduceEqDiff, Nat.reduceBneDiff, Int.reduceLE, Int.reduceLT, Int.reduceToNat, Int.reduceBEq, Int.reduceBNe, Int.reduceAdd, Int.reduceSub, Int.cast_ofNat_Int]
  refine callA_tt (r2of_c z h1 h2) ?_
  simp -implicitDefEqProofs only [go_sem, awp_seq, Nat.reduceBNe, Nat.reduceBEq, Nat.reduceAdd, Nat.reduceSub, Nat.reduceMul, Nat.reduceLeDiff, Nat.reduceLT, Nat.reduceEqDiff, Nat.reduceBneDiff, Int.reduceLE, Int.reduceLT, Int.reduceToNat, Int.reduceBEq, Int.reduceBNe, Int.reduceAdd, Int.reduceSub, Int.cast_ofNat_Int]
  refine callA_tt (r2of_c (d : Int) (by omega) (by omega)) ?_
  simp -implicitDefEqProofs only [go_sem, awp_seq, Nat.reduceBNe, Nat.reduceBEq, Nat.reduceAdd, Nat.reduceSub, Nat.reduceMul, Nat.reduceLeDiff, Nat.reduceLT, Nat.reduceEqDiff, Nat.reduceBneDiff, Int.reduceLE, Int.reduceLT, Int.reduceToNat, Int.reduceBEq, Int.reduceBNe, Int.reduceAdd, Int.reduceSub, Int.cast_ofNat_Int]
  refine callA_tt M ?_
  simp -implicitDefEqProofs only [go_sem, awp_seq, Nat.reduceBNe, Nat.reduceBEq, Nat.reduceAdd, Nat.reduceSub, Nat.reduceMul, Nat.reduceLeDiff, Nat.reduceLT, Nat.reduceEqDiff, Nat.reduceBneDiff, Int.reduceLE, Int.reduceLT, Int.reduceToNat, Int.reduceBEq, Int.reduceBNe, Int.reduceAdd, Int.reduceSub, Int.cast_ofNat_Int]
theorem whole_zero : AT 84 [i64 0] (ratN 0 1) := by
  have h := r3of_c 0 1 (by omega) (by omega) (by omega) (by omega)
  rw [rat01] at h
  refine ACalls.of ⟨4, []⟩ (fn := Tryz.f84) Tryz.func84 rfl rfl rfl (by kernel_rfl) (by kernel_rfl) (Nat.le_of_ble_eq_true rfl) ?_
  simp -implicitDefEqProofs only [go_sem, awp_seq, Nat.reduceBNe, Nat.reduceBEq, Nat.reduceAdd, Nat.reduceSub, Nat.reduceMul, Nat.reduceLeDiff, Nat.reduceLT, Nat.reduceEqDiff, Nat.reduceBneDiff, Int.reduceLE, Int.reduceLT, Int.reduceToNat, Int.reduceBEq, Int.reduceBNe, Int.reduceAdd, Int.reduceSub, Int.cast_ofNat_Int]
  refine callA_tt h ?_
  simp -implicitDefEqProofs only [go_sem, awp_seq, Nat.reduceBNe, Nat.reduceBEq, Nat.reduceAdd, Nat.reduceSub, Nat.reduceMul, Nat.reduceLeDiff, Nat.reduceLT, Nat.reduceEqDiff, Nat.reduceBneDiff, Int.reduceLE, Int.reduceLT, Int.reduceToNat, Int.reduceBEq, Int.reduceBNe, Int.reduceAdd, Int.reduceSub, Int.cast_ofNat_Int]
theorem mom_psum (pts : List Int) (ws : List (List Nat)) : ∀ k, mom f0 pts ws k = (psum ws k : Int)
  | 0 => rfl
  | k + 1 => by
    show mom f0 pts ws k + (val (ws.getD k []) : Int) * f0 (pts.getD k 0) = ((psum ws k + val (ws.getD k []) : Nat) : Int)
    rw [mom_psum pts ws k, f0]
    omega
theorem psum_pos {ws : List (List Nat)} : ∀ {k i : Nat}, i < k → val (ws.getD i []) ≠ 0 → psum ws k ≠ 0
  | k + 1, i, hi, h => by
    show psum ws k + val (ws.getD k []) ≠ 0
    by_cases he : i = k
    · subst he; omega
    · have := psum_pos (k := k) (by omega) h; omega
theorem psum_none {ws : List (List Nat)} : ∀ {k : Nat}, (∀ i, i < k → val (ws.getD i []) = 0) → psum ws k = 0
  | 0, _ => rfl
  | k + 1, h => by
    show psum ws k + val (ws.getD k []) = 0
    rw [psum_none (fun i hi => h i (by omega)), h k (by omega)]
theorem check18_c (pts prs : List Int) (ws : List (List Nat)) (hw : WOK ws) : AT 104 [gridA pts prs, nats ws] (i64 (varE pts prs ws)) := by
  have G := valid18_c pts prs
  unfold varE
  by_cases h1 : gridE pts prs ≠ 0
  · have g1 : (gridE pts prs != 0) = true := by simpa using h1
    rw [if_pos h1]
    refine ACalls.of ⟨7, []⟩ (fn := Tryz.f104) Tryz.func104 rfl rfl rfl (by kernel_rfl) (by kernel_rfl) (Nat.le_of_ble_eq_true rfl) ?_
    simp -implicitDefEqProofs only [go_sem, awp_seq, Nat.reduceBNe, Nat.reduceBEq, Nat.reduceAdd, Nat.reduceSub, Nat.reduceMul, Nat.reduceLeDiff, Nat.reduceLT, Nat.reduceEqDiff, Nat.reduceBneDiff, Int.reduceLE, Int.reduceLT, Int.reduceToNat, Int.reduceBEq, Int.reduceBNe, Int.reduceAdd, Int.reduceSub, Int.cast_ofNat_Int]
    refine callA_tt G ?_
    simp -implicitDefEqProofs only [g1, go_sem, awp_seq, Nat.reduceBNe, Nat.reduceBEq, Nat.reduceAdd, Nat.reduceSub, Nat.reduceMul, Nat.reduceLeDiff, Nat.reduceLT, Nat.reduceEqDiff, Nat.reduceBneDiff, Int.reduceLE, Int.reduceLT, Int.reduceToNat, Int.reduceBEq, Int.reduceBNe, Int.reduceAdd, Int.reduceSub, Int.cast_ofNat_Int]
  have g1 : (gridE pts prs != 0) = false := by simpa using h1
  have hgl := (grid_ok (by omega : gridE pts prs = 0)).1
  rw [if_neg h1]
  by_cases h2 : ws.length ≠ pts.length
  · have g2 : (((ws.length : Nat) : Int) != (pts.length : Nat)) = true := by rw [bne_iff_ne]; omega
    rw [if_pos h2]
    refine ACalls.of ⟨7, []⟩ (fn := Tryz.f104) Tryz.func104 rfl rfl rfl (by kernel_rfl) (by kernel_rfl) (Nat.le_of_ble_eq_true rfl) ?_
    simp -implicitDefEqProofs only [go_sem, awp_seq, Nat.reduceBNe, Nat.reduceBEq, Nat.reduceAdd, Nat.reduceSub, Nat.reduceMul, Nat.reduceLeDiff, Nat.reduceLT, Nat.reduceEqDiff, Nat.reduceBneDiff, Int.reduceLE, Int.reduceLT, Int.reduceToNat, Int.reduceBEq, Int.reduceBNe, Int.reduceAdd, Int.reduceSub, Int.cast_ofNat_Int]
    refine callA_tt G ?_
    simp -implicitDefEqProofs only [g1, g2, List.length_map, go_sem, awp_seq, Nat.reduceBNe, Nat.reduceBEq, Nat.reduceAdd, Nat.reduceSub, Nat.reduceMul, Nat.reduceLeDiff, Nat.reduceLT, Nat.reduceEqDiff, Nat.reduceBneDiff, Int.reduceLE, Int.reduceLT, Int.reduceToNat, Int.reduceBEq, Int.reduceBNe, Int.reduceAdd, Int.reduceSub, Int.cast_ofNat_Int]
  have h2' : ws.length = pts.length := by omega
  have g2 : (((ws.length : Nat) : Int) != (pts.length : Nat)) = false := by rw [h2']; simp
  rw [if_neg h2, mom_psum]
  obtain ⟨R, hR⟩ : ∃ R : Int, R = if ((psum ws pts.length : Nat) : Int) = 0 then 20 else 0 := ⟨_, rfl⟩
  rw [← hR]
  refine ACalls.of ⟨7, []⟩ (fn := Tryz.f104) Tryz.func104 rfl rfl rfl (by kernel_rfl) (by kernel_rfl) (Nat.le_of_ble_eq_true rfl) ?_
  simp -implicitDefEqProofs only [go_sem, awp_seq, Nat.reduceBNe, Nat.reduceBEq, Nat.reduceAdd, Nat.reduceSub, Nat.reduceMul, Nat.reduceLeDiff, Nat.reduceLT, Nat.reduceEqDiff, Nat.reduceBneDiff, Int.reduceLE, Int.reduceLT, Int.reduceToNat, Int.reduceBEq, Int.reduceBNe, Int.reduceAdd, Int.reduceSub, Int.cast_ofNat_Int]
  refine callA_tt G ?_
  simp -implicitDefEqProofs only [g1, g2, List.length_map, go_sem, awp_seq, Nat.reduceBNe, Nat.reduceBEq, Nat.reduceAdd, Nat.reduceSub, Nat.reduceMul, Nat.reduceLeDiff, Nat.reduceLT, Nat.reduceEqDiff, Nat.reduceBneDiff, Int.reduceLE, Int.reduceLT, Int.reduceToNat, Int.reduceBEq, Int.reduceBNe, Int.reduceAdd, Int.reduceSub, Int.cast_ofNat_Int]
  refine loop_mk (α := {k : Nat // k ≤ ws.length ∧ ∀ i, i < k → val (ws.getD i []) = 0}) (fun k => [(0, some (.av (gridA pts prs))), (1, some (.av (nats ws))), (2, some (.ref 2 0)), (4, some (.av (i64 0))), (6, some (.av (i64 (k.1 : Nat))))]) (fun _ => [(2, [ints pts, ints prs])]) (fun _ => []) (fun k => ws.length - k.1) ⟨0, Nat.zero_le _, fun i hi => by omega⟩ ?_ ?_
  · simp -implicitDefEqProofs only [go_sem, awp_seq, Nat.reduceBNe, Nat.reduceBEq, Nat.reduceAdd, Nat.reduceSub, Nat.reduceMul, Nat.reduceLeDiff, Nat.reduceLT, Nat.reduceEqDiff, Nat.reduceBneDiff, Int.reduceLE, Int.reduceLT, Int.reduceToNat, Int.reduceBEq, Int.reduceBNe, Int.reduceAdd, Int.reduceSub, Int.cast_ofNat_Int]
  · rintro ⟨k, hk, hall⟩
    by_cases hlt : k < ws.length
    · have q1 : decide (((k : Nat) : Int) < (ws.length : Nat)) = true := by simp; omega
      have e2 := map_get AV.nat ws hlt
      have d2 : ws.getD k [] = ws[k] := by simp [List.getD, hlt]
      have w1 : IntKind.i64.wrap ((k : Int) + 1) = ((k + 1 : Nat) : Int) := by rw [IntWalk.i64_in _ (by omega)]; omega
      obtain ⟨v1, v2⟩ := hw.get k
      have nx : val (ws.getD k []) = 0 → ∀ i, i < k + 1 → val (ws.getD i []) = 0 := fun h i hi => by
        by_cases he : i = k
        · subst he; exact h
        · exact hall i (by omega)
      have ps : val (ws.getD k []) ≠ 0 → R = 0 := fun h => by
        rw [hR, if_neg]
        have := psum_pos (ws := ws) (k := pts.length) (by omega) h
        omega
      rw [d2] at v1 v2 nx ps
      generalize ws[k] = x at *
      have B := r1bits_c x v1 (by omega)
      by_cases h3 : val x = 0
      · have g3 : decide ((0 : Int) < ((bitsN (val x) : Nat) : Int)) = false := by rw [h3, bitsN_zero]; rfl
        simp -implicitDefEqProofs only [q1, e2, List.length_map, Int.toNat_natCast, Int.natCast_nonneg, go_sem, awp_seq, Nat.reduceBNe, Nat.reduceBEq, Nat.reduceAdd, Nat.reduceSub, Nat.reduceMul, Nat.reduceLeDiff, Nat.reduceLT, Nat.reduceEqDiff, Nat.reduceBneDiff, Int.reduceLE, Int.reduceLT, Int.reduceToNat, Int.reduceBEq, Int.reduceBNe, Int.reduceAdd, Int.reduceSub, Int.cast_ofNat_Int]
        refine callA_tt B ?_
        simp -implicitDefEqProofs only [g3, w1, go_sem, awp_seq, Nat.reduceBNe, Nat.reduceBEq, Nat.reduceAdd, Nat.reduceSub, Nat.reduceMul, Nat.reduceLeDiff, Nat.reduceLT, Nat.reduceEqDiff, Nat.reduceBneDiff, Int.reduceLE, Int.reduceLT, Int.reduceToNat, Int.reduceBEq, Int.reduceBNe, Int.reduceAdd, Int.reduceSub, Int.cast_ofNat_Int]
        refine roundK_mk ⟨k + 1, by omega, nx h3⟩ ?_ (by show ws.length - (k + 1) < ws.length - k; omega)
        simp -implicitDefEqProofs only [go_sem, awp_seq, Nat.reduceBNe, Nat.reduceBEq, Nat.reduceAdd, Nat.reduceSub, Nat.reduceMul, Nat.reduceLeDiff, Nat.reduceLT, Nat.reduceEqDiff, Nat.reduceBneDiff, Int.reduceLE, Int.reduceLT, Int.reduceToNat, Int.reduceBEq, Int.reduceBNe, Int.reduceAdd, Int.reduceSub, Int.cast_ofNat_Int]
      · have g3 : decide ((0 : Int) < ((bitsN (val x) : Nat) : Int)) = true := by
          have := bitsN_pos (n := val x) (by omega)
          simp; omega
        have e := ps h3
        clear ps nx hR
        subst e
        simp -implicitDefEqProofs only [q1, e2, List.length_map, Int.toNat_natCast, Int.natCast_nonneg, go_sem, awp_seq, Nat.reduceBNe, Nat.reduceBEq, Nat.reduceAdd, Nat.reduceSub, Nat.reduceMul, Nat.reduceLeDiff, Nat.reduceLT, Nat.reduceEqDiff, Nat.reduceBneDiff, Int.reduceLE, Int.reduceLT, Int.reduceToNat, Int.reduceBEq, Int.reduceBNe, Int.reduceAdd, Int.reduceSub, Int.cast_ofNat_Int]
        refine callA_tt B ?_
        simp -implicitDefEqProofs only [g3, go_sem, awp_seq, Nat.reduceBNe, Nat.reduceBEq, Nat.reduceAdd, Nat.reduceSub, Nat.reduceMul, Nat.reduceLeDiff, Nat.reduceLT, Nat.reduceEqDiff, Nat.reduceBneDiff, Int.reduceLE, Int.reduceLT, Int.reduceToNat, Int.reduceBEq, Int.reduceBNe, Int.reduceAdd, Int.reduceSub, Int.cast_ofNat_Int]
    · have q1 : decide (((k : Nat) : Int) < (ws.length : Nat)) = false := by simp; omega
      have e : R = 20 := by
        rw [hR, if_pos]
        have := psum_none (ws := ws) (k := pts.length) (fun i hi => hall i (by omega))
        omega
      clear hR
      subst e
      simp -implicitDefEqProofs only [q1, List.length_map, go_sem, awp_seq, Nat.reduceBNe, Nat.reduceBEq, Nat.reduceAdd, Nat.reduceSub, Nat.reduceMul, Nat.reduceLeDiff, Nat.reduceLT, Nat.reduceEqDiff, Nat.reduceBneDiff, Int.reduceLE, Int.reduceLT, Int.reduceToNat, Int.reduceBEq, Int.reduceBNe, Int.reduceAdd, Int.reduceSub, Int.cast_ofNat_Int]
end Go.Proofs.YtfchbehmeppckaaGreat

/- Chapter 38: the mean and the variance in the reference. INTS -/
set_option linter.unusedSimpArgs false
set_option linter.unusedVariables false
namespace Go.Proofs.YtfchbehmeppckaaGreat
open Go.RowKit Lim

abbrev intsN (f : Int → Int) (pts : List Int) : AV := .sl 2 (pts.map (fun x => intN (f x)))
theorem share_c (f : Int → Int) (pts : List Int) (ws : List (List Nat)) (hw : WOK ws) (hl : ws.length = pts.length) (hn : pts.length ≤ 21) (hf : ∀ i, (f (pts.getD i 0)).natAbs < 4294967296) (hp : psum ws pts.length ≠ 0) :
    AT 86 [intsN f pts, nats ws] (ratN (rn (mom f pts ws pts.length) (psum ws pts.length)) (rd (mom f pts ws pts.length) (psum ws pts.length))) := by
  have b0 := mom_len (f := f) (pts := pts) hw hf
  have b1 := psum_len hw
  refine ACalls.of ⟨9, []⟩ (fn := Tryz.f86) Tryz.func86 rfl rfl rfl (by kernel_rfl) (by kernel_rfl) (Nat.le_of_ble_eq_true rfl) ?_
  simp -implicitDefEqProofs only [go_sem, awp_seq, Nat.reduceBNe, Nat.reduceBEq, Nat.reduceAdd, Nat.reduceSub, Nat.reduceMul, Nat.reduceLeDiff, Nat.reduceLT, Nat.reduceEqDiff, Nat.reduceBneDiff, Int.reduceLE, Int.reduceLT, Int.reduceToNat, Int.reduceBEq, Int.reduceBNe, Int.reduceAdd, Int.reduceSub, Int.cast_ofNat_Int]
  refine callA_tt (r2of_c 0 (by omega) (by omega)) ?_
  simp -implicitDefEqProofs only [List.length_map, go_sem, awp_seq, Nat.reduceBNe, Nat.reduceBEq, Nat.reduceAdd, Nat.reduceSub, Nat.reduceMul, Nat.reduceLeDiff, Nat.reduceLT, Nat.reduceEqDiff, Nat.reduceBneDiff, Int.reduceLE, Int.reduceLT, Int.reduceToNat, Int.reduceBEq, Int.reduceBNe, Int.reduceAdd, Int.reduceSub, Int.cast_ofNat_Int]
  refine loop_mk (α := {k : Nat // k ≤ pts.length}) (fun k => [(0, some (.av (intsN f pts))), (1, some (.av (nats ws))), (4, some (.ref 4 0)), (5, some (.ref 5 0)), (6, some (.av (slot3 ws k.1))), (7, some (.av (i64 (k.1 : Nat))))])
    (fun k => [(4, [boo false, .nat [], .nat []]), (5, intC (mom f pts ws k.1))]) (fun _ => []) (fun k => pts.length - k.1) ⟨0, Nat.zero_le _⟩ ?_ ?_
  · simp -implicitDefEqProofs only [mom, slot3, go_sem, awp_seq, Nat.reduceBNe, Nat.reduceBEq, Nat.reduceAdd, Nat.reduceSub, Nat.reduceMul, Nat.reduceLeDiff, Nat.reduceLT, Nat.reduceEqDiff, Nat.reduceBneDiff, Int.reduceLE, Int.reduceLT, Int.reduceToNat, Int.reduceBEq, Int.reduceBNe, Int.reduceAdd, Int.reduceSub, Int.cast_ofNat_Int]
    rfl
  · rintro ⟨k, hk⟩
    by_cases hlt : k < pts.length
    · have q1 : decide (((k : Nat) : Int) < (pts.length : Nat)) = true := by simp; omega
      have e1 := map_get (fun x => intN (f x)) pts hlt
      have e2 := map_get AV.nat ws (show k < ws.length by omega)
      have d1 := getD_get pts hlt
      have d2 : ws.getD k [] = ws[k] := by simp [List.getD, show k < ws.length by omega]
      have w1 : IntKind.i64.wrap ((k : Int) + 1) = ((k + 1 : Nat) : Int) := by rw [IntWalk.i64_in _ (by omega)]; omega
      obtain ⟨v1, v2⟩ := hw.get k
      have v3 := nlen_val v1
      have hp1 : nlen (f (pts.getD k 0)).natAbs ≤ 1 := nlen_small32 (hf k)
      have a0 := b0 k
      have a1 := b1 k
      have m1 : mom f pts ws (k + 1) = mom f pts ws k + f (pts.getD k 0) * (val (ws.getD k []) : Int) := by simp only [mom]; rw [Int.mul_comm]
      have m2 : psum ws (k + 1) = psum ws k + val (ws.getD k []) := rfl
      rw [d1] at hp1 m1
      rw [d2] at v1 v2 v3 m1 m2
      generalize f pts[k] = p at *
      generalize ws[k] = x at *
      have n1 : nlen (p * (val x : Int)).natAbs ≤ nlen p.natAbs + nlen (val x) := nlen_mulZ p (val x)
      have K1 := r2make_c false (n := val x) ⟨x, rfl, v1, rfl, by omega⟩
      rw [sg_false] at K1
      have K2 := r2mul_c (dI p (by omega)) (dI (val x : Int) (by rw [Int.natAbs_natCast]; omega)) (by rw [Int.natAbs_natCast]; omega)
      have K3 := r2add_c (dI (mom f pts ws k) (by omega)) (dI (p * (val x : Int)) (by omega)) (by omega)
      rw [← m1] at K3
      cases k with
      | zero =>
        have m0 : psum ws 0 = 0 := rfl
        have A := r1add_c [] x dig_nil v1 (by simp) (by omega)
        rw [show val [] + val x = psum ws (0 + 1) by rw [m2, m0]; rfl] at A
        have q1' : decide ((0 : Int) < (pts.length : Nat)) = true := q1
        have w0 : IntKind.i64.wrap 1 = 1 := by decide
        simp -implicitDefEqProofs only [slot3, q1', e1, e2, List.length_map, Int.toNat_zero, Int.le_refl, go_sem, awp_seq, Nat.reduceBNe, Nat.reduceBEq, Nat.reduceAdd, Nat.reduceSub, Nat.reduceMul, Nat.reduceLeDiff, Nat.reduceLT, Nat.reduceEqDiff, Nat.reduceBneDiff, Int.reduceLE, Int.reduceLT, Int.reduceToNat, Int.reduceBEq, Int.reduceBNe, Int.reduceAdd, Int.reduceSub, Int.cast_ofNat_Int]
        refine callA_tt K1 ?_
        simp -implicitDefEqProofs only [go_sem, awp_seq, Nat.reduceBNe, Nat.reduceBEq, Nat.reduceAdd, Nat.reduceSub, Nat.reduceMul, Nat.reduceLeDiff, Nat.reduceLT, Nat.reduceEqDiff, Nat.reduceBneDiff, Int.reduceLE, Int.reduceLT, Int.reduceToNat, Int.reduceBEq, Int.reduceBNe, Int.reduceAdd, Int.reduceSub, Int.cast_ofNat_Int]
        refine callA_tt K2 ?_
        simp -implicitDefEqProofs only [go_sem, awp_seq, Nat.reduceBNe, Nat.reduceBEq, Nat.reduceAdd, Nat.reduceSub, Nat.reduceMul, Nat.reduceLeDiff, Nat.reduceLT, Nat.reduceEqDiff, Nat.reduceBneDiff, Int.reduceLE, Int.reduceLT, Int.reduceToNat, Int.reduceBEq, Int.reduceBNe, Int.reduceAdd, Int.reduceSub, Int.cast_ofNat_Int]
        refine callA_tt K3 ?_
        simp -implicitDefEqProofs only [e2, Int.toNat_zero, Int.le_refl, go_sem, awp_seq, Nat.reduceBNe, Nat.reduceBEq, Nat.reduceAdd, Nat.reduceSub, Nat.reduceMul, Nat.reduceLeDiff, Nat.reduceLT, Nat.reduceEqDiff, Nat.reduceBneDiff, Int.reduceLE, Int.reduceLT, Int.reduceToNat, Int.reduceBEq, Int.reduceBNe, Int.reduceAdd, Int.reduceSub, Int.cast_ofNat_Int]
        refine callA_tt A ?_
        simp -implicitDefEqProofs only [w0, go_sem, awp_seq, Nat.reduceBNe, Nat.reduceBEq, Nat.reduceAdd, Nat.reduceSub, Nat.reduceMul, Nat.reduceLeDiff, Nat.reduceLT, Nat.reduceEqDiff, Nat.reduceBneDiff, Int.reduceLE, Int.reduceLT, Int.reduceToNat, Int.reduceBEq, Int.reduceBNe, Int.reduceAdd, Int.reduceSub, Int.cast_ofNat_Int]
        refine roundK_mk ⟨0 + 1, hlt⟩ ?_ (by show pts.length - (0 + 1) < pts.length - 0; omega)
        simp -implicitDefEqProofs only [slot3, go_sem, awp_seq, Nat.reduceBNe, Nat.reduceBEq, Nat.reduceAdd, Nat.reduceSub, Nat.reduceMul, Nat.reduceLeDiff, Nat.reduceLT, Nat.reduceEqDiff, Nat.reduceBneDiff, Int.reduceLE, Int.reduceLT, Int.reduceToNat, Int.reduceBEq, Int.reduceBNe, Int.reduceAdd, Int.reduceSub, Int.cast_ofNat_Int]
      | succ k =>
        have A := r1add_c (limbs (psum ws (k + 1))) x (dig_limbs _) v1 (by show nlen _ < _; omega) (by omega)
        rw [val_limbs, ← m2] at A
        simp -implicitDefEqProofs only [slot3, q1, e1, e2, List.length_map, Int.toNat_natCast, Int.natCast_nonneg, go_sem, awp_seq, Nat.reduceBNe, Nat.reduceBEq, Nat.reduceAdd, Nat.reduceSub, Nat.reduceMul, Nat.reduceLeDiff, Nat.reduceLT, Nat.reduceEqDiff, Nat.reduceBneDiff, Int.reduceLE, Int.reduceLT, Int.reduceToNat, Int.reduceBEq, Int.reduceBNe, Int.reduceAdd, Int.reduceSub, Int.cast_ofNat_Int]
        refine callA_tt K1 ?_
        simp -implicitDefEqProofs only [go_sem, awp_seq, Nat.reduceBNe, Nat.reduceBEq, Nat.reduceAdd, Nat.reduceSub, Nat.reduceMul, Nat.reduceLeDiff, Nat.reduceLT, Nat.reduceEqDiff, Nat.reduceBneDiff, Int.reduceLE, Int.reduceLT, Int.reduceToNat, Int.reduceBEq, Int.reduceBNe, Int.reduceAdd, Int.reduceSub, Int.cast_ofNat_Int]
        refine callA_tt K2 ?_
        simp -implicitDefEqProofs only [go_sem, awp_seq, Nat.reduceBNe, Nat.reduceBEq, Nat.reduceAdd, Nat.reduceSub, Nat.reduceMul, Nat.reduceLeDiff, Nat.reduceLT, Nat.reduceEqDiff, Nat.reduceBneDiff, Int.reduceLE, Int.reduceLT, Int.reduceToNat, Int.reduceBEq, Int.reduceBNe, Int.reduceAdd, Int.reduceSub, Int.cast_ofNat_Int]
        refine callA_tt K3 ?_
        simp -implicitDefEqProofs only [e2, Int.toNat_natCast, Int.natCast_nonneg, go_sem, awp_seq, Nat.reduceBNe, Nat.reduceBEq, Nat.reduceAdd, Nat.reduceSub, Nat.reduceMul, Nat.reduceLeDiff, Nat.reduceLT, Nat.reduceEqDiff, Nat.reduceBneDiff, Int.reduceLE, Int.reduceLT, Int.reduceToNat, Int.reduceBEq, Int.reduceBNe, Int.reduceAdd, Int.reduceSub, Int.cast_ofNat_Int]
        refine callA_tt A ?_
        simp -implicitDefEqProofs only [w1, go_sem, awp_seq, Nat.reduceBNe, Nat.reduceBEq, Nat.reduceAdd, Nat.reduceSub, Nat.reduceMul, Nat.reduceLeDiff, Nat.reduceLT, Nat.reduceEqDiff, Nat.reduceBneDiff, Int.reduceLE, Int.reduceLT, Int.reduceToNat, Int.reduceBEq, Int.reduceBNe, Int.reduceAdd, Int.reduceSub, Int.cast_ofNat_Int]
        refine roundK_mk ⟨k + 1 + 1, hlt⟩ ?_ (by show pts.length - (k + 1 + 1) < pts.length - (k + 1); omega)
        simp -implicitDefEqProofs only [slot3, go_sem, awp_seq, Nat.reduceBNe, Nat.reduceBEq, Nat.reduceAdd, Nat.reduceSub, Nat.reduceMul, Nat.reduceLeDiff, Nat.reduceLT, Nat.reduceEqDiff, Nat.reduceBneDiff, Int.reduceLE, Int.reduceLT, Int.reduceToNat, Int.reduceBEq, Int.reduceBNe, Int.reduceAdd, Int.reduceSub, Int.cast_ofNat_Int]
    · have q1 : decide (((k : Nat) : Int) < (pts.length : Nat)) = false := by simp; omega
      have hk' : k = pts.length := by omega
      have a0 := b0 pts.length
      have a1 := b1 pts.length
      have K1 := r2make_c false (dN (psum ws pts.length) (by omega))
      rw [sg_false] at K1
      have K2 := r3make_c (dI (mom f pts ws pts.length) (by omega)) (dI (psum ws pts.length : Int) (by rw [Int.natAbs_natCast]; omega)) (by omega)
      subst hk'
      have hpos : 0 < pts.length := by
        cases hq : pts.length with
        | zero => rw [hq] at hp; exact absurd rfl hp
        | succ => omega
      have es : slot3 ws pts.length = natN (psum ws pts.length) := by
        cases hq : pts.length with
        | zero => omega
        | succ => rfl
      simp -implicitDefEqProofs only [es, q1, List.length_map, go_sem, awp_seq, Nat.reduceBNe, Nat.reduceBEq, Nat.reduceAdd, Nat.reduceSub, Nat.reduceMul, Nat.reduceLeDiff, Nat.reduceLT, Nat.reduceEqDiff, Nat.reduceBneDiff, Int.reduceLE, Int.reduceLT, Int.reduceToNat, Int.reduceBEq, Int.reduceBNe, Int.reduceAdd, Int.reduceSub, Int.cast_ofNat_Int]
      refine callA_tt K1 ?_
      simp -implicitDefEqProofs only [go_sem, awp_seq, Nat.reduceBNe, Nat.reduceBEq, Nat.reduceAdd, Nat.reduceSub, Nat.reduceMul, Nat.reduceLeDiff, Nat.reduceLT, Nat.reduceEqDiff, Nat.reduceBneDiff, Int.reduceLE, Int.reduceLT, Int.reduceToNat, Int.reduceBEq, Int.reduceBNe, Int.reduceAdd, Int.reduceSub, Int.cast_ofNat_Int]
      refine callA_tt K2 ?_
      simp -implicitDefEqProofs only [go_sem, awp_seq, Nat.reduceBNe, Nat.reduceBEq, Nat.reduceAdd, Nat.reduceSub, Nat.reduceMul, Nat.reduceLeDiff, Nat.reduceLT, Nat.reduceEqDiff, Nat.reduceBneDiff, Int.reduceLE, Int.reduceLT, Int.reduceToNat, Int.reduceBEq, Int.reduceBNe, Int.reduceAdd, Int.reduceSub, Int.cast_ofNat_Int]
end Go.Proofs.YtfchbehmeppckaaGreat

/- Chapter 38: the mean and the variance in the reference. INTS -/
set_option linter.unusedSimpArgs false
set_option linter.unusedVariables false
namespace Go.Proofs.YtfchbehmeppckaaGreat
open Go.RowKit Lim

/-- The row of numbers behind k of n rounds, in the slot s: nothing; a row of the call's own; a row that is written no more. -/
def mrow (f : Int → Int) (pts : List Int) (s : Nat) (k : Nat) : TV := if k = 0 then .av (.lit (.slice none 0 0)) else if k < pts.length then .osl s 2 0 k else .av (intsN f pts)
def mown (f : Int → Int) (pts : List Int) (s : Nat) (k : Nat) : LQ := if k = 0 then [] else if k < pts.length then [(s, .row 32 2 ((pts.take k).map (fun x => intN (f x))))] else []
theorem mrow0 (f : Int → Int) (pts : List Int) (s : Nat) : mrow f pts s 0 = .av (.lit (.slice none 0 0)) ∧ mown f pts s 0 = [] := ⟨rfl, rfl⟩
theorem mrow1 (f : Int → Int) (pts : List Int) (s : Nat) {k : Nat} (h0 : k ≠ 0) (h : k < pts.length) : mrow f pts s k = .osl s 2 0 k ∧ mown f pts s k = [(s, .row 32 2 ((pts.take k).map (fun x => intN (f x))))] := by
  unfold mrow mown
  rw [if_neg h0, if_pos h, if_neg h0, if_pos h]
  exact ⟨rfl, rfl⟩
theorem mrow2 (f : Int → Int) (pts : List Int) (s : Nat) {k : Nat} (h0 : k ≠ 0) (h : ¬ k < pts.length) : mrow f pts s k = .av (intsN f pts) ∧ mown f pts s k = [] := by
  unfold mrow mown
  rw [if_neg h0, if_neg h, if_neg h0, if_neg h]
  exact ⟨rfl, rfl⟩
theorem mtake (f : Int → Int) (pts : List Int) {k : Nat} (h : k < pts.length) : (pts.take (k + 1)).map (fun x => intN (f x)) = (pts.take k).map (fun x => intN (f x)) ++ [intN (f pts[k])] := by
  rw [List.take_succ_eq_append_getElem h, List.map_append]
  rfl
def meanR (pts prs : List Int) (ws : List (List Nat)) : AV := if varE pts prs ws = 0 then ratN (rn (mom f1 pts ws pts.length) (psum ws pts.length)) (rd (mom f1 pts ws pts.length) (psum ws pts.length)) else ratN 0 1
set_option maxHeartbeats 1000000 in
theorem mean18_c (pts prs : List Int) (ws : List (List Nat)) (hw : WOK ws) : AT 83 [gridA pts prs, nats ws] (.tup [meanR pts prs ws, i64 (varE pts prs ws)]) := by
  have C := check18_c pts prs ws hw
  unfold meanR
  by_cases h : varE pts prs ws = 0
  · rw [if_pos h, h]
    rw [h] at C
    obtain ⟨h1, h2, h3⟩ := var_ok h
    obtain ⟨k1, k2, k3, k4⟩ := grid_ok h1
    rw [mom_psum] at h3
    have Sh := share_c f1 pts ws hw h2 k1 (fun i => by have := k4 i; simp only [f1]; omega) (by omega)
    generalize rn (mom f1 pts ws pts.length) (psum ws pts.length) = X at *
    generalize rd (mom f1 pts ws pts.length) (psum ws pts.length) = Y at *
    refine ACalls.of ⟨9, []⟩ (fn := Tryz.f83) Tryz.func83 rfl rfl rfl (by kernel_rfl) (by kernel_rfl) (Nat.le_of_ble_eq_true rfl) ?_
    simp -implicitDefEqProofs only [go_sem, awp_seq, Nat.reduceBNe, Nat.reduceBEq, Nat.reduceAdd, Nat.reduceSub, Nat.reduceMul, Nat.reduceLeDiff, Nat.reduceLT, Nat.reduceEqDiff, Nat.reduceBneDiff, Int.reduceLE, Int.reduceLT, Int.reduceToNat, Int.reduceBEq, Int.reduceBNe, Int.reduceAdd, Int.reduceSub, Int.cast_ofNat_Int]
    refine callA_tt C ?_
    simp -implicitDefEqProofs only [bne_self_eq_false, go_sem, awp_seq, Nat.reduceBNe, Nat.reduceBEq, Nat.reduceAdd, Nat.reduceSub, Nat.reduceMul, Nat.reduceLeDiff, Nat.reduceLT, Nat.reduceEqDiff, Nat.reduceBneDiff, Int.reduceLE, Int.reduceLT, Int.reduceToNat, Int.reduceBEq, Int.reduceBNe, Int.reduceAdd, Int.reduceSub, Int.cast_ofNat_Int]
    refine loop_mk (α := {k : Nat // k ≤ pts.length}) (fun k => [(0, some (.av (gridA pts prs))), (1, some (.av (nats ws))), (2, some (.ref 2 0)), (4, some (.ref 4 0)), (5, some (.av (i64 0))), (7, some (mrow f1 pts 30 k.1)), (8, some (.av (i64 (k.1 : Nat))))])
      (fun _ => [(2, [ints pts, ints prs]), (4, [boo false, .nat [], .nat []])]) (fun k => mown f1 pts 30 k.1) (fun k => pts.length - k.1) ⟨0, Nat.zero_le _⟩ ?_ ?_
    · simp -implicitDefEqProofs only [mrow0, go_sem, awp_seq, Nat.reduceBNe, Nat.reduceBEq, Nat.reduceAdd, Nat.reduceSub, Nat.reduceMul, Nat.reduceLeDiff, Nat.reduceLT, Nat.reduceEqDiff, Nat.reduceBneDiff, Int.reduceLE, Int.reduceLT, Int.reduceToNat, Int.reduceBEq, Int.reduceBNe, Int.reduceAdd, Int.reduceSub, Int.cast_ofNat_Int]
    · rintro ⟨k, hk⟩
      by_cases hlt : k < pts.length
      · have q1 : decide (((k : Nat) : Int) < (ws.length : Nat)) = true := by simp; omega
        have e1 := map_get (fun x => i64 x) pts hlt
        have d1 := getD_get pts hlt
        have w1 : IntKind.i64.wrap ((k : Int) + 1) = ((k + 1 : Nat) : Int) := by rw [IntWalk.i64_in _ (by omega)]; omega
        have p1 := k4 k
        have mt : (pts.take (k + 1)).map (fun x => intN (f1 x)) = (pts.take k).map (fun x => intN (f1 x)) ++ [AV.agg [boo (decide (f1 pts[k] < 0)), AV.nat (limbs (f1 pts[k]).natAbs)]] := mtake f1 pts hlt
        have hlen : ((pts.take k).map (fun x => intN (f1 x))).length = k := by simp; omega
        rw [d1] at p1
        generalize pts[k] = p at *
        have O := r2of_c p (by omega) (by omega)
        replace mt : (pts.take (k + 1)).map (fun x => intN (f1 x)) = (pts.take k).map (fun x => intN (f1 x)) ++ [AV.agg [boo (decide (p < 0)), AV.nat (limbs p.natAbs)]] := mt
        cases k with
        | zero =>
          have q1' : decide ((0 : Int) < (ws.length : Nat)) = true := q1
          have w0 : IntKind.i64.wrap 1 = 1 := by decide
          have mt0 : (pts.take (0 + 1)).map (fun x => intN (f1 x)) = [AV.agg [boo (decide (p < 0)), AV.nat (limbs p.natAbs)]] := mt
          simp -implicitDefEqProofs only [mrow0, q1', e1, List.length_map, Int.toNat_zero, Int.le_refl, go_sem, awp_seq, Nat.reduceBNe, Nat.reduceBEq, Nat.reduceAdd, Nat.reduceSub, Nat.reduceMul, Nat.reduceLeDiff, Nat.reduceLT, Nat.reduceEqDiff, Nat.reduceBneDiff, Int.reduceLE, Int.reduceLT, Int.reduceToNat, Int.reduceBEq, Int.reduceBNe, Int.reduceAdd, Int.reduceSub, Int.cast_ofNat_Int]
          refine callA_tt O ?_
          simp -implicitDefEqProofs only [w0, go_sem, awp_seq, Nat.reduceBNe, Nat.reduceBEq, Nat.reduceAdd, Nat.reduceSub, Nat.reduceMul, Nat.reduceLeDiff, Nat.reduceLT, Nat.reduceEqDiff, Nat.reduceBneDiff, Int.reduceLE, Int.reduceLT, Int.reduceToNat, Int.reduceBEq, Int.reduceBNe, Int.reduceAdd, Int.reduceSub, Int.cast_ofNat_Int]
          refine ⟨fun _ => trivial, ?_⟩
          by_cases hn1 : 0 + 1 < pts.length
          · have r1 := mrow1 f1 pts 30 (k := 0 + 1) (by omega) hn1
            refine roundK_mk ⟨0 + 1, by omega⟩ ?_ (by show pts.length - (0 + 1) < pts.length - 0; omega)
            simp -implicitDefEqProofs only [r1, mt0, go_sem, awp_seq, Nat.reduceBNe, Nat.reduceBEq, Nat.reduceAdd, Nat.reduceSub, Nat.reduceMul, Nat.reduceLeDiff, Nat.reduceLT, Nat.reduceEqDiff, Nat.reduceBneDiff, Int.reduceLE, Int.reduceLT, Int.reduceToNat, Int.reduceBEq, Int.reduceBNe, Int.reduceAdd, Int.reduceSub, Int.cast_ofNat_Int]
          · have r1 := mrow2 f1 pts 30 (k := 0 + 1) (by omega) hn1
            have full : pts.take (0 + 1) = pts := List.take_of_length_le (by omega)
            rw [full] at mt0
            refine roundK_mk ⟨0 + 1, by omega⟩ ?_ (by show pts.length - (0 + 1) < pts.length - 0; omega)
            simp -implicitDefEqProofs only [r1, mt0, go_sem, awp_seq, Nat.reduceBNe, Nat.reduceBEq, Nat.reduceAdd, Nat.reduceSub, Nat.reduceMul, Nat.reduceLeDiff, Nat.reduceLT, Nat.reduceEqDiff, Nat.reduceBneDiff, Int.reduceLE, Int.reduceLT, Int.reduceToNat, Int.reduceBEq, Int.reduceBNe, Int.reduceAdd, Int.reduceSub, Int.cast_ofNat_Int]
            exact congrArg (AV.sl 2) mt0
        | succ k =>
          have r0 := mrow1 f1 pts 30 (Nat.succ_ne_zero k) hlt
          rw [show k.succ = k + 1 from rfl] at r0
          generalize (pts.take (k + 1)).map (fun x => intN (f1 x)) = es at *
          simp -implicitDefEqProofs only [r0, q1, e1, List.length_map, Int.toNat_natCast, Int.natCast_nonneg, go_sem, awp_seq, Nat.reduceBNe, Nat.reduceBEq, Nat.reduceAdd, Nat.reduceSub, Nat.reduceMul, Nat.reduceLeDiff, Nat.reduceLT, Nat.reduceEqDiff, Nat.reduceBneDiff, Int.reduceLE, Int.reduceLT, Int.reduceToNat, Int.reduceBEq, Int.reduceBNe, Int.reduceAdd, Int.reduceSub, Int.cast_ofNat_Int]
          refine callA_tt O ?_
          simp -implicitDefEqProofs only [w1, hlen, go_sem, awp_seq, Nat.reduceBNe, Nat.reduceBEq, Nat.reduceAdd, Nat.reduceSub, Nat.reduceMul, Nat.reduceLeDiff, Nat.reduceLT, Nat.reduceEqDiff, Nat.reduceBneDiff, Int.reduceLE, Int.reduceLT, Int.reduceToNat, Int.reduceBEq, Int.reduceBNe, Int.reduceAdd, Int.reduceSub, Int.cast_ofNat_Int]
          refine ⟨fun _ => trivial, by omega, by omega, ?_⟩
          by_cases hn1 : k + 1 + 1 < pts.length
          · have r1 := mrow1 f1 pts 30 (k := k + 1 + 1) (by omega) hn1
            refine roundK_mk ⟨k + 1 + 1, by omega⟩ ?_ (by show pts.length - (k + 1 + 1) < pts.length - (k + 1); omega)
            simp -implicitDefEqProofs only [r1, mt, hlen, go_sem, awp_seq, Nat.reduceBNe, Nat.reduceBEq, Nat.reduceAdd, Nat.reduceSub, Nat.reduceMul, Nat.reduceLeDiff, Nat.reduceLT, Nat.reduceEqDiff, Nat.reduceBneDiff, Int.reduceLE, Int.reduceLT, Int.reduceToNat, Int.reduceBEq, Int.reduceBNe, Int.reduceAdd, Int.reduceSub, Int.cast_ofNat_Int]
          · have r1 := mrow2 f1 pts 30 (k := k + 1 + 1) (by omega) hn1
            have full : pts.take (k + 1 + 1) = pts := List.take_of_length_le (by omega)
            rw [full] at mt
            have tk : List.take (k + 1 + 1) (es ++ [AV.agg [boo (decide (p < 0)), AV.nat (limbs p.natAbs)]]) = es ++ [AV.agg [boo (decide (p < 0)), AV.nat (limbs p.natAbs)]] := List.take_of_length_le (by simp [hlen])
            refine roundK_mk ⟨k + 1 + 1, by omega⟩ ?_ (by show pts.length - (k + 1 + 1) < pts.length - (k + 1); omega)
            simp -implicitDefEqProofs only [r1, mt, hlen, tk, Nat.le_refl, go_sem, awp_seq, Nat.reduceBNe, Nat.reduceBEq, Nat.reduceAdd, Nat.reduceSub, Nat.reduceMul, Nat.reduceLeDiff, Nat.reduceLT, Nat.reduceEqDiff, Nat.reduceBneDiff, Int.reduceLE, Int.reduceLT, Int.reduceToNat, Int.reduceBEq, Int.reduceBNe, Int.reduceAdd, Int.reduceSub, Int.cast_ofNat_Int]
            exact congrArg (AV.sl 2) mt
      · have q1 : decide (((k : Nat) : Int) < (ws.length : Nat)) = false := by simp; omega
        have r2 := mrow2 f1 pts 30 (show k ≠ 0 by omega) hlt
        simp -implicitDefEqProofs only [r2, q1, List.length_map, go_sem, awp_seq, Nat.reduceBNe, Nat.reduceBEq, Nat.reduceAdd, Nat.reduceSub, Nat.reduceMul, Nat.reduceLeDiff, Nat.reduceLT, Nat.reduceEqDiff, Nat.reduceBneDiff, Int.reduceLE, Int.reduceLT, Int.reduceToNat, Int.reduceBEq, Int.reduceBNe, Int.reduceAdd, Int.reduceSub, Int.cast_ofNat_Int]
        refine callA_tt Sh ?_
        simp -implicitDefEqProofs only [go_sem, awp_seq, Nat.reduceBNe, Nat.reduceBEq, Nat.reduceAdd, Nat.reduceSub, Nat.reduceMul, Nat.reduceLeDiff, Nat.reduceLT, Nat.reduceEqDiff, Nat.reduceBneDiff, Int.reduceLE, Int.reduceLT, Int.reduceToNat, Int.reduceBEq, Int.reduceBNe, Int.reduceAdd, Int.reduceSub, Int.cast_ofNat_Int]
  · have g1 : (varE pts prs ws != 0) = true := by simpa using h
    rw [if_neg h]
    generalize varE pts prs ws = e at *
    refine ACalls.of ⟨9, []⟩ (fn := Tryz.f83) Tryz.func83 rfl rfl rfl (by kernel_rfl) (by kernel_rfl) (Nat.le_of_ble_eq_true rfl) ?_
    simp -implicitDefEqProofs only [go_sem, awp_seq, Nat.reduceBNe, Nat.reduceBEq, Nat.reduceAdd, Nat.reduceSub, Nat.reduceMul, Nat.reduceLeDiff, Nat.reduceLT, Nat.reduceEqDiff, Nat.reduceBneDiff, Int.reduceLE, Int.reduceLT, Int.reduceToNat, Int.reduceBEq, Int.reduceBNe, Int.reduceAdd, Int.reduceSub, Int.cast_ofNat_Int]
    refine callA_tt C ?_
    simp -implicitDefEqProofs only [g1, go_sem, awp_seq, Nat.reduceBNe, Nat.reduceBEq, Nat.reduceAdd, Nat.reduceSub, Nat.reduceMul, Nat.reduceLeDiff, Nat.reduceLT, Nat.reduceEqDiff, Nat.reduceBneDiff, Int.reduceLE, Int.reduceLT, Int.reduceToNat, Int.reduceBEq, Int.reduceBNe, Int.reduceAdd, Int.reduceSub, Int.cast_ofNat_Int]
    refine callA_tt whole_zero ?_
    simp -implicitDefEqProofs only [go_sem, awp_seq, Nat.reduceBNe, Nat.reduceBEq, Nat.reduceAdd, Nat.reduceSub, Nat.reduceMul, Nat.reduceLeDiff, Nat.reduceLT, Nat.reduceEqDiff, Nat.reduceBneDiff, Int.reduceLE, Int.reduceLT, Int.reduceToNat, Int.reduceBEq, Int.reduceBNe, Int.reduceAdd, Int.reduceSub, Int.cast_ofNat_Int]
    rfl
theorem Eqv.mul {n x n' x' : Int} {d y d' y' : Nat} (h : Eqv n d x y) (k : Eqv n' d' x' y') : Eqv (n * n') (d * d') (x * x') (y * y') := by
  refine ⟨Nat.mul_pos h.dp k.dp, Nat.mul_pos h.yp k.yp, ?_⟩
  have e1 := h.e
  have e2 := k.e
  rw [Int.natCast_mul, Int.natCast_mul]
  have : n * n' * ((y : Int) * (y' : Int)) = (n * (y : Int)) * (n' * (y' : Int)) := by grind
  rw [this, e1, e2]
  grind
theorem Eqv.sub {n x n' x' : Int} {d y d' y' : Nat} (h : Eqv n d x y) (k : Eqv n' d' x' y') : Eqv (n * (d' : Int) - n' * (d : Int)) (d * d') (x * (y' : Int) - x' * (y : Int)) (y * y') := by
  have := h.add k.neg
  rw [Int.neg_mul, Int.neg_mul, ← Int.sub_eq_add_neg, ← Int.sub_eq_add_neg] at this
  exact this
set_option maxHeartbeats 1000000 in
theorem var18_bad (pts prs : List Int) (ws : List (List Nat)) (hw : WOK ws) (h : varE pts prs ws ≠ 0) : AT 50 [gridA pts prs, nats ws] (.tup [ratN 0 1, i64 (varE pts prs ws)]) := by
  have C := mean18_c pts prs ws hw
  have g1 : (varE pts prs ws != 0) = true := by simpa using h
  rw [show meanR pts prs ws = ratN 0 1 by unfold meanR; rw [if_neg h]] at C
  generalize varE pts prs ws = e at *
  refine ACalls.of ⟨10, []⟩ (fn := Tryz.f50) Tryz.func50 rfl rfl rfl (by kernel_rfl) (by kernel_rfl) (Nat.le_of_ble_eq_true rfl) ?_
  simp -implicitDefEqProofs only [go_sem, awp_seq, Nat.reduceBNe, Nat.reduceBEq, Nat.reduceAdd, Nat.reduceSub, Nat.reduceMul, Nat.reduceLeDiff, Nat.reduceLT, Nat.reduceEqDiff, Nat.reduceBneDiff, Int.reduceLE, Int.reduceLT, Int.reduceToNat, Int.reduceBEq, Int.reduceBNe, Int.reduceAdd, Int.reduceSub, Int.cast_ofNat_Int]
  refine callA_tt C ?_
  simp -implicitDefEqProofs only [g1, go_sem, awp_seq, Nat.reduceBNe, Nat.reduceBEq, Nat.reduceAdd, Nat.reduceSub, Nat.reduceMul, Nat.reduceLeDiff, Nat.reduceLT, Nat.reduceEqDiff, Nat.reduceBneDiff, Int.reduceLE, Int.reduceLT, Int.reduceToNat, Int.reduceBEq, Int.reduceBNe, Int.reduceAdd, Int.reduceSub, Int.cast_ofNat_Int]
  refine callA_tt whole_zero ?_
  simp -implicitDefEqProofs only [go_sem, awp_seq, Nat.reduceBNe, Nat.reduceBEq, Nat.reduceAdd, Nat.reduceSub, Nat.reduceMul, Nat.reduceLeDiff, Nat.reduceLT, Nat.reduceEqDiff, Nat.reduceBneDiff, Int.reduceLE, Int.reduceLT, Int.reduceToNat, Int.reduceBEq, Int.reduceBNe, Int.reduceAdd, Int.reduceSub, Int.cast_ofNat_Int]
  rfl
set_option maxHeartbeats 2000000 in
theorem var18_ok (pts prs : List Int) (ws : List (List Nat)) (hw : WOK ws) (h : varE pts prs ws = 0) : ∃ R G, AT 50 [gridA pts prs, nats ws] (.tup [ratN R G, i64 0]) ∧ Eqv R G (varN pts ws) (varD pts ws) ∧ nlen R.natAbs < 100000000 ∧ nlen G < 100000000 := by
  have C := mean18_c pts prs ws hw
  rw [show meanR pts prs ws = ratN (rn (mom f1 pts ws pts.length) (psum ws pts.length)) (rd (mom f1 pts ws pts.length) (psum ws pts.length)) by unfold meanR; rw [if_pos h], h] at C
  obtain ⟨h1, h2, h3⟩ := var_ok h
  obtain ⟨k1, k2, k3, k4⟩ := grid_ok h1
  obtain ⟨b0, b1, b2⟩ := mom_bounds hw h1
  have sq : ∀ i, (f2 (pts.getD i 0)).natAbs < 4294967296 := fun i => by
    have := k4 i
    simp only [f2]
    rw [Int.natAbs_mul]
    have h : (pts.getD i 0).natAbs ≤ 1000 := by omega
    have := Nat.mul_le_mul h h
    omega
  have hps := mom_psum pts ws pts.length
  rw [hps] at h3 b0
  rw [Int.natAbs_natCast] at b0
  have hA : 0 < psum ws pts.length := by omega
  have Sh := share_c f2 pts ws hw h2 k1 sq (by omega)
  have eN : varN pts ws = (psum ws pts.length : Int) * mom f2 pts ws pts.length - mom f1 pts ws pts.length * mom f1 pts ws pts.length := by unfold varN; rw [hps]
  have eD : varD pts ws = psum ws pts.length * psum ws pts.length := by unfold varD; rw [hps, Int.natAbs_mul, Int.natAbs_natCast]
  rw [eN, eD]
  have E2 := Eqv.norm (mom f2 pts ws pts.length) hA
  have E1 := Eqv.norm (mom f1 pts ws pts.length) hA
  have l1 := nlen_rn (mom f1 pts ws pts.length) (psum ws pts.length)
  have l2 := nlen_rd (mom f1 pts ws pts.length) (psum ws pts.length)
  have l3 := nlen_rn (mom f2 pts ws pts.length) (psum ws pts.length)
  have l4 := nlen_rd (mom f2 pts ws pts.length) (psum ws pts.length)
  generalize rn (mom f1 pts ws pts.length) (psum ws pts.length) = XM at *
  generalize rd (mom f1 pts ws pts.length) (psum ws pts.length) = YM at *
  generalize rn (mom f2 pts ws pts.length) (psum ws pts.length) = X2 at *
  generalize rd (mom f2 pts ws pts.length) (psum ws pts.length) = Y2 at *
  generalize psum ws pts.length = A at *
  generalize mom f1 pts ws pts.length = M1 at *
  generalize mom f2 pts ws pts.length = M2 at *
  have Mu := r3mul_c (dR XM YM (by omega) (by omega)) (dR XM YM (by omega) (by omega))
  rw [pz_pos _ E1.dp, pd_id E1.dp] at Mu
  have hYY : 0 < YM * YM := Nat.mul_pos E1.dp E1.dp
  have Eq := (Eqv.norm (XM * XM) hYY).trans (E1.mul E1)
  have l5 := nlen_rn (XM * XM) (YM * YM)
  have l6 := nlen_rd (XM * XM) (YM * YM)
  have l7 := nlen_mulI XM XM
  have l8 := nlen_mul YM YM
  generalize rn (XM * XM) (YM * YM) = XQ at *
  generalize rd (XM * XM) (YM * YM) = YQ at *
  obtain ⟨R, G, Su, Es, s1, s2⟩ := r3sub_c (dR X2 Y2 (by omega) (by omega)) (dR XQ YQ (by omega) (by omega)) (by omega)
  rw [pz_pos _ E2.dp, pd_id E2.dp, pz_pos _ Eq.dp, pd_id Eq.dp] at Es
  have Ef := Es.trans (E2.sub Eq)
  refine ⟨R, G, ?_, Ef.trans ⟨Ef.yp, Nat.mul_pos hA hA, ?_⟩, by omega, by omega⟩
  · have g1 : ((0 : Int) != 0) = false := rfl
    refine ACalls.of ⟨10, []⟩ (fn := Tryz.f50) Tryz.func50 rfl rfl rfl (by kernel_rfl) (by kernel_rfl) (Nat.le_of_ble_eq_true rfl) ?_
    simp -implicitDefEqProofs only [go_sem, awp_seq, Nat.reduceBNe, Nat.reduceBEq, Nat.reduceAdd, Nat.reduceSub, Nat.reduceMul, Nat.reduceLeDiff, Nat.reduceLT, Nat.reduceEqDiff, Nat.reduceBneDiff, Int.reduceLE, Int.reduceLT, Int.reduceToNat, Int.reduceBEq, Int.reduceBNe, Int.reduceAdd, Int.reduceSub, Int.cast_ofNat_Int]
    refine callA_tt C ?_
    simp -implicitDefEqProofs only [g1, go_sem, awp_seq, Nat.reduceBNe, Nat.reduceBEq, Nat.reduceAdd, Nat.reduceSub, Nat.reduceMul, Nat.reduceLeDiff, Nat.reduceLT, Nat.reduceEqDiff, Nat.reduceBneDiff, Int.reduceLE, Int.reduceLT, Int.reduceToNat, Int.reduceBEq, Int.reduceBNe, Int.reduceAdd, Int.reduceSub, Int.cast_ofNat_Int]
    refine loop_mk (α := {k : Nat // k ≤ pts.length}) (fun k => [(0, some (.av (gridA pts prs))), (1, some (.av (nats ws))), (2, some (.ref 2 0)), (4, some (.ref 4 0)), (5, some (.av (i64 0))), (6, some (.ref 6 0)), (7, some (.av (i64 0))), (8, some (mrow f2 pts 40 k.1)), (9, some (.av (i64 (k.1 : Nat))))])
      (fun _ => [(2, [ints pts, ints prs]), (4, [boo false, .nat [], .nat []]), (6, [boo (decide (XM < 0)), .nat (limbs XM.natAbs), .nat (limbs YM)])]) (fun k => mown f2 pts 40 k.1) (fun k => pts.length - k.1) ⟨0, Nat.zero_le _⟩ ?_ ?_
    · simp -implicitDefEqProofs only [mrow0, go_sem, awp_seq, Nat.reduceBNe, Nat.reduceBEq, Nat.reduceAdd, Nat.reduceSub, Nat.reduceMul, Nat.reduceLeDiff, Nat.reduceLT, Nat.reduceEqDiff, Nat.reduceBneDiff, Int.reduceLE, Int.reduceLT, Int.reduceToNat, Int.reduceBEq, Int.reduceBNe, Int.reduceAdd, Int.reduceSub, Int.cast_ofNat_Int]
    · rintro ⟨k, hk⟩
      by_cases hlt : k < pts.length
      · have q1 : decide (((k : Nat) : Int) < (ws.length : Nat)) = true := by simp; omega
        have e1 := map_get (fun x => i64 x) pts hlt
        have d1 := getD_get pts hlt
        have w1 : IntKind.i64.wrap ((k : Int) + 1) = ((k + 1 : Nat) : Int) := by rw [IntWalk.i64_in _ (by omega)]; omega
        have p1 := k4 k
        have mt : (pts.take (k + 1)).map (fun x => intN (f2 x)) = (pts.take k).map (fun x => intN (f2 x)) ++ [AV.agg [boo (decide (f2 pts[k] < 0)), AV.nat (limbs (f2 pts[k]).natAbs)]] := mtake f2 pts hlt
        have hlen : ((pts.take k).map (fun x => intN (f2 x))).length = k := by simp; omega
        rw [d1] at p1
        generalize pts[k] = p at *
        have hsq : 0 ≤ p * p ∧ p * p ≤ 1000000 := by
          have q := Int.natAbs_mul_self (a := p)
          have := Nat.mul_le_mul (show p.natAbs ≤ 1000 by omega) (show p.natAbs ≤ 1000 by omega)
          omega
        have O := r2of_c (p * p) (by omega) (by omega)
        have wm : IntKind.i64.wrap (p * p) = p * p := IntWalk.i64_in _ (by omega)
        replace mt : (pts.take (k + 1)).map (fun x => intN (f2 x)) = (pts.take k).map (fun x => intN (f2 x)) ++ [AV.agg [boo (decide (p * p < 0)), AV.nat (limbs (p * p).natAbs)]] := mt
        cases k with
        | zero =>
          have q1' : decide ((0 : Int) < (ws.length : Nat)) = true := q1
          have w0 : IntKind.i64.wrap 1 = 1 := by decide
          have mt0 : (pts.take (0 + 1)).map (fun x => intN (f2 x)) = [AV.agg [boo (decide (p * p < 0)), AV.nat (limbs (p * p).natAbs)]] := mt
          simp -implicitDefEqProofs only [mrow0, q1', e1, wm, List.length_map, Int.toNat_zero, Int.le_refl, go_sem, awp_seq, Nat.reduceBNe, Nat.reduceBEq, Nat.reduceAdd, Nat.reduceSub, Nat.reduceMul, Nat.reduceLeDiff, Nat.reduceLT, Nat.reduceEqDiff, Nat.reduceBneDiff, Int.reduceLE, Int.reduceLT, Int.reduceToNat, Int.reduceBEq, Int.reduceBNe, Int.reduceAdd, Int.reduceSub, Int.cast_ofNat_Int]
          refine callA_tt O ?_
          simp -implicitDefEqProofs only [w0, go_sem, awp_seq, Nat.reduceBNe, Nat.reduceBEq, Nat.reduceAdd, Nat.reduceSub, Nat.reduceMul, Nat.reduceLeDiff, Nat.reduceLT, Nat.reduceEqDiff, Nat.reduceBneDiff, Int.reduceLE, Int.reduceLT, Int.reduceToNat, Int.reduceBEq, Int.reduceBNe, Int.reduceAdd, Int.reduceSub, Int.cast_ofNat_Int]
          refine ⟨fun _ => trivial, ?_⟩
          by_cases hn1 : 0 + 1 < pts.length
          · have r1 := mrow1 f2 pts 40 (k := 0 + 1) (by omega) hn1
            refine roundK_mk ⟨0 + 1, by omega⟩ ?_ (by show pts.length - (0 + 1) < pts.length - 0; omega)
            simp -implicitDefEqProofs only [r1, mt0, go_sem, awp_seq, Nat.reduceBNe, Nat.reduceBEq, Nat.reduceAdd, Nat.reduceSub, Nat.reduceMul, Nat.reduceLeDiff, Nat.reduceLT, Nat.reduceEqDiff, Nat.reduceBneDiff, Int.reduceLE, Int.reduceLT, Int.reduceToNat, Int.reduceBEq, Int.reduceBNe, Int.reduceAdd, Int.reduceSub, Int.cast_ofNat_Int]
          · have r1 := mrow2 f2 pts 40 (k := 0 + 1) (by omega) hn1
            have full : pts.take (0 + 1) = pts := List.take_of_length_le (by omega)
            rw [full] at mt0
            refine roundK_mk ⟨0 + 1, by omega⟩ ?_ (by show pts.length - (0 + 1) < pts.length - 0; omega)
            simp -implicitDefEqProofs only [r1, mt0, go_sem, awp_seq, Nat.reduceBNe, Nat.reduceBEq, Nat.reduceAdd, Nat.reduceSub, Nat.reduceMul, Nat.reduceLeDiff, Nat.reduceLT, Nat.reduceEqDiff, Nat.reduceBneDiff, Int.reduceLE, Int.reduceLT, Int.reduceToNat, Int.reduceBEq, Int.reduceBNe, Int.reduceAdd, Int.reduceSub, Int.cast_ofNat_Int]
            exact congrArg (AV.sl 2) mt0
        | succ k =>
          have r0 := mrow1 f2 pts 40 (Nat.succ_ne_zero k) hlt
          rw [show k.succ = k + 1 from rfl] at r0
          generalize (pts.take (k + 1)).map (fun x => intN (f2 x)) = es at *
          simp -implicitDefEqProofs only [r0, q1, e1, wm, List.length_map, Int.toNat_natCast, Int.natCast_nonneg, go_sem, awp_seq, Nat.reduceBNe, Nat.reduceBEq, Nat.reduceAdd, Nat.reduceSub, Nat.reduceMul, Nat.reduceLeDiff, Nat.reduceLT, Nat.reduceEqDiff, Nat.reduceBneDiff, Int.reduceLE, Int.reduceLT, Int.reduceToNat, Int.reduceBEq, Int.reduceBNe, Int.reduceAdd, Int.reduceSub, Int.cast_ofNat_Int]
          refine callA_tt O ?_
          simp -implicitDefEqProofs only [w1, hlen, go_sem, awp_seq, Nat.reduceBNe, Nat.reduceBEq, Nat.reduceAdd, Nat.reduceSub, Nat.reduceMul, Nat.reduceLeDiff, Nat.reduceLT, Nat.reduceEqDiff, Nat.reduceBneDiff, Int.reduceLE, Int.reduceLT, Int.reduceToNat, Int.reduceBEq, Int.reduceBNe, Int.reduceAdd, Int.reduceSub, Int.cast_ofNat_Int]
          refine ⟨fun _ => trivial, by omega, by omega, ?_⟩
          by_cases hn1 : k + 1 + 1 < pts.length
          · have r1 := mrow1 f2 pts 40 (k := k + 1 + 1) (by omega) hn1
            refine roundK_mk ⟨k + 1 + 1, by omega⟩ ?_ (by show pts.length - (k + 1 + 1) < pts.length - (k + 1); omega)
            simp -implicitDefEqProofs only [r1, mt, hlen, go_sem, awp_seq, Nat.reduceBNe, Nat.reduceBEq, Nat.reduceAdd, Nat.reduceSub, Nat.reduceMul, Nat.reduceLeDiff, Nat.reduceLT, Nat.reduceEqDiff, Nat.reduceBneDiff, Int.reduceLE, Int.reduceLT, Int.reduceToNat, Int.reduceBEq, Int.reduceBNe, Int.reduceAdd, Int.reduceSub, Int.cast_ofNat_Int]
          · have r1 := mrow2 f2 pts 40 (k := k + 1 + 1) (by omega) hn1
            have full : pts.take (k + 1 + 1) = pts := List.take_of_length_le (by omega)
            rw [full] at mt
            have tk : List.take (k + 1 + 1) (es ++ [AV.agg [boo (decide (p * p < 0)), AV.nat (limbs (p * p).natAbs)]]) = es ++ [AV.agg [boo (decide (p * p < 0)), AV.nat (limbs (p * p).natAbs)]] := List.take_of_length_le (by simp [hlen])
            refine roundK_mk ⟨k + 1 + 1, by omega⟩ ?_ (by show pts.length - (k + 1 + 1) < pts.length - (k + 1); omega)
            simp -implicitDefEqProofs only [r1, mt, hlen, tk, Nat.le_refl, go_sem, awp_seq, Nat.reduceBNe, Nat.reduceBEq, Nat.reduceAdd, Nat.reduceSub, Nat.reduceMul, Nat.reduceLeDiff, Nat.reduceLT, Nat.reduceEqDiff, Nat.reduceBneDiff, Int.reduceLE, Int.reduceLT, Int.reduceToNat, Int.reduceBEq, Int.reduceBNe, Int.reduceAdd, Int.reduceSub, Int.cast_ofNat_Int]
            exact congrArg (AV.sl 2) mt
      · have q1 : decide (((k : Nat) : Int) < (ws.length : Nat)) = false := by simp; omega
        have r2 := mrow2 f2 pts 40 (show k ≠ 0 by omega) hlt
        simp -implicitDefEqProofs only [r2, q1, List.length_map, go_sem, awp_seq, Nat.reduceBNe, Nat.reduceBEq, Nat.reduceAdd, Nat.reduceSub, Nat.reduceMul, Nat.reduceLeDiff, Nat.reduceLT, Nat.reduceEqDiff, Nat.reduceBneDiff, Int.reduceLE, Int.reduceLT, Int.reduceToNat, Int.reduceBEq, Int.reduceBNe, Int.reduceAdd, Int.reduceSub, Int.cast_ofNat_Int]
        refine callA_tt Sh ?_
        simp -implicitDefEqProofs only [go_sem, awp_seq, Nat.reduceBNe, Nat.reduceBEq, Nat.reduceAdd, Nat.reduceSub, Nat.reduceMul, Nat.reduceLeDiff, Nat.reduceLT, Nat.reduceEqDiff, Nat.reduceBneDiff, Int.reduceLE, Int.reduceLT, Int.reduceToNat, Int.reduceBEq, Int.reduceBNe, Int.reduceAdd, Int.reduceSub, Int.cast_ofNat_Int]
        refine callA_tt Mu ?_
        simp -implicitDefEqProofs only [go_sem, awp_seq, Nat.reduceBNe, Nat.reduceBEq, Nat.reduceAdd, Nat.reduceSub, Nat.reduceMul, Nat.reduceLeDiff, Nat.reduceLT, Nat.reduceEqDiff, Nat.reduceBneDiff, Int.reduceLE, Int.reduceLT, Int.reduceToNat, Int.reduceBEq, Int.reduceBNe, Int.reduceAdd, Int.reduceSub, Int.cast_ofNat_Int]
        refine callA_tt Su ?_
        simp -implicitDefEqProofs only [go_sem, awp_seq, Nat.reduceBNe, Nat.reduceBEq, Nat.reduceAdd, Nat.reduceSub, Nat.reduceMul, Nat.reduceLeDiff, Nat.reduceLT, Nat.reduceEqDiff, Nat.reduceBneDiff, Int.reduceLE, Int.reduceLT, Int.reduceToNat, Int.reduceBEq, Int.reduceBNe, Int.reduceAdd, Int.reduceSub, Int.cast_ofNat_Int]
  · simp only [Int.natCast_mul]
    grind
end Go.Proofs.YtfchbehmeppckaaGreat

/- Chapter 38: classes in the reference. INTS -/
set_option linter.unusedSimpArgs false
set_option linter.unusedVariables false
namespace Go.Proofs.YtfchbehmeppckaaGreat
open Go.RowKit Lim

theorem psum_take (ws : List (List Nat)) : ∀ (c k : Nat), k ≤ c → psum (ws.take c) k = psum ws k
  | c, 0, _ => rfl
  | c, k + 1, h => by
    show psum (ws.take c) k + val ((ws.take c).getD k []) = psum ws k + val (ws.getD k [])
    rw [psum_take ws c k (by omega)]
    congr 2
    simp [List.getD, List.getElem?_take, show k < c by omega]
theorem getD_drop (ws : List (List Nat)) (lo j : Nat) : (ws.drop lo).getD j [] = ws.getD (lo + j) [] := by simp [List.getD]
theorem sum27_c (ws : List (List Nat)) (hw : WOK ws) (lo m : Nat) (h1 : lo ≤ m) (h2 : m ≤ ws.length) (h3 : ws.length < 3000000) : AT 57 [nats ws, i64 (lo : Nat), i64 ((m : Int) - 1)] (natN (psum (ws.drop lo) (m - lo))) := by
  have b1 := psum_len (hw.drop lo)
  refine ACalls.of ⟨9, []⟩ (fn := Tryz.f57) Tryz.func57 rfl rfl rfl (by kernel_rfl) (by kernel_rfl) (Nat.le_of_ble_eq_true rfl) ?_
  simp -implicitDefEqProofs only [go_sem, awp_seq, Nat.reduceBNe, Nat.reduceBEq, Nat.reduceAdd, Nat.reduceSub, Nat.reduceMul, Nat.reduceLeDiff, Nat.reduceLT, Nat.reduceEqDiff, Nat.reduceBneDiff, Int.reduceLE, Int.reduceLT, Int.reduceToNat, Int.reduceBEq, Int.reduceBNe, Int.reduceAdd, Int.reduceSub, Int.cast_ofNat_Int]
  refine callA_tt (r1of_c 0 (by omega)) ?_
  simp -implicitDefEqProofs only [go_sem, awp_seq, Nat.reduceBNe, Nat.reduceBEq, Nat.reduceAdd, Nat.reduceSub, Nat.reduceMul, Nat.reduceLeDiff, Nat.reduceLT, Nat.reduceEqDiff, Nat.reduceBneDiff, Int.reduceLE, Int.reduceLT, Int.reduceToNat, Int.reduceBEq, Int.reduceBNe, Int.reduceAdd, Int.reduceSub, Int.cast_ofNat_Int]
  refine loop_mk (α := {j : Nat // j ≤ m - lo}) (fun j => [(0, some (.av (nats ws))), (1, some (.av (i64 (lo : Nat)))), (2, some (.av (i64 ((m : Int) - 1)))), (6, some (.av (.lit (.slice none 0 0)))), (7, some (.av (natN (psum (ws.drop lo) j.1)))), (8, some (.av (i64 (lo + j.1 : Nat))))]) (fun _ => []) (fun _ => []) (fun j => m - lo - j.1) ⟨0, Nat.zero_le _⟩ ?_ ?_
  · simp -implicitDefEqProofs only [psum, Nat.add_zero, go_sem, awp_seq, Nat.reduceBNe, Nat.reduceBEq, Nat.reduceAdd, Nat.reduceSub, Nat.reduceMul, Nat.reduceLeDiff, Nat.reduceLT, Nat.reduceEqDiff, Nat.reduceBneDiff, Int.reduceLE, Int.reduceLT, Int.reduceToNat, Int.reduceBEq, Int.reduceBNe, Int.reduceAdd, Int.reduceSub, Int.cast_ofNat_Int]
  · rintro ⟨j, hj⟩
    by_cases hlt : j < m - lo
    · have q1 : decide (((lo + j : Nat) : Int) ≤ (m : Int) - 1) = true := by simp; omega
      have e2 := map_get AV.nat ws (show lo + j < ws.length by omega)
      have d2 : ws.getD (lo + j) [] = ws[lo + j] := by simp [List.getD, show lo + j < ws.length by omega]
      have w1 : IntKind.i64.wrap (((lo + j : Nat) : Int) + 1) = ((lo + (j + 1) : Nat) : Int) := by rw [IntWalk.i64_in _ (by omega)]; omega
      obtain ⟨v1, v2⟩ := hw.get (lo + j)
      have a1 := b1 j
      have m2 : psum (ws.drop lo) (j + 1) = psum (ws.drop lo) j + val (ws.getD (lo + j) []) := by rw [← getD_drop]; rfl
      rw [d2] at v1 v2 m2
      generalize ws[lo + j] = x at *
      have A := r1add_c (limbs (psum (ws.drop lo) j)) x (dig_limbs _) v1 (by show nlen _ < _; omega) (by omega)
      rw [val_limbs, ← m2] at A
      simp -implicitDefEqProofs only [q1, e2, Int.toNat_natCast, Int.natCast_nonneg, go_sem, awp_seq, Nat.reduceBNe, Nat.reduceBEq, Nat.reduceAdd, Nat.reduceSub, Nat.reduceMul, Nat.reduceLeDiff, Nat.reduceLT, Nat.reduceEqDiff, Nat.reduceBneDiff, Int.reduceLE, Int.reduceLT, Int.reduceToNat, Int.reduceBEq, Int.reduceBNe, Int.reduceAdd, Int.reduceSub, Int.cast_ofNat_Int]
      refine callA_tt A ?_
      simp -implicitDefEqProofs only [w1, go_sem, awp_seq, Nat.reduceBNe, Nat.reduceBEq, Nat.reduceAdd, Nat.reduceSub, Nat.reduceMul, Nat.reduceLeDiff, Nat.reduceLT, Nat.reduceEqDiff, Nat.reduceBneDiff, Int.reduceLE, Int.reduceLT, Int.reduceToNat, Int.reduceBEq, Int.reduceBNe, Int.reduceAdd, Int.reduceSub, Int.cast_ofNat_Int]
      refine roundK_mk ⟨j + 1, hlt⟩ ?_ (by show m - lo - (j + 1) < m - lo - j; omega)
      simp -implicitDefEqProofs only [go_sem, awp_seq, Nat.reduceBNe, Nat.reduceBEq, Nat.reduceAdd, Nat.reduceSub, Nat.reduceMul, Nat.reduceLeDiff, Nat.reduceLT, Nat.reduceEqDiff, Nat.reduceBneDiff, Int.reduceLE, Int.reduceLT, Int.reduceToNat, Int.reduceBEq, Int.reduceBNe, Int.reduceAdd, Int.reduceSub, Int.cast_ofNat_Int]
    · have q1 : decide (((lo + j : Nat) : Int) ≤ (m : Int) - 1) = false := by simp; omega
      have hj' : j = m - lo := by omega
      subst hj'
      simp -implicitDefEqProofs only [q1, go_sem, awp_seq, Nat.reduceBNe, Nat.reduceBEq, Nat.reduceAdd, Nat.reduceSub, Nat.reduceMul, Nat.reduceLeDiff, Nat.reduceLT, Nat.reduceEqDiff, Nat.reduceBneDiff, Int.reduceLE, Int.reduceLT, Int.reduceToNat, Int.reduceBEq, Int.reduceBNe, Int.reduceAdd, Int.reduceSub, Int.cast_ofNat_Int]
theorem sum_all (ws : List (List Nat)) (hw : WOK ws) (h3 : ws.length < 3000000) : AT 57 [nats ws, i64 0, i64 ((ws.length : Int) - 1)] (natN (psum ws ws.length)) := sum27_c ws hw 0 ws.length (by omega) (by omega) h3
theorem checked_c (ws : List (List Nat)) (hw : WOK ws) (h3 : ws.length < 3000000) : AT 55 [nats ws] (i64 (checkE ws)) := by
  have S := sum_all ws hw h3
  unfold checkE
  by_cases h1 : 21 < ws.length
  · have g1 : decide ((21 : Int) < (ws.length : Nat)) = true := by simp; omega
    rw [if_pos h1]
    refine ACalls.of ⟨3, []⟩ (fn := Tryz.f55) Tryz.func55 rfl rfl rfl (by kernel_rfl) (by kernel_rfl) (Nat.le_of_ble_eq_true rfl) ?_
    simp -implicitDefEqProofs only [g1, List.length_map, go_sem, awp_seq, Nat.reduceBNe, Nat.reduceBEq, Nat.reduceAdd, Nat.reduceSub, Nat.reduceMul, Nat.reduceLeDiff, Nat.reduceLT, Nat.reduceEqDiff, Nat.reduceBneDiff, Int.reduceLE, Int.reduceLT, Int.reduceToNat, Int.reduceBEq, Int.reduceBNe, Int.reduceAdd, Int.reduceSub, Int.cast_ofNat_Int]
  · have g1 : decide ((21 : Int) < (ws.length : Nat)) = false := by simp; omega
    have w1 : IntKind.i64.wrap (((ws.length : Nat) : Int) - 1) = ((ws.length : Nat) : Int) - 1 := IntWalk.i64_in _ (by omega)
    rw [if_neg h1]
    by_cases h2 : psum ws ws.length = 0
    · rw [if_pos h2]
      rw [h2] at S
      refine ACalls.of ⟨3, []⟩ (fn := Tryz.f55) Tryz.func55 rfl rfl rfl (by kernel_rfl) (by kernel_rfl) (Nat.le_of_ble_eq_true rfl) ?_
      simp -implicitDefEqProofs only [g1, w1, List.length_map, go_sem, awp_seq, Nat.reduceBNe, Nat.reduceBEq, Nat.reduceAdd, Nat.reduceSub, Nat.reduceMul, Nat.reduceLeDiff, Nat.reduceLT, Nat.reduceEqDiff, Nat.reduceBneDiff, Int.reduceLE, Int.reduceLT, Int.reduceToNat, Int.reduceBEq, Int.reduceBNe, Int.reduceAdd, Int.reduceSub, Int.cast_ofNat_Int]
      refine callA_tt S ?_
      simp -implicitDefEqProofs only [natN, limbs_zero, go_sem, awp_seq, Nat.reduceBNe, Nat.reduceBEq, Nat.reduceAdd, Nat.reduceSub, Nat.reduceMul, Nat.reduceLeDiff, Nat.reduceLT, Nat.reduceEqDiff, Nat.reduceBneDiff, Int.reduceLE, Int.reduceLT, Int.reduceToNat, Int.reduceBEq, Int.reduceBNe, Int.reduceAdd, Int.reduceSub, Int.cast_ofNat_Int]
    · have hne : (limbs (psum ws ws.length)).length ≠ 0 := fun h => h2 (limbs_eq_nil.1 (List.eq_nil_of_length_eq_zero h))
      have g2 : ((((limbs (psum ws ws.length)).length : Nat) : Int) == 0) = false := by rw [beq_eq_false_iff_ne]; omega
      rw [if_neg h2]
      refine ACalls.of ⟨3, []⟩ (fn := Tryz.f55) Tryz.func55 rfl rfl rfl (by kernel_rfl) (by kernel_rfl) (Nat.le_of_ble_eq_true rfl) ?_
      simp -implicitDefEqProofs only [g1, w1, List.length_map, go_sem, awp_seq, Nat.reduceBNe, Nat.reduceBEq, Nat.reduceAdd, Nat.reduceSub, Nat.reduceMul, Nat.reduceLeDiff, Nat.reduceLT, Nat.reduceEqDiff, Nat.reduceBneDiff, Int.reduceLE, Int.reduceLT, Int.reduceToNat, Int.reduceBEq, Int.reduceBNe, Int.reduceAdd, Int.reduceSub, Int.cast_ofNat_Int]
      refine callA_tt S ?_
      simp -implicitDefEqProofs only [natN, g2, go_sem, awp_seq, Nat.reduceBNe, Nat.reduceBEq, Nat.reduceAdd, Nat.reduceSub, Nat.reduceMul, Nat.reduceLeDiff, Nat.reduceLT, Nat.reduceEqDiff, Nat.reduceBneDiff, Int.reduceLE, Int.reduceLT, Int.reduceToNat, Int.reduceBEq, Int.reduceBNe, Int.reduceAdd, Int.reduceSub, Int.cast_ofNat_Int]
theorem fraction_c (z : Int) (d : Nat) (hd : 0 < d) (h1 : -9223372036854775808 ≤ z) (h2 : z ≤ 9223372036854775807) (h3 : d ≤ 9223372036854775807) : AT 56 [i64 z, i64 (d : Nat)] (ratN (rn z d) (rd z d)) := by
  have h := r3of_c z d hd h1 h2 h3
  refine ACalls.of ⟨6, []⟩ (fn := Tryz.f56) Tryz.func56 rfl rfl rfl (by kernel_rfl) (by kernel_rfl) (Nat.le_of_ble_eq_true rfl) ?_
  simp -implicitDefEqProofs only [go_sem, awp_seq, Nat.reduceBNe, Nat.reduceBEq, Nat.reduceAdd, Nat.reduceSub, Nat.reduceMul, Nat.reduceLeDiff, Nat.reduceLT, Nat.reduceEqDiff, Nat.reduceBneDiff, Int.reduceLE, Int.reduceLT, Int.reduceToNat, Int.reduceBEq, Int.reduceBNe, Int.reduceAdd, Int.reduceSub, Int.cast_ofNat_Int]
  refine callA_tt h ?_
  simp -implicitDefEqProofs only [go_sem, awp_seq, Nat.reduceBNe, Nat.reduceBEq, Nat.reduceAdd, Nat.reduceSub, Nat.reduceMul, Nat.reduceLeDiff, Nat.reduceLT, Nat.reduceEqDiff, Nat.reduceBneDiff, Int.reduceLE, Int.reduceLT, Int.reduceToNat, Int.reduceBEq, Int.reduceBNe, Int.reduceAdd, Int.reduceSub, Int.cast_ofNat_Int]
theorem r3norm_c {a : AV} {z : Int} {d : Nat} (ha : DR a z d) : AT 111 [a] (ratN (rn (pz z d) (pd d)) (rd (pz z d) (pd d))) := by
  have T := r3top_c ha
  have L := r3low_c ha
  have hn := ha.n1
  have k1 : nlen (pz z d).natAbs < 1000000000 := by
    unfold pz
    split
    · simp [nlen_zero]
    · omega
  have k2 : nlen (pd d) < 1000000000 := by
    unfold pd
    split
    · have : nlen 1 ≤ 1 := nlen_u32 (by omega)
      omega
    · omega
  have R := r3reduce_c (dI (pz z d) k1) (dN (pd d) k2) (pd_pos d)
  obtain ⟨_, _, _, rfl, _⟩ := ha
  refine ACalls.of ⟨3, []⟩ (fn := Tryz.f111) Tryz.func111 rfl rfl rfl (by kernel_rfl) (by kernel_rfl) (Nat.le_of_ble_eq_true rfl) ?_
  simp -implicitDefEqProofs only [go_sem, awp_seq, Nat.reduceBNe, Nat.reduceBEq, Nat.reduceAdd, Nat.reduceSub, Nat.reduceMul, Nat.reduceLeDiff, Nat.reduceLT, Nat.reduceEqDiff, Nat.reduceBneDiff, Int.reduceLE, Int.reduceLT, Int.reduceToNat, Int.reduceBEq, Int.reduceBNe, Int.reduceAdd, Int.reduceSub, Int.cast_ofNat_Int]
  refine callA_tt T ?_
  simp -implicitDefEqProofs only [go_sem, awp_seq, Nat.reduceBNe, Nat.reduceBEq, Nat.reduceAdd, Nat.reduceSub, Nat.reduceMul, Nat.reduceLeDiff, Nat.reduceLT, Nat.reduceEqDiff, Nat.reduceBneDiff, Int.reduceLE, Int.reduceLT, Int.reduceToNat, Int.reduceBEq, Int.reduceBNe, Int.reduceAdd, Int.reduceSub, Int.cast_ofNat_Int]
  refine callA_tt L ?_
  simp -implicitDefEqProofs only [go_sem, awp_seq, Nat.reduceBNe, Nat.reduceBEq, Nat.reduceAdd, Nat.reduceSub, Nat.reduceMul, Nat.reduceLeDiff, Nat.reduceLT, Nat.reduceEqDiff, Nat.reduceBneDiff, Int.reduceLE, Int.reduceLT, Int.reduceToNat, Int.reduceBEq, Int.reduceBNe, Int.reduceAdd, Int.reduceSub, Int.cast_ofNat_Int]
  refine callA_tt R ?_
  simp -implicitDefEqProofs only [go_sem, awp_seq, Nat.reduceBNe, Nat.reduceBEq, Nat.reduceAdd, Nat.reduceSub, Nat.reduceMul, Nat.reduceLeDiff, Nat.reduceLT, Nat.reduceEqDiff, Nat.reduceBneDiff, Int.reduceLE, Int.reduceLT, Int.reduceToNat, Int.reduceBEq, Int.reduceBNe, Int.reduceAdd, Int.reduceSub, Int.cast_ofNat_Int]
theorem rn_one (n : Int) : rn n 1 = n ∧ rd n 1 = 1 := by
  unfold rn rd
  rw [Nat.gcd_one_right, Nat.div_one, Nat.div_one]
  exact ⟨sg_norm n, rfl⟩
theorem ratio27_c (n : Nat) (hn : nlen n < 100000000) : AT 94 [natN n] (ratN (n : Int) 1) := by
  have d1 : nlen 1 ≤ 1 := nlen_u32 (by omega)
  have N := r3norm_c (a := .agg [boo false, natN n, natN 1]) (z := (n : Int)) (d := 1) ⟨false, limbs n, limbs 1, rfl, dig_limbs _, dig_limbs _, by rw [val_limbs]; rfl, val_limbs 1, hn, by show nlen 1 < _; omega⟩
  rw [show pz (n : Int) 1 = n from rfl, show pd 1 = 1 from rfl, (rn_one (n : Int)).1, (rn_one (n : Int)).2] at N
  refine ACalls.of ⟨3, []⟩ (fn := Tryz.f94) Tryz.func94 rfl rfl rfl (by kernel_rfl) (by kernel_rfl) (Nat.le_of_ble_eq_true rfl) ?_
  simp -implicitDefEqProofs only [go_sem, awp_seq, Nat.reduceBNe, Nat.reduceBEq, Nat.reduceAdd, Nat.reduceSub, Nat.reduceMul, Nat.reduceLeDiff, Nat.reduceLT, Nat.reduceEqDiff, Nat.reduceBneDiff, Int.reduceLE, Int.reduceLT, Int.reduceToNat, Int.reduceBEq, Int.reduceBNe, Int.reduceAdd, Int.reduceSub, Int.cast_ofNat_Int]
  refine callA_tt (r1of_c 1 (by omega)) ?_
  simp -implicitDefEqProofs only [go_sem, awp_seq, Nat.reduceBNe, Nat.reduceBEq, Nat.reduceAdd, Nat.reduceSub, Nat.reduceMul, Nat.reduceLeDiff, Nat.reduceLT, Nat.reduceEqDiff, Nat.reduceBneDiff, Int.reduceLE, Int.reduceLT, Int.reduceToNat, Int.reduceBEq, Int.reduceBNe, Int.reduceAdd, Int.reduceSub, Int.cast_ofNat_Int]
  refine callA_tt N ?_
  simp -implicitDefEqProofs only [go_sem, awp_seq, Nat.reduceBNe, Nat.reduceBEq, Nat.reduceAdd, Nat.reduceSub, Nat.reduceMul, Nat.reduceLeDiff, Nat.reduceLT, Nat.reduceEqDiff, Nat.reduceBneDiff, Int.reduceLE, Int.reduceLT, Int.reduceToNat, Int.reduceBEq, Int.reduceBNe, Int.reduceAdd, Int.reduceSub, Int.cast_ofNat_Int]
theorem reaches27_c (s a : Nat) (hs : nlen s < 10000000) (ha : nlen a < 10000000) {r : RatV} (h : ROK r) : AT 58 [natN s, natN a, r.a] (boo (reachB s a r.z r.d)) := by
  have d1 : nlen 1 ≤ 1 := nlen_u32 (by omega)
  have hn := h.len
  have R1 := ratio27_c s (by omega)
  have R2 := ratio27_c a (by omega)
  have M := r3mul_c h.dR (dR (a : Int) 1 (by rw [Int.natAbs_natCast]; omega) (by omega))
  rw [show pz (a : Int) 1 = a from rfl, show pd 1 = 1 from rfl, Nat.mul_one] at M
  have hp := pd_pos r.d
  have l1 := nlen_rn (pz r.z r.d * (a : Int)) (pd r.d)
  have l2 := nlen_rd (pz r.z r.d * (a : Int)) (pd r.d)
  have l3 := nlen_mulZ (pz r.z r.d) a
  have l4 : nlen (pz r.z r.d).natAbs ≤ 2000000 := by
    unfold pz
    split
    · simp [nlen_zero]
    · omega
  have l5 : nlen (pd r.d) ≤ 2000001 := by unfold pd; split <;> omega
  have E := Eqv.norm (pz r.z r.d * (a : Int)) hp
  have e : reachB s a r.z r.d = decide (0 ≤ cmpZ ((s : Int) * (rd (pz r.z r.d * (a : Int)) (pd r.d) : Int)) (rn (pz r.z r.d * (a : Int)) (pd r.d) * ((1 : Nat) : Int))) := by
    unfold reachB
    rw [(Eqv.refl (s : Int) (d := 1) (by omega)).cmp E, show pz r.z r.d * (a : Int) * ((1 : Nat) : Int) = pz r.z r.d * (a : Int) from Int.mul_one _]
  rw [e]
  have q0 := E.dp
  generalize rn (pz r.z r.d * (a : Int)) (pd r.d) = X at *
  generalize rd (pz r.z r.d * (a : Int)) (pd r.d) = Y at *
  have C := r3cmp_c (dR (s : Int) 1 (by rw [Int.natAbs_natCast]; omega) (by omega)) (dR X Y (by omega) (by omega))
  rw [show pz (s : Int) 1 = s from rfl, show pd 1 = 1 from rfl, pz_pos _ q0, pd_id q0] at C
  refine ACalls.of ⟨7, []⟩ (fn := Tryz.f58) Tryz.func58 rfl rfl rfl (by kernel_rfl) (by kernel_rfl) (Nat.le_of_ble_eq_true rfl) ?_
  simp -implicitDefEqProofs only [go_sem, awp_seq, Nat.reduceBNe, Nat.reduceBEq, Nat.reduceAdd, Nat.reduceSub, Nat.reduceMul, Nat.reduceLeDiff, Nat.reduceLT, Nat.reduceEqDiff, Nat.reduceBneDiff, Int.reduceLE, Int.reduceLT, Int.reduceToNat, Int.reduceBEq, Int.reduceBNe, Int.reduceAdd, Int.reduceSub, Int.cast_ofNat_Int]
  refine callA_tt R1 ?_
  simp -implicitDefEqProofs only [go_sem, awp_seq, Nat.reduceBNe, Nat.reduceBEq, Nat.reduceAdd, Nat.reduceSub, Nat.reduceMul, Nat.reduceLeDiff, Nat.reduceLT, Nat.reduceEqDiff, Nat.reduceBneDiff, Int.reduceLE, Int.reduceLT, Int.reduceToNat, Int.reduceBEq, Int.reduceBNe, Int.reduceAdd, Int.reduceSub, Int.cast_ofNat_Int]
  refine callA_tt R2 ?_
  simp -implicitDefEqProofs only [go_sem, awp_seq, Nat.reduceBNe, Nat.reduceBEq, Nat.reduceAdd, Nat.reduceSub, Nat.reduceMul, Nat.reduceLeDiff, Nat.reduceLT, Nat.reduceEqDiff, Nat.reduceBneDiff, Int.reduceLE, Int.reduceLT, Int.reduceToNat, Int.reduceBEq, Int.reduceBNe, Int.reduceAdd, Int.reduceSub, Int.cast_ofNat_Int]
  refine callA_tt M ?_
  simp -implicitDefEqProofs only [go_sem, awp_seq, Nat.reduceBNe, Nat.reduceBEq, Nat.reduceAdd, Nat.reduceSub, Nat.reduceMul, Nat.reduceLeDiff, Nat.reduceLT, Nat.reduceEqDiff, Nat.reduceBneDiff, Int.reduceLE, Int.reduceLT, Int.reduceToNat, Int.reduceBEq, Int.reduceBNe, Int.reduceAdd, Int.reduceSub, Int.cast_ofNat_Int]
  refine callA_tt C ?_
  simp -implicitDefEqProofs only [go_sem, awp_seq, Nat.reduceBNe, Nat.reduceBEq, Nat.reduceAdd, Nat.reduceSub, Nat.reduceMul, Nat.reduceLeDiff, Nat.reduceLT, Nat.reduceEqDiff, Nat.reduceBneDiff, Int.reduceLE, Int.reduceLT, Int.reduceToNat, Int.reduceBEq, Int.reduceBNe, Int.reduceAdd, Int.reduceSub, Int.cast_ofNat_Int]
theorem var27_bad (pts prs : List Int) (ws : List (List Nat)) (hw : WOK ws) (h : varE pts prs ws ≠ 0) : AT 34 [gridA pts prs, nats ws] (.tup [ratN 0 1, i64 (varE pts prs ws)]) := by
  have C := var18_bad pts prs ws hw h
  generalize varE pts prs ws = e at *
  refine ACalls.of ⟨6, []⟩ (fn := Tryz.f34) Tryz.func34 rfl rfl rfl (by kernel_rfl) (by kernel_rfl) (Nat.le_of_ble_eq_true rfl) ?_
  simp -implicitDefEqProofs only [go_sem, awp_seq, Nat.reduceBNe, Nat.reduceBEq, Nat.reduceAdd, Nat.reduceSub, Nat.reduceMul, Nat.reduceLeDiff, Nat.reduceLT, Nat.reduceEqDiff, Nat.reduceBneDiff, Int.reduceLE, Int.reduceLT, Int.reduceToNat, Int.reduceBEq, Int.reduceBNe, Int.reduceAdd, Int.reduceSub, Int.cast_ofNat_Int]
  refine callA_tt C ?_
  simp -implicitDefEqProofs only [go_sem, awp_seq, Nat.reduceBNe, Nat.reduceBEq, Nat.reduceAdd, Nat.reduceSub, Nat.reduceMul, Nat.reduceLeDiff, Nat.reduceLT, Nat.reduceEqDiff, Nat.reduceBneDiff, Int.reduceLE, Int.reduceLT, Int.reduceToNat, Int.reduceBEq, Int.reduceBNe, Int.reduceAdd, Int.reduceSub, Int.cast_ofNat_Int]
  rfl
theorem var27_ok (pts prs : List Int) (ws : List (List Nat)) (hw : WOK ws) (h : varE pts prs ws = 0) : ∃ R G, AT 34 [gridA pts prs, nats ws] (.tup [ratN R G, i64 0]) ∧ Eqv R G (varN pts ws) (varD pts ws) ∧ nlen R.natAbs < 100000000 ∧ nlen G < 100000000 := by
  obtain ⟨R, G, C, h1, h2, h3⟩ := var18_ok pts prs ws hw h
  refine ⟨R, G, ?_, h1, h2, h3⟩
  refine ACalls.of ⟨6, []⟩ (fn := Tryz.f34) Tryz.func34 rfl rfl rfl (by kernel_rfl) (by kernel_rfl) (Nat.le_of_ble_eq_true rfl) ?_
  simp -implicitDefEqProofs only [go_sem, awp_seq, Nat.reduceBNe, Nat.reduceBEq, Nat.reduceAdd, Nat.reduceSub, Nat.reduceMul, Nat.reduceLeDiff, Nat.reduceLT, Nat.reduceEqDiff, Nat.reduceBneDiff, Int.reduceLE, Int.reduceLT, Int.reduceToNat, Int.reduceBEq, Int.reduceBNe, Int.reduceAdd, Int.reduceSub, Int.cast_ofNat_Int]
  refine callA_tt C ?_
  simp -implicitDefEqProofs only [go_sem, awp_seq, Nat.reduceBNe, Nat.reduceBEq, Nat.reduceAdd, Nat.reduceSub, Nat.reduceMul, Nat.reduceLeDiff, Nat.reduceLT, Nat.reduceEqDiff, Nat.reduceBneDiff, Int.reduceLE, Int.reduceLT, Int.reduceToNat, Int.reduceBEq, Int.reduceBNe, Int.reduceAdd, Int.reduceSub, Int.cast_ofNat_Int]
end Go.Proofs.YtfchbehmeppckaaGreat

/- Chapter 38: reasons to stop in the reference; the laws StoppingReasons, StoppingFirst. INTS -/
set_option linter.unusedSimpArgs false
set_option linter.unusedVariables false
namespace Go.Proofs.YtfchbehmeppckaaGreat
open Go.RowKit Lim

theorem cmp3_half {r : RatV} (h : ROK r) : AT 35 [r.a, ratN (rn 1 2) (rd 1 2)] (i64 (cmpZ (pz r.z r.d * 2) (pd r.d))) := by
  have n1 : nlen (rn 1 2).natAbs ≤ 1 := by rw [r12.1]; exact nlen_u32 (by decide)
  have n2 : nlen (rd 1 2) ≤ 1 := by rw [r12.2]; exact nlen_u32 (by omega)
  have C := r3cmp_c h.dR (dR (rn 1 2) (rd 1 2) (by omega) (by omega))
  rw [show pz (rn 1 2) (rd 1 2) = 1 by rw [r12.1, r12.2]; rfl, show pd (rd 1 2) = 2 by rw [r12.2]; rfl, Int.one_mul] at C
  exact C
theorem cmp3_one {r : RatV} (h : ROK r) : AT 35 [r.a, ratN (rn 1 1) (rd 1 1)] (i64 (cmpZ (pz r.z r.d) (pd r.d))) := by
  have n1 : nlen (rn 1 1).natAbs ≤ 1 := by rw [r11.1]; exact nlen_u32 (by decide)
  have n2 : nlen (rd 1 1) ≤ 1 := by rw [r11.2]; exact nlen_u32 (by omega)
  have C := r3cmp_c h.dR (dR (rn 1 1) (rd 1 1) (by omega) (by omega))
  rw [show pz (rn 1 1) (rd 1 1) = 1 by rw [r11.1, r11.2]; rfl, show pd (rd 1 1) = 1 by rw [r11.2]; rfl, Int.one_mul, show pz r.z r.d * ((1 : Nat) : Int) = pz r.z r.d from Int.mul_one _] at C
  exact C
set_option maxHeartbeats 2000000 in
theorem class27_c (ws : List (List Nat)) (cut : Int) {r : RatV} (h : ROK r) (hw : WOK ws) (hl : ws.length < 3000000) : AT 36 [nats ws, i64 cut, r.a] (.tup [i64 (clsV ws cut r.z r.d), i64 (clsE ws cut r.z r.d)]) := by
  have K := checked_c ws hw hl
  have O1 := fraction_c 1 2 (by omega) (by omega) (by omega) (by omega)
  have O2 := fraction_c 1 1 (by omega) (by omega) (by omega) (by omega)
  have C1 := cmp3_half h
  have C2 := cmp3_one h
  by_cases h1 : checkE ws ≠ 0
  · have g1 : (checkE ws != 0) = true := by simpa using h1
    rw [show clsV ws cut r.z r.d = 0 by unfold clsV; rw [if_pos h1], show clsE ws cut r.z r.d = checkE ws by unfold clsE; rw [if_pos h1]]
    refine ACalls.of ⟨10, []⟩ (fn := Tryz.f36) Tryz.func36 rfl rfl rfl (by kernel_rfl) (by kernel_rfl) (Nat.le_of_ble_eq_true rfl) ?_
    simp -implicitDefEqProofs only [go_sem, awp_seq, Nat.reduceBNe, Nat.reduceBEq, Nat.reduceAdd, Nat.reduceSub, Nat.reduceMul, Nat.reduceLeDiff, Nat.reduceLT, Nat.reduceEqDiff, Nat.reduceBneDiff, Int.reduceLE, Int.reduceLT, Int.reduceToNat, Int.reduceBEq, Int.reduceBNe, Int.reduceAdd, Int.reduceSub, Int.cast_ofNat_Int]
    refine callA_tt K ?_
    simp -implicitDefEqProofs only [g1, go_sem, awp_seq, Nat.reduceBNe, Nat.reduceBEq, Nat.reduceAdd, Nat.reduceSub, Nat.reduceMul, Nat.reduceLeDiff, Nat.reduceLT, Nat.reduceEqDiff, Nat.reduceBneDiff, Int.reduceLE, Int.reduceLT, Int.reduceToNat, Int.reduceBEq, Int.reduceBNe, Int.reduceAdd, Int.reduceSub, Int.cast_ofNat_Int]
  have g1 : (checkE ws != 0) = false := by simpa using h1
  have bad : clsBad ws cut r.z r.d = true → clsV ws cut r.z r.d = 0 ∧ clsE ws cut r.z r.d = 3 := fun hb => by
    unfold clsV clsE
    rw [if_neg h1, if_neg h1, if_pos hb, if_pos hb]
    exact ⟨rfl, rfl⟩
  have good : clsBad ws cut r.z r.d = false → clsE ws cut r.z r.d = 0 ∧ clsV ws cut r.z r.d = (if reachB (psum (ws.drop cut.toNat) (ws.drop cut.toNat).length) (psum ws ws.length) r.z r.d then 1 else if reachB (psum (ws.take cut.toNat) (ws.take cut.toNat).length) (psum ws ws.length) r.z r.d then 0 else -1) := fun hb => by
    unfold clsV clsE
    rw [if_neg h1, if_neg h1, if_neg (by simp [hb]), if_neg (by simp [hb])]
    exact ⟨rfl, rfl⟩
  have w1 : IntKind.i64.wrap ((ws.length : Int) - 1) = (ws.length : Int) - 1 := IntWalk.i64_in _ (by omega)
  have wl : (ws.length : Int) ≤ 3000000 := by omega
  cases c1 : decide (cut < 1) with
  | true =>
    obtain ⟨e1, e2⟩ := bad (by simp only [clsBad, c1, Bool.true_or])
    rw [e1, e2]
    refine ACalls.of ⟨10, []⟩ (fn := Tryz.f36) Tryz.func36 rfl rfl rfl (by kernel_rfl) (by kernel_rfl) (Nat.le_of_ble_eq_true rfl) ?_
    simp -implicitDefEqProofs only [go_sem, awp_seq, Nat.reduceBNe, Nat.reduceBEq, Nat.reduceAdd, Nat.reduceSub, Nat.reduceMul, Nat.reduceLeDiff, Nat.reduceLT, Nat.reduceEqDiff, Nat.reduceBneDiff, Int.reduceLE, Int.reduceLT, Int.reduceToNat, Int.reduceBEq, Int.reduceBNe, Int.reduceAdd, Int.reduceSub, Int.cast_ofNat_Int]
    refine callA_tt K ?_
    simp -implicitDefEqProofs only [g1, c1, go_sem, awp_seq, Nat.reduceBNe, Nat.reduceBEq, Nat.reduceAdd, Nat.reduceSub, Nat.reduceMul, Nat.reduceLeDiff, Nat.reduceLT, Nat.reduceEqDiff, Nat.reduceBneDiff, Int.reduceLE, Int.reduceLT, Int.reduceToNat, Int.reduceBEq, Int.reduceBNe, Int.reduceAdd, Int.reduceSub, Int.cast_ofNat_Int]
  | false =>
  cases c2 : decide ((ws.length : Int) - 1 < cut) with
  | true =>
    obtain ⟨e1, e2⟩ := bad (by simp only [clsBad, c2, Bool.true_or, Bool.or_true])
    rw [e1, e2]
    refine ACalls.of ⟨10, []⟩ (fn := Tryz.f36) Tryz.func36 rfl rfl rfl (by kernel_rfl) (by kernel_rfl) (Nat.le_of_ble_eq_true rfl) ?_
    simp -implicitDefEqProofs only [go_sem, awp_seq, Nat.reduceBNe, Nat.reduceBEq, Nat.reduceAdd, Nat.reduceSub, Nat.reduceMul, Nat.reduceLeDiff, Nat.reduceLT, Nat.reduceEqDiff, Nat.reduceBneDiff, Int.reduceLE, Int.reduceLT, Int.reduceToNat, Int.reduceBEq, Int.reduceBNe, Int.reduceAdd, Int.reduceSub, Int.cast_ofNat_Int]
    refine callA_tt K ?_
    simp -implicitDefEqProofs only [g1, c1, c2, w1, List.length_map, go_sem, awp_seq, Nat.reduceBNe, Nat.reduceBEq, Nat.reduceAdd, Nat.reduceSub, Nat.reduceMul, Nat.reduceLeDiff, Nat.reduceLT, Nat.reduceEqDiff, Nat.reduceBneDiff, Int.reduceLE, Int.reduceLT, Int.reduceToNat, Int.reduceBEq, Int.reduceBNe, Int.reduceAdd, Int.reduceSub, Int.cast_ofNat_Int]
  | false =>
  cases c3 : decide (cmpZ (pz r.z r.d * 2) (pd r.d) ≤ 0) with
  | true =>
    obtain ⟨e1, e2⟩ := bad (by simp only [clsBad, c3, Bool.true_or, Bool.or_true])
    rw [e1, e2]
    refine ACalls.of ⟨10, []⟩ (fn := Tryz.f36) Tryz.func36 rfl rfl rfl (by kernel_rfl) (by kernel_rfl) (Nat.le_of_ble_eq_true rfl) ?_
    simp -implicitDefEqProofs only [go_sem, awp_seq, Nat.reduceBNe, Nat.reduceBEq, Nat.reduceAdd, Nat.reduceSub, Nat.reduceMul, Nat.reduceLeDiff, Nat.reduceLT, Nat.reduceEqDiff, Nat.reduceBneDiff, Int.reduceLE, Int.reduceLT, Int.reduceToNat, Int.reduceBEq, Int.reduceBNe, Int.reduceAdd, Int.reduceSub, Int.cast_ofNat_Int]
    refine callA_tt K ?_
    simp -implicitDefEqProofs only [g1, c1, c2, w1, List.length_map, go_sem, awp_seq, Nat.reduceBNe, Nat.reduceBEq, Nat.reduceAdd, Nat.reduceSub, Nat.reduceMul, Nat.reduceLeDiff, Nat.reduceLT, Nat.reduceEqDiff, Nat.reduceBneDiff, Int.reduceLE, Int.reduceLT, Int.reduceToNat, Int.reduceBEq, Int.reduceBNe, Int.reduceAdd, Int.reduceSub, Int.cast_ofNat_Int]
    refine callA_tt O1 ?_
    simp -implicitDefEqProofs only [go_sem, awp_seq, Nat.reduceBNe, Nat.reduceBEq, Nat.reduceAdd, Nat.reduceSub, Nat.reduceMul, Nat.reduceLeDiff, Nat.reduceLT, Nat.reduceEqDiff, Nat.reduceBneDiff, Int.reduceLE, Int.reduceLT, Int.reduceToNat, Int.reduceBEq, Int.reduceBNe, Int.reduceAdd, Int.reduceSub, Int.cast_ofNat_Int]
    refine callA_tt C1 ?_
    simp -implicitDefEqProofs only [c3, go_sem, awp_seq, Nat.reduceBNe, Nat.reduceBEq, Nat.reduceAdd, Nat.reduceSub, Nat.reduceMul, Nat.reduceLeDiff, Nat.reduceLT, Nat.reduceEqDiff, Nat.reduceBneDiff, Int.reduceLE, Int.reduceLT, Int.reduceToNat, Int.reduceBEq, Int.reduceBNe, Int.reduceAdd, Int.reduceSub, Int.cast_ofNat_Int]
  | false =>
  cases c4 : decide (0 < cmpZ (pz r.z r.d) (pd r.d)) with
  | true =>
    obtain ⟨e1, e2⟩ := bad (by simp only [clsBad, c4, Bool.or_true])
    rw [e1, e2]
    refine ACalls.of ⟨10, []⟩ (fn := Tryz.f36) Tryz.func36 rfl rfl rfl (by kernel_rfl) (by kernel_rfl) (Nat.le_of_ble_eq_true rfl) ?_
    simp -implicitDefEqProofs only [go_sem, awp_seq, Nat.reduceBNe, Nat.reduceBEq, Nat.reduceAdd, Nat.reduceSub, Nat.reduceMul, Nat.reduceLeDiff, Nat.reduceLT, Nat.reduceEqDiff, Nat.reduceBneDiff, Int.reduceLE, Int.reduceLT, Int.reduceToNat, Int.reduceBEq, Int.reduceBNe, Int.reduceAdd, Int.reduceSub, Int.cast_ofNat_Int]
    refine callA_tt K ?_
    simp -implicitDefEqProofs only [g1, c1, c2, w1, List.length_map, go_sem, awp_seq, Nat.reduceBNe, Nat.reduceBEq, Nat.reduceAdd, Nat.reduceSub, Nat.reduceMul, Nat.reduceLeDiff, Nat.reduceLT, Nat.reduceEqDiff, Nat.reduceBneDiff, Int.reduceLE, Int.reduceLT, Int.reduceToNat, Int.reduceBEq, Int.reduceBNe, Int.reduceAdd, Int.reduceSub, Int.cast_ofNat_Int]
    refine callA_tt O1 ?_
    simp -implicitDefEqProofs only [go_sem, awp_seq, Nat.reduceBNe, Nat.reduceBEq, Nat.reduceAdd, Nat.reduceSub, Nat.reduceMul, Nat.reduceLeDiff, Nat.reduceLT, Nat.reduceEqDiff, Nat.reduceBneDiff, Int.reduceLE, Int.reduceLT, Int.reduceToNat, Int.reduceBEq, Int.reduceBNe, Int.reduceAdd, Int.reduceSub, Int.cast_ofNat_Int]
    refine callA_tt C1 ?_
    simp -implicitDefEqProofs only [c3, go_sem, awp_seq, Nat.reduceBNe, Nat.reduceBEq, Nat.reduceAdd, Nat.reduceSub, Nat.reduceMul, Nat.reduceLeDiff, Nat.reduceLT, Nat.reduceEqDiff, Nat.reduceBneDiff, Int.reduceLE, Int.reduceLT, Int.reduceToNat, Int.reduceBEq, Int.reduceBNe, Int.reduceAdd, Int.reduceSub, Int.cast_ofNat_Int]
    refine callA_tt O2 ?_
    simp -implicitDefEqProofs only [go_sem, awp_seq, Nat.reduceBNe, Nat.reduceBEq, Nat.reduceAdd, Nat.reduceSub, Nat.reduceMul, Nat.reduceLeDiff, Nat.reduceLT, Nat.reduceEqDiff, Nat.reduceBneDiff, Int.reduceLE, Int.reduceLT, Int.reduceToNat, Int.reduceBEq, Int.reduceBNe, Int.reduceAdd, Int.reduceSub, Int.cast_ofNat_Int]
    refine callA_tt C2 ?_
    simp -implicitDefEqProofs only [c4, go_sem, awp_seq, Nat.reduceBNe, Nat.reduceBEq, Nat.reduceAdd, Nat.reduceSub, Nat.reduceMul, Nat.reduceLeDiff, Nat.reduceLT, Nat.reduceEqDiff, Nat.reduceBneDiff, Int.reduceLE, Int.reduceLT, Int.reduceToNat, Int.reduceBEq, Int.reduceBNe, Int.reduceAdd, Int.reduceSub, Int.cast_ofNat_Int]
  | false =>
  obtain ⟨eE, eV⟩ := good (by simp only [clsBad, c1, c2, c3, c4, Bool.or_self])
  have c1' := of_decide_eq_false c1
  have c2' := of_decide_eq_false c2
  obtain ⟨c, rfl⟩ := Int.eq_ofNat_of_zero_le (show 0 ≤ cut by omega)
  rw [Int.toNat_natCast] at eV
  have S0 := sum_all ws hw hl
  have S1 := sum27_c ws hw c ws.length (by omega) (by omega) hl
  rw [show ws.length - c = (ws.drop c).length by simp] at S1
  have S2 := sum27_c ws hw 0 c (by omega) (by omega) hl
  rw [List.drop_zero, Nat.sub_zero, show psum ws c = psum (ws.take c) (ws.take c).length by rw [show (ws.take c).length = c by simp; omega]; exact (psum_take ws c c (by omega)).symm] at S2
  have b0 := psum_len hw ws.length
  have b1 := psum_len (hw.drop c) (ws.drop c).length
  have b2 := psum_len (hw.take c) (ws.take c).length
  have lc : (ws.drop c).length ≤ ws.length ∧ (ws.take c).length ≤ ws.length := by simp; omega
  have R1 := reaches27_c (psum (ws.drop c) (ws.drop c).length) (psum ws ws.length) (by omega) (by omega) h
  have R2 := reaches27_c (psum (ws.take c) (ws.take c).length) (psum ws ws.length) (by omega) (by omega) h
  have w2 : IntKind.i64.wrap ((c : Int) - 1) = (c : Int) - 1 := IntWalk.i64_in _ (by omega)
  rw [eE, eV]
  generalize psum (ws.drop c) (ws.drop c).length = P1 at *
  generalize psum (ws.take c) (ws.take c).length = P2 at *
  generalize psum ws ws.length = P0 at *
  generalize reachB P1 P0 r.z r.d = b1 at *
  generalize reachB P2 P0 r.z r.d = b2 at *
  refine ACalls.of ⟨10, []⟩ (fn := Tryz.f36) Tryz.func36 rfl rfl rfl (by kernel_rfl) (by kernel_rfl) (Nat.le_of_ble_eq_true rfl) ?_
  simp -implicitDefEqProofs only [go_sem, awp_seq, Nat.reduceBNe, Nat.reduceBEq, Nat.reduceAdd, Nat.reduceSub, Nat.reduceMul, Nat.reduceLeDiff, Nat.reduceLT, Nat.reduceEqDiff, Nat.reduceBneDiff, Int.reduceLE, Int.reduceLT, Int.reduceToNat, Int.reduceBEq, Int.reduceBNe, Int.reduceAdd, Int.reduceSub, Int.cast_ofNat_Int]
  refine callA_tt K ?_
  simp -implicitDefEqProofs only [g1, c1, c2, w1, List.length_map, go_sem, awp_seq, Nat.reduceBNe, Nat.reduceBEq, Nat.reduceAdd, Nat.reduceSub, Nat.reduceMul, Nat.reduceLeDiff, Nat.reduceLT, Nat.reduceEqDiff, Nat.reduceBneDiff, Int.reduceLE, Int.reduceLT, Int.reduceToNat, Int.reduceBEq, Int.reduceBNe, Int.reduceAdd, Int.reduceSub, Int.cast_ofNat_Int]
  refine callA_tt O1 ?_
  simp -implicitDefEqProofs only [go_sem, awp_seq, Nat.reduceBNe, Nat.reduceBEq, Nat.reduceAdd, Nat.reduceSub, Nat.reduceMul, Nat.reduceLeDiff, Nat.reduceLT, Nat.reduceEqDiff, Nat.reduceBneDiff, Int.reduceLE, Int.reduceLT, Int.reduceToNat, Int.reduceBEq, Int.reduceBNe, Int.reduceAdd, Int.reduceSub, Int.cast_ofNat_Int]
  refine callA_tt C1 ?_
  simp -implicitDefEqProofs only [c3, go_sem, awp_seq, Nat.reduceBNe, Nat.reduceBEq, Nat.reduceAdd, Nat.reduceSub, Nat.reduceMul, Nat.reduceLeDiff, Nat.reduceLT, Nat.reduceEqDiff, Nat.reduceBneDiff, Int.reduceLE, Int.reduceLT, Int.reduceToNat, Int.reduceBEq, Int.reduceBNe, Int.reduceAdd, Int.reduceSub, Int.cast_ofNat_Int]
  refine callA_tt O2 ?_
  simp -implicitDefEqProofs only [go_sem, awp_seq, Nat.reduceBNe, Nat.reduceBEq, Nat.reduceAdd, Nat.reduceSub, Nat.reduceMul, Nat.reduceLeDiff, Nat.reduceLT, Nat.reduceEqDiff, Nat.reduceBneDiff, Int.reduceLE, Int.reduceLT, Int.reduceToNat, Int.reduceBEq, Int.reduceBNe, Int.reduceAdd, Int.reduceSub, Int.cast_ofNat_Int]
  refine callA_tt C2 ?_
  simp -implicitDefEqProofs only [c4, w1, List.length_map, go_sem, awp_seq, Nat.reduceBNe, Nat.reduceBEq, Nat.reduceAdd, Nat.reduceSub, Nat.reduceMul, Nat.reduceLeDiff, Nat.reduceLT, Nat.reduceEqDiff, Nat.reduceBneDiff, Int.reduceLE, Int.reduceLT, Int.reduceToNat, Int.reduceBEq, Int.reduceBNe, Int.reduceAdd, Int.reduceSub, Int.cast_ofNat_Int]
  refine callA_tt S0 ?_
  simp -implicitDefEqProofs only [w1, List.length_map, go_sem, awp_seq, Nat.reduceBNe, Nat.reduceBEq, Nat.reduceAdd, Nat.reduceSub, Nat.reduceMul, Nat.reduceLeDiff, Nat.reduceLT, Nat.reduceEqDiff, Nat.reduceBneDiff, Int.reduceLE, Int.reduceLT, Int.reduceToNat, Int.reduceBEq, Int.reduceBNe, Int.reduceAdd, Int.reduceSub, Int.cast_ofNat_Int]
  refine callA_tt S1 ?_
  simp -implicitDefEqProofs only [go_sem, awp_seq, Nat.reduceBNe, Nat.reduceBEq, Nat.reduceAdd, Nat.reduceSub, Nat.reduceMul, Nat.reduceLeDiff, Nat.reduceLT, Nat.reduceEqDiff, Nat.reduceBneDiff, Int.reduceLE, Int.reduceLT, Int.reduceToNat, Int.reduceBEq, Int.reduceBNe, Int.reduceAdd, Int.reduceSub, Int.cast_ofNat_Int]
  refine callA_tt R1 ?_
  cases b1 with
  | true => simp -implicitDefEqProofs only [if_true, go_sem, awp_seq, Nat.reduceBNe, Nat.reduceBEq, Nat.reduceAdd, Nat.reduceSub, Nat.reduceMul, Nat.reduceLeDiff, Nat.reduceLT, Nat.reduceEqDiff, Nat.reduceBneDiff, Int.reduceLE, Int.reduceLT, Int.reduceToNat, Int.reduceBEq, Int.reduceBNe, Int.reduceAdd, Int.reduceSub, Int.cast_ofNat_Int]
  | false =>
    simp -implicitDefEqProofs only [w2, go_sem, awp_seq, Nat.reduceBNe, Nat.reduceBEq, Nat.reduceAdd, Nat.reduceSub, Nat.reduceMul, Nat.reduceLeDiff, Nat.reduceLT, Nat.reduceEqDiff, Nat.reduceBneDiff, Int.reduceLE, Int.reduceLT, Int.reduceToNat, Int.reduceBEq, Int.reduceBNe, Int.reduceAdd, Int.reduceSub, Int.cast_ofNat_Int]
    refine callA_tt S2 ?_
    simp -implicitDefEqProofs only [go_sem, awp_seq, Nat.reduceBNe, Nat.reduceBEq, Nat.reduceAdd, Nat.reduceSub, Nat.reduceMul, Nat.reduceLeDiff, Nat.reduceLT, Nat.reduceEqDiff, Nat.reduceBneDiff, Int.reduceLE, Int.reduceLT, Int.reduceToNat, Int.reduceBEq, Int.reduceBNe, Int.reduceAdd, Int.reduceSub, Int.cast_ofNat_Int]
    refine callA_tt R2 ?_
    cases b2 with
    | true => simp -implicitDefEqProofs only [if_true, Bool.false_eq_true, if_false, go_sem, awp_seq, Nat.reduceBNe, Nat.reduceBEq, Nat.reduceAdd, Nat.reduceSub, Nat.reduceMul, Nat.reduceLeDiff, Nat.reduceLT, Nat.reduceEqDiff, Nat.reduceBneDiff, Int.reduceLE, Int.reduceLT, Int.reduceToNat, Int.reduceBEq, Int.reduceBNe, Int.reduceAdd, Int.reduceSub, Int.cast_ofNat_Int]
    | false => simp -implicitDefEqProofs only [Bool.false_eq_true, if_false, go_sem, awp_seq, Nat.reduceBNe, Nat.reduceBEq, Nat.reduceAdd, Nat.reduceSub, Nat.reduceMul, Nat.reduceLeDiff, Nat.reduceLT, Nat.reduceEqDiff, Nat.reduceBneDiff, Int.reduceLE, Int.reduceLT, Int.reduceToNat, Int.reduceBEq, Int.reduceBNe, Int.reduceAdd, Int.reduceSub, Int.cast_ofNat_Int]
theorem dec_ok {p : PolV} {ws : List (List Nat)} (hp : polE p = 0) (hv : varE p.pts p.prs ws = 0) : decE p ws = 0 := by
  unfold decE
  by_cases hc : p.cut = 0
  · rw [if_pos hc]
  rw [if_neg hc]
  obtain ⟨h1, h2, h3⟩ := var_ok hv
  obtain ⟨k1, k2, k3, k4⟩ := grid_ok h1
  obtain ⟨c1, c2, c3, c4⟩ := pol_cut hp
  rw [mom_psum] at h3
  have e : checkE ws = 0 := by
    unfold checkE
    rw [if_neg (by omega), if_neg (by rw [h2]; omega)]
  have hb := c3 hc
  unfold aboveB at hb
  simp only [Bool.and_eq_true, decide_eq_true_eq] at hb
  rw [Int.one_mul, show pz p.lv.z p.lv.d * ((2 : Nat) : Int) = pz p.lv.z p.lv.d * 2 from rfl] at hb
  have g : clsBad ws p.cut p.lv.z p.lv.d = false := by
    unfold clsBad
    rw [decide_eq_false (by omega), decide_eq_false (by omega), decide_eq_false (by omega), decide_eq_false (by omega)]
    rfl
  unfold clsE
  rw [if_neg (by omega), if_neg (by simp [g])]
end Go.Proofs.YtfchbehmeppckaaGreat

/- Chapter 38: reasons to stop in the reference; the laws StoppingReasons, StoppingFirst. INTS -/
set_option linter.unusedSimpArgs false
set_option linter.unusedVariables false
namespace Go.Proofs.YtfchbehmeppckaaGreat
open Go.RowKit Lim

theorem decided38_c (p : PolV) (hp : POK p) (ws : List (List Nat)) (hw : WOK ws) (hl : ws.length < 3000000) : AT 15 [polA p, nats ws] (.tup [boo (DecV p ws), i64 (DecE p ws)]) := by
  have V := valid38_c p hp
  unfold DecV DecE
  by_cases h1 : polE p ≠ 0
  · have g1 : (polE p != 0) = true := by simpa using h1
    rw [if_pos h1, if_pos h1]
    refine ACalls.of ⟨8, []⟩ (fn := Tryz.f15) Tryz.func15 rfl rfl rfl (by kernel_rfl) (by kernel_rfl) (Nat.le_of_ble_eq_true rfl) ?_
    simp -implicitDefEqProofs only [go_sem, awp_seq, Nat.reduceBNe, Nat.reduceBEq, Nat.reduceAdd, Nat.reduceSub, Nat.reduceMul, Nat.reduceLeDiff, Nat.reduceLT, Nat.reduceEqDiff, Nat.reduceBneDiff, Int.reduceLE, Int.reduceLT, Int.reduceToNat, Int.reduceBEq, Int.reduceBNe, Int.reduceAdd, Int.reduceSub, Int.cast_ofNat_Int]
    refine callA_tt V ?_
    simp -implicitDefEqProofs only [g1, go_sem, awp_seq, Nat.reduceBNe, Nat.reduceBEq, Nat.reduceAdd, Nat.reduceSub, Nat.reduceMul, Nat.reduceLeDiff, Nat.reduceLT, Nat.reduceEqDiff, Nat.reduceBneDiff, Int.reduceLE, Int.reduceLT, Int.reduceToNat, Int.reduceBEq, Int.reduceBNe, Int.reduceAdd, Int.reduceSub, Int.cast_ofNat_Int]
  have g1 : (polE p != 0) = false := by simpa using h1
  have h1' : polE p = 0 := by omega
  rw [if_neg h1, if_neg h1]
  rw [h1'] at V
  unfold decV decE
  by_cases h2 : p.cut = 0
  · have g2 : (p.cut == 0) = true := by simp [h2]
    rw [if_pos h2, if_pos h2]
    refine ACalls.of ⟨8, []⟩ (fn := Tryz.f15) Tryz.func15 rfl rfl rfl (by kernel_rfl) (by kernel_rfl) (Nat.le_of_ble_eq_true rfl) ?_
    simp -implicitDefEqProofs only [go_sem, awp_seq, Nat.reduceBNe, Nat.reduceBEq, Nat.reduceAdd, Nat.reduceSub, Nat.reduceMul, Nat.reduceLeDiff, Nat.reduceLT, Nat.reduceEqDiff, Nat.reduceBneDiff, Int.reduceLE, Int.reduceLT, Int.reduceToNat, Int.reduceBEq, Int.reduceBNe, Int.reduceAdd, Int.reduceSub, Int.cast_ofNat_Int]
    refine callA_tt V ?_
    simp -implicitDefEqProofs only [bne_self_eq_false, g2, go_sem, awp_seq, Nat.reduceBNe, Nat.reduceBEq, Nat.reduceAdd, Nat.reduceSub, Nat.reduceMul, Nat.reduceLeDiff, Nat.reduceLT, Nat.reduceEqDiff, Nat.reduceBneDiff, Int.reduceLE, Int.reduceLT, Int.reduceToNat, Int.reduceBEq, Int.reduceBNe, Int.reduceAdd, Int.reduceSub, Int.cast_ofNat_Int]
  · have g2 : (p.cut == 0) = false := by simp [h2]
    rw [if_neg h2, if_neg h2]
    have C := class27_c ws p.cut hp.lv hw hl
    generalize clsE ws p.cut p.lv.z p.lv.d = e at *
    generalize clsV ws p.cut p.lv.z p.lv.d = v at *
    by_cases h3 : e ≠ 0
    · have g3 : (e == 0) = false := by simpa using h3
      rw [if_pos h3]
      refine ACalls.of ⟨8, []⟩ (fn := Tryz.f15) Tryz.func15 rfl rfl rfl (by kernel_rfl) (by kernel_rfl) (Nat.le_of_ble_eq_true rfl) ?_
      simp -implicitDefEqProofs only [go_sem, awp_seq, Nat.reduceBNe, Nat.reduceBEq, Nat.reduceAdd, Nat.reduceSub, Nat.reduceMul, Nat.reduceLeDiff, Nat.reduceLT, Nat.reduceEqDiff, Nat.reduceBneDiff, Int.reduceLE, Int.reduceLT, Int.reduceToNat, Int.reduceBEq, Int.reduceBNe, Int.reduceAdd, Int.reduceSub, Int.cast_ofNat_Int]
      refine callA_tt V ?_
      simp -implicitDefEqProofs only [bne_self_eq_false, g2, go_sem, awp_seq, Nat.reduceBNe, Nat.reduceBEq, Nat.reduceAdd, Nat.reduceSub, Nat.reduceMul, Nat.reduceLeDiff, Nat.reduceLT, Nat.reduceEqDiff, Nat.reduceBneDiff, Int.reduceLE, Int.reduceLT, Int.reduceToNat, Int.reduceBEq, Int.reduceBNe, Int.reduceAdd, Int.reduceSub, Int.cast_ofNat_Int]
      refine callA_tt C ?_
      simp -implicitDefEqProofs only [g3, go_sem, awp_seq, Nat.reduceBNe, Nat.reduceBEq, Nat.reduceAdd, Nat.reduceSub, Nat.reduceMul, Nat.reduceLeDiff, Nat.reduceLT, Nat.reduceEqDiff, Nat.reduceBneDiff, Int.reduceLE, Int.reduceLT, Int.reduceToNat, Int.reduceBEq, Int.reduceBNe, Int.reduceAdd, Int.reduceSub, Int.cast_ofNat_Int]
    · obtain rfl : e = 0 := by omega
      rw [if_neg h3]
      refine ACalls.of ⟨8, []⟩ (fn := Tryz.f15) Tryz.func15 rfl rfl rfl (by kernel_rfl) (by kernel_rfl) (Nat.le_of_ble_eq_true rfl) ?_
      simp -implicitDefEqProofs only [go_sem, awp_seq, Nat.reduceBNe, Nat.reduceBEq, Nat.reduceAdd, Nat.reduceSub, Nat.reduceMul, Nat.reduceLeDiff, Nat.reduceLT, Nat.reduceEqDiff, Nat.reduceBneDiff, Int.reduceLE, Int.reduceLT, Int.reduceToNat, Int.reduceBEq, Int.reduceBNe, Int.reduceAdd, Int.reduceSub, Int.cast_ofNat_Int]
      refine callA_tt V ?_
      simp -implicitDefEqProofs only [bne_self_eq_false, g2, go_sem, awp_seq, Nat.reduceBNe, Nat.reduceBEq, Nat.reduceAdd, Nat.reduceSub, Nat.reduceMul, Nat.reduceLeDiff, Nat.reduceLT, Nat.reduceEqDiff, Nat.reduceBneDiff, Int.reduceLE, Int.reduceLT, Int.reduceToNat, Int.reduceBEq, Int.reduceBNe, Int.reduceAdd, Int.reduceSub, Int.cast_ofNat_Int]
      refine callA_tt C ?_
      simp -implicitDefEqProofs only [BEq.rfl, go_sem, awp_seq, Nat.reduceBNe, Nat.reduceBEq, Nat.reduceAdd, Nat.reduceSub, Nat.reduceMul, Nat.reduceLeDiff, Nat.reduceLT, Nat.reduceEqDiff, Nat.reduceBneDiff, Int.reduceLE, Int.reduceLT, Int.reduceToNat, Int.reduceBEq, Int.reduceBNe, Int.reduceAdd, Int.reduceSub, Int.cast_ofNat_Int]
set_option maxHeartbeats 1000000 in
theorem reason38_c (p : PolV) (hp : POK p) (ws : List (List Nat)) (hw : WOK ws) (hl : ws.length < 3000000) (n : Int) : AT 13 [polA p, i64 n, nats ws] (.tup [i64 (reasV p n ws), i64 (reasE p n ws)]) := by
  have V := valid38_c p hp
  have D := decided38_c p hp ws hw hl
  have S := r3sign_c hp.v.dR
  unfold reasV reasE
  by_cases h1 : polE p ≠ 0
  · have g1 : (polE p != 0) = true := by simpa using h1
    rw [if_pos h1, if_pos h1]
    refine ACalls.of ⟨11, []⟩ (fn := Tryz.f13) Tryz.func13 rfl rfl rfl (by kernel_rfl) (by kernel_rfl) (Nat.le_of_ble_eq_true rfl) ?_
    simp -implicitDefEqProofs only [go_sem, awp_seq, Nat.reduceBNe, Nat.reduceBEq, Nat.reduceAdd, Nat.reduceSub, Nat.reduceMul, Nat.reduceLeDiff, Nat.reduceLT, Nat.reduceEqDiff, Nat.reduceBneDiff, Int.reduceLE, Int.reduceLT, Int.reduceToNat, Int.reduceBEq, Int.reduceBNe, Int.reduceAdd, Int.reduceSub, Int.cast_ofNat_Int]
    refine callA_tt V ?_
    simp -implicitDefEqProofs only [g1, go_sem, awp_seq, Nat.reduceBNe, Nat.reduceBEq, Nat.reduceAdd, Nat.reduceSub, Nat.reduceMul, Nat.reduceLeDiff, Nat.reduceLT, Nat.reduceEqDiff, Nat.reduceBneDiff, Int.reduceLE, Int.reduceLT, Int.reduceToNat, Int.reduceBEq, Int.reduceBNe, Int.reduceAdd, Int.reduceSub, Int.cast_ofNat_Int]
  have g1 : (polE p != 0) = false := by simpa using h1
  have h1' : polE p = 0 := by omega
  rw [if_neg h1, if_neg h1]
  by_cases h2 : n < 0
  · have g2 : decide (n < 0) = true := by simp [h2]
    rw [if_pos h2, if_pos h2]
    refine ACalls.of ⟨11, []⟩ (fn := Tryz.f13) Tryz.func13 rfl rfl rfl (by kernel_rfl) (by kernel_rfl) (Nat.le_of_ble_eq_true rfl) ?_
    simp -implicitDefEqProofs only [go_sem, awp_seq, Nat.reduceBNe, Nat.reduceBEq, Nat.reduceAdd, Nat.reduceSub, Nat.reduceMul, Nat.reduceLeDiff, Nat.reduceLT, Nat.reduceEqDiff, Nat.reduceBneDiff, Int.reduceLE, Int.reduceLT, Int.reduceToNat, Int.reduceBEq, Int.reduceBNe, Int.reduceAdd, Int.reduceSub, Int.cast_ofNat_Int]
    refine callA_tt V ?_
    simp -implicitDefEqProofs only [g1, g2, go_sem, awp_seq, Nat.reduceBNe, Nat.reduceBEq, Nat.reduceAdd, Nat.reduceSub, Nat.reduceMul, Nat.reduceLeDiff, Nat.reduceLT, Nat.reduceEqDiff, Nat.reduceBneDiff, Int.reduceLE, Int.reduceLT, Int.reduceToNat, Int.reduceBEq, Int.reduceBNe, Int.reduceAdd, Int.reduceSub, Int.cast_ofNat_Int]
  have g2 : decide (n < 0) = false := by simp [h2]
  rw [if_neg h2, if_neg h2]
  by_cases h3 : varE p.pts p.prs ws ≠ 0
  · have g3 : (varE p.pts p.prs ws != 0) = true := by simpa using h3
    rw [if_pos h3, if_pos h3]
    have R := var27_bad p.pts p.prs ws hw h3
    refine ACalls.of ⟨11, []⟩ (fn := Tryz.f13) Tryz.func13 rfl rfl rfl (by kernel_rfl) (by kernel_rfl) (Nat.le_of_ble_eq_true rfl) ?_
    simp -implicitDefEqProofs only [go_sem, awp_seq, Nat.reduceBNe, Nat.reduceBEq, Nat.reduceAdd, Nat.reduceSub, Nat.reduceMul, Nat.reduceLeDiff, Nat.reduceLT, Nat.reduceEqDiff, Nat.reduceBneDiff, Int.reduceLE, Int.reduceLT, Int.reduceToNat, Int.reduceBEq, Int.reduceBNe, Int.reduceAdd, Int.reduceSub, Int.cast_ofNat_Int]
    refine callA_tt V ?_
    simp -implicitDefEqProofs only [g1, g2, go_sem, awp_seq, Nat.reduceBNe, Nat.reduceBEq, Nat.reduceAdd, Nat.reduceSub, Nat.reduceMul, Nat.reduceLeDiff, Nat.reduceLT, Nat.reduceEqDiff, Nat.reduceBneDiff, Int.reduceLE, Int.reduceLT, Int.reduceToNat, Int.reduceBEq, Int.reduceBNe, Int.reduceAdd, Int.reduceSub, Int.cast_ofNat_Int]
    refine callA_tt R ?_
    simp -implicitDefEqProofs only [g3, go_sem, awp_seq, Nat.reduceBNe, Nat.reduceBEq, Nat.reduceAdd, Nat.reduceSub, Nat.reduceMul, Nat.reduceLeDiff, Nat.reduceLT, Nat.reduceEqDiff, Nat.reduceBneDiff, Int.reduceLE, Int.reduceLT, Int.reduceToNat, Int.reduceBEq, Int.reduceBNe, Int.reduceAdd, Int.reduceSub, Int.cast_ofNat_Int]
  have h3' : varE p.pts p.prs ws = 0 := by omega
  rw [if_neg h3, if_neg h3]
  obtain ⟨X, Y, R, E, l1, l2⟩ := var27_ok p.pts p.prs ws hw h3'
  have C := r3cmp_c (dR X Y l1 l2) hp.v.dR
  rw [pz_pos _ E.dp, pd_id E.dp, E.cmp (Eqv.refl (pz p.v.z p.v.d) (pd_pos p.v.d))] at C
  have hd := dec_ok h1' h3'
  rw [show DecV p ws = decV p ws by unfold DecV; rw [if_neg h1], show DecE p ws = 0 by unfold DecE; rw [if_neg h1, hd]] at D
  rw [hd]
  unfold lowB
  generalize cmpZ (varN p.pts ws * (pd p.v.d : Int)) (pz p.v.z p.v.d * (varD p.pts ws : Int)) = cv at *
  generalize sgnI (pz p.v.z p.v.d) = sv at *
  generalize decV p ws = dv at *
  have h6 : ¬ ((0 : Int) ≠ 0) := by simp
  refine ACalls.of ⟨11, []⟩ (fn := Tryz.f13) Tryz.func13 rfl rfl rfl (by kernel_rfl) (by kernel_rfl) (Nat.le_of_ble_eq_true rfl) ?_
  simp -implicitDefEqProofs only [go_sem, awp_seq, Nat.reduceBNe, Nat.reduceBEq, Nat.reduceAdd, Nat.reduceSub, Nat.reduceMul, Nat.reduceLeDiff, Nat.reduceLT, Nat.reduceEqDiff, Nat.reduceBneDiff, Int.reduceLE, Int.reduceLT, Int.reduceToNat, Int.reduceBEq, Int.reduceBNe, Int.reduceAdd, Int.reduceSub, Int.cast_ofNat_Int]
  refine callA_tt V ?_
  simp -implicitDefEqProofs only [g1, g2, go_sem, awp_seq, Nat.reduceBNe, Nat.reduceBEq, Nat.reduceAdd, Nat.reduceSub, Nat.reduceMul, Nat.reduceLeDiff, Nat.reduceLT, Nat.reduceEqDiff, Nat.reduceBneDiff, Int.reduceLE, Int.reduceLT, Int.reduceToNat, Int.reduceBEq, Int.reduceBNe, Int.reduceAdd, Int.reduceSub, Int.cast_ofNat_Int]
  refine callA_tt R ?_
  simp -implicitDefEqProofs only [bne_self_eq_false, go_sem, awp_seq, Nat.reduceBNe, Nat.reduceBEq, Nat.reduceAdd, Nat.reduceSub, Nat.reduceMul, Nat.reduceLeDiff, Nat.reduceLT, Nat.reduceEqDiff, Nat.reduceBneDiff, Int.reduceLE, Int.reduceLT, Int.reduceToNat, Int.reduceBEq, Int.reduceBNe, Int.reduceAdd, Int.reduceSub, Int.cast_ofNat_Int]
  by_cases h4 : p.len ≤ n
  · have g4 : decide (p.len ≤ n) = true := by simp [h4]
    simp -implicitDefEqProofs only [g4, if_pos h4, go_sem, awp_seq, Nat.reduceBNe, Nat.reduceBEq, Nat.reduceAdd, Nat.reduceSub, Nat.reduceMul, Nat.reduceLeDiff, Nat.reduceLT, Nat.reduceEqDiff, Nat.reduceBneDiff, Int.reduceLE, Int.reduceLT, Int.reduceToNat, Int.reduceBEq, Int.reduceBNe, Int.reduceAdd, Int.reduceSub, Int.cast_ofNat_Int]
  have g4 : decide (p.len ≤ n) = false := by simp [h4]
  simp -implicitDefEqProofs only [g4, if_neg h4, go_sem, awp_seq, Nat.reduceBNe, Nat.reduceBEq, Nat.reduceAdd, Nat.reduceSub, Nat.reduceMul, Nat.reduceLeDiff, Nat.reduceLT, Nat.reduceEqDiff, Nat.reduceBneDiff, Int.reduceLE, Int.reduceLT, Int.reduceToNat, Int.reduceBEq, Int.reduceBNe, Int.reduceAdd, Int.reduceSub, Int.cast_ofNat_Int]
  by_cases h5 : n < p.min
  · have g5 : decide (n < p.min) = true := by simp [h5]
    simp -implicitDefEqProofs only [g5, if_pos h5, go_sem, awp_seq, Nat.reduceBNe, Nat.reduceBEq, Nat.reduceAdd, Nat.reduceSub, Nat.reduceMul, Nat.reduceLeDiff, Nat.reduceLT, Nat.reduceEqDiff, Nat.reduceBneDiff, Int.reduceLE, Int.reduceLT, Int.reduceToNat, Int.reduceBEq, Int.reduceBNe, Int.reduceAdd, Int.reduceSub, Int.cast_ofNat_Int]
  have g5 : decide (n < p.min) = false := by simp [h5]
  simp -implicitDefEqProofs only [g5, if_neg h5, go_sem, awp_seq, Nat.reduceBNe, Nat.reduceBEq, Nat.reduceAdd, Nat.reduceSub, Nat.reduceMul, Nat.reduceLeDiff, Nat.reduceLT, Nat.reduceEqDiff, Nat.reduceBneDiff, Int.reduceLE, Int.reduceLT, Int.reduceToNat, Int.reduceBEq, Int.reduceBNe, Int.reduceAdd, Int.reduceSub, Int.cast_ofNat_Int]
  refine callA_tt S ?_
  cases c1 : decide (0 < sv) with
  | true =>
    simp -implicitDefEqProofs only [c1, go_sem, awp_seq, Nat.reduceBNe, Nat.reduceBEq, Nat.reduceAdd, Nat.reduceSub, Nat.reduceMul, Nat.reduceLeDiff, Nat.reduceLT, Nat.reduceEqDiff, Nat.reduceBneDiff, Int.reduceLE, Int.reduceLT, Int.reduceToNat, Int.reduceBEq, Int.reduceBNe, Int.reduceAdd, Int.reduceSub, Int.cast_ofNat_Int]
    refine callA_tt C ?_
    cases c2 : decide (cv ≤ 0) with
    | true => simp -implicitDefEqProofs only [c2, Bool.and_self, if_true, go_sem, awp_seq, Nat.reduceBNe, Nat.reduceBEq, Nat.reduceAdd, Nat.reduceSub, Nat.reduceMul, Nat.reduceLeDiff, Nat.reduceLT, Nat.reduceEqDiff, Nat.reduceBneDiff, Int.reduceLE, Int.reduceLT, Int.reduceToNat, Int.reduceBEq, Int.reduceBNe, Int.reduceAdd, Int.reduceSub, Int.cast_ofNat_Int]
    | false =>
      simp -implicitDefEqProofs only [c2, go_sem, awp_seq, Nat.reduceBNe, Nat.reduceBEq, Nat.reduceAdd, Nat.reduceSub, Nat.reduceMul, Nat.reduceLeDiff, Nat.reduceLT, Nat.reduceEqDiff, Nat.reduceBneDiff, Int.reduceLE, Int.reduceLT, Int.reduceToNat, Int.reduceBEq, Int.reduceBNe, Int.reduceAdd, Int.reduceSub, Int.cast_ofNat_Int]
      refine callA_tt D ?_
      cases dv with
      | true => simp -implicitDefEqProofs only [not_true_eq_false, Bool.false_eq_true, if_false, if_true, go_sem, awp_seq, Nat.reduceBNe, Nat.reduceBEq, Nat.reduceAdd, Nat.reduceSub, Nat.reduceMul, Nat.reduceLeDiff, Nat.reduceLT, Nat.reduceEqDiff, Nat.reduceBneDiff, Int.reduceLE, Int.reduceLT, Int.reduceToNat, Int.reduceBEq, Int.reduceBNe, Int.reduceAdd, Int.reduceSub, Int.cast_ofNat_Int]
      | false => simp -implicitDefEqProofs only [not_true_eq_false, Bool.false_eq_true, if_false, go_sem, awp_seq, Nat.reduceBNe, Nat.reduceBEq, Nat.reduceAdd, Nat.reduceSub, Nat.reduceMul, Nat.reduceLeDiff, Nat.reduceLT, Nat.reduceEqDiff, Nat.reduceBneDiff, Int.reduceLE, Int.reduceLT, Int.reduceToNat, Int.reduceBEq, Int.reduceBNe, Int.reduceAdd, Int.reduceSub, Int.cast_ofNat_Int]
  | false =>
    simp -implicitDefEqProofs only [c1, go_sem, awp_seq, Nat.reduceBNe, Nat.reduceBEq, Nat.reduceAdd, Nat.reduceSub, Nat.reduceMul, Nat.reduceLeDiff, Nat.reduceLT, Nat.reduceEqDiff, Nat.reduceBneDiff, Int.reduceLE, Int.reduceLT, Int.reduceToNat, Int.reduceBEq, Int.reduceBNe, Int.reduceAdd, Int.reduceSub, Int.cast_ofNat_Int]
    refine callA_tt D ?_
    cases dv with
    | true => simp -implicitDefEqProofs only [not_true_eq_false, Bool.false_eq_true, if_false, if_true, Bool.false_and, go_sem, awp_seq, Nat.reduceBNe, Nat.reduceBEq, Nat.reduceAdd, Nat.reduceSub, Nat.reduceMul, Nat.reduceLeDiff, Nat.reduceLT, Nat.reduceEqDiff, Nat.reduceBneDiff, Int.reduceLE, Int.reduceLT, Int.reduceToNat, Int.reduceBEq, Int.reduceBNe, Int.reduceAdd, Int.reduceSub, Int.cast_ofNat_Int]
    | false => simp -implicitDefEqProofs only [not_true_eq_false, Bool.false_eq_true, if_false, Bool.false_and, go_sem, awp_seq, Nat.reduceBNe, Nat.reduceBEq, Nat.reduceAdd, Nat.reduceSub, Nat.reduceMul, Nat.reduceLeDiff, Nat.reduceLT, Nat.reduceEqDiff, Nat.reduceBneDiff, Int.reduceLE, Int.reduceLT, Int.reduceToNat, Int.reduceBEq, Int.reduceBNe, Int.reduceAdd, Int.reduceSub, Int.cast_ofNat_Int]
set_option maxHeartbeats 1000000 in
theorem first38_c (p : PolV) (hp : POK p) (wss : List (List (List Nat))) (hw : W3 wss) : AT 17 [polA p, natss wss] (tri (firstR p wss)) := by
  have V := valid38_c p hp
  unfold firstR
  by_cases h1 : polE p ≠ 0
  · have g1 : (polE p != 0) = true := by simpa using h1
    rw [if_pos h1]
    refine ACalls.of ⟨11, []⟩ (fn := Tryz.f17) Tryz.func17 rfl rfl rfl (by kernel_rfl) (by kernel_rfl) (Nat.le_of_ble_eq_true rfl) ?_
    simp -implicitDefEqProofs only [go_sem, awp_seq, Nat.reduceBNe, Nat.reduceBEq, Nat.reduceAdd, Nat.reduceSub, Nat.reduceMul, Nat.reduceLeDiff, Nat.reduceLT, Nat.reduceEqDiff, Nat.reduceBneDiff, Int.reduceLE, Int.reduceLT, Int.reduceToNat, Int.reduceBEq, Int.reduceBNe, Int.reduceAdd, Int.reduceSub, Int.cast_ofNat_Int]
    refine callA_tt V ?_
    simp -implicitDefEqProofs only [g1, go_sem, awp_seq, Nat.reduceBNe, Nat.reduceBEq, Nat.reduceAdd, Nat.reduceSub, Nat.reduceMul, Nat.reduceLeDiff, Nat.reduceLT, Nat.reduceEqDiff, Nat.reduceBneDiff, Int.reduceLE, Int.reduceLT, Int.reduceToNat, Int.reduceBEq, Int.reduceBNe, Int.reduceAdd, Int.reduceSub, Int.cast_ofNat_Int]
  have g1 : (polE p != 0) = false := by simpa using h1
  rw [if_neg h1]
  by_cases h2 : 18 < wss.length
  · have g2 : decide ((18 : Int) < (wss.length : Nat)) = true := by simp; omega
    rw [if_pos h2]
    refine ACalls.of ⟨11, []⟩ (fn := Tryz.f17) Tryz.func17 rfl rfl rfl (by kernel_rfl) (by kernel_rfl) (Nat.le_of_ble_eq_true rfl) ?_
    simp -implicitDefEqProofs only [go_sem, awp_seq, Nat.reduceBNe, Nat.reduceBEq, Nat.reduceAdd, Nat.reduceSub, Nat.reduceMul, Nat.reduceLeDiff, Nat.reduceLT, Nat.reduceEqDiff, Nat.reduceBneDiff, Int.reduceLE, Int.reduceLT, Int.reduceToNat, Int.reduceBEq, Int.reduceBNe, Int.reduceAdd, Int.reduceSub, Int.cast_ofNat_Int]
    refine callA_tt V ?_
    simp -implicitDefEqProofs only [g1, g2, List.length_map, go_sem, awp_seq, Nat.reduceBNe, Nat.reduceBEq, Nat.reduceAdd, Nat.reduceSub, Nat.reduceMul, Nat.reduceLeDiff, Nat.reduceLT, Nat.reduceEqDiff, Nat.reduceBneDiff, Int.reduceLE, Int.reduceLT, Int.reduceToNat, Int.reduceBEq, Int.reduceBNe, Int.reduceAdd, Int.reduceSub, Int.cast_ofNat_Int]
  have g2 : decide ((18 : Int) < (wss.length : Nat)) = false := by simp; omega
  rw [if_neg h2]
  obtain ⟨R, hR⟩ : ∃ R, R = firstS p 0 wss := ⟨_, rfl⟩
  rw [← hR]
  refine ACalls.of ⟨11, []⟩ (fn := Tryz.f17) Tryz.func17 rfl rfl rfl (by kernel_rfl) (by kernel_rfl) (Nat.le_of_ble_eq_true rfl) ?_
  simp -implicitDefEqProofs only [go_sem, awp_seq, Nat.reduceBNe, Nat.reduceBEq, Nat.reduceAdd, Nat.reduceSub, Nat.reduceMul, Nat.reduceLeDiff, Nat.reduceLT, Nat.reduceEqDiff, Nat.reduceBneDiff, Int.reduceLE, Int.reduceLT, Int.reduceToNat, Int.reduceBEq, Int.reduceBNe, Int.reduceAdd, Int.reduceSub, Int.cast_ofNat_Int]
  refine callA_tt V ?_
  simp -implicitDefEqProofs only [g1, g2, List.length_map, go_sem, awp_seq, Nat.reduceBNe, Nat.reduceBEq, Nat.reduceAdd, Nat.reduceSub, Nat.reduceMul, Nat.reduceLeDiff, Nat.reduceLT, Nat.reduceEqDiff, Nat.reduceBneDiff, Int.reduceLE, Int.reduceLT, Int.reduceToNat, Int.reduceBEq, Int.reduceBNe, Int.reduceAdd, Int.reduceSub, Int.cast_ofNat_Int]
  refine loop_mk (α := {k : Nat // k ≤ wss.length ∧ R = firstS p k (wss.drop k)}) (fun k => [(0, some (.av (polA p))), (1, some (.av (natss wss))), (2, some (.ref 2 0)), (4, some (.av (i64 0))), (5, some (.av (i64 0))), (6, some (.av (i64 0))), (8, some (.av (i64 (k.1 : Nat))))]) (fun _ => [(2, polC p)]) (fun _ => []) (fun k => wss.length - k.1) ⟨0, Nat.zero_le _, hR⟩ ?_ ?_
  · simp -implicitDefEqProofs only [go_sem, awp_seq, Nat.reduceBNe, Nat.reduceBEq, Nat.reduceAdd, Nat.reduceSub, Nat.reduceMul, Nat.reduceLeDiff, Nat.reduceLT, Nat.reduceEqDiff, Nat.reduceBneDiff, Int.reduceLE, Int.reduceLT, Int.reduceToNat, Int.reduceBEq, Int.reduceBNe, Int.reduceAdd, Int.reduceSub, Int.cast_ofNat_Int]
  · clear hR
    rintro ⟨k, hk, hR⟩
    by_cases hlt : k < wss.length
    · have q1 : decide (((k : Nat) : Int) < (wss.length : Nat)) = true := by simp; omega
      have e1 := map_get (fun ws => nats ws) wss hlt
      have w1 : IntKind.i64.wrap ((k : Int) + 1) = ((k + 1 : Nat) : Int) := by rw [IntWalk.i64_in _ (by omega)]; omega
      rw [List.drop_eq_getElem_cons hlt] at hR
      obtain ⟨hw1, hw2⟩ := hw _ (List.getElem_mem hlt)
      generalize wss[k] = ws at *
      have C := reason38_c p hp ws hw1 hw2 ((k + 1 : Nat) : Int)
      unfold firstS at hR
      generalize reasE p ((k + 1 : Nat) : Int) ws = e at *
      generalize reasV p ((k + 1 : Nat) : Int) ws = v at *
      by_cases h3 : e ≠ 0
      · have g3 : (e != 0) = true := by simpa using h3
        rw [if_pos h3] at hR
        subst hR
        simp -implicitDefEqProofs only [q1, e1, w1, List.length_map, Int.toNat_natCast, Int.natCast_nonneg, go_sem, awp_seq, Nat.reduceBNe, Nat.reduceBEq, Nat.reduceAdd, Nat.reduceSub, Nat.reduceMul, Nat.reduceLeDiff, Nat.reduceLT, Nat.reduceEqDiff, Nat.reduceBneDiff, Int.reduceLE, Int.reduceLT, Int.reduceToNat, Int.reduceBEq, Int.reduceBNe, Int.reduceAdd, Int.reduceSub, Int.cast_ofNat_Int]
        refine callA_tt C ?_
        simp -implicitDefEqProofs only [g3, go_sem, awp_seq, Nat.reduceBNe, Nat.reduceBEq, Nat.reduceAdd, Nat.reduceSub, Nat.reduceMul, Nat.reduceLeDiff, Nat.reduceLT, Nat.reduceEqDiff, Nat.reduceBneDiff, Int.reduceLE, Int.reduceLT, Int.reduceToNat, Int.reduceBEq, Int.reduceBNe, Int.reduceAdd, Int.reduceSub, Int.cast_ofNat_Int]
      · have g3 : (e != 0) = false := by simpa using h3
        obtain rfl : e = 0 := by omega
        rw [if_neg h3] at hR
        by_cases h4 : v ≠ 0
        · have g4 : (v != 0) = true := by simpa using h4
          rw [if_pos h4] at hR
          subst hR
          simp -implicitDefEqProofs only [q1, e1, w1, List.length_map, Int.toNat_natCast, Int.natCast_nonneg, go_sem, awp_seq, Nat.reduceBNe, Nat.reduceBEq, Nat.reduceAdd, Nat.reduceSub, Nat.reduceMul, Nat.reduceLeDiff, Nat.reduceLT, Nat.reduceEqDiff, Nat.reduceBneDiff, Int.reduceLE, Int.reduceLT, Int.reduceToNat, Int.reduceBEq, Int.reduceBNe, Int.reduceAdd, Int.reduceSub, Int.cast_ofNat_Int]
          refine callA_tt C ?_
          simp -implicitDefEqProofs only [g3, g4, w1, go_sem, awp_seq, Nat.reduceBNe, Nat.reduceBEq, Nat.reduceAdd, Nat.reduceSub, Nat.reduceMul, Nat.reduceLeDiff, Nat.reduceLT, Nat.reduceEqDiff, Nat.reduceBneDiff, Int.reduceLE, Int.reduceLT, Int.reduceToNat, Int.reduceBEq, Int.reduceBNe, Int.reduceAdd, Int.reduceSub, Int.cast_ofNat_Int]
        · have g4 : (v != 0) = false := by simpa using h4
          rw [if_neg h4] at hR
          simp -implicitDefEqProofs only [q1, e1, w1, List.length_map, Int.toNat_natCast, Int.natCast_nonneg, go_sem, awp_seq, Nat.reduceBNe, Nat.reduceBEq, Nat.reduceAdd, Nat.reduceSub, Nat.reduceMul, Nat.reduceLeDiff, Nat.reduceLT, Nat.reduceEqDiff, Nat.reduceBneDiff, Int.reduceLE, Int.reduceLT, Int.reduceToNat, Int.reduceBEq, Int.reduceBNe, Int.reduceAdd, Int.reduceSub, Int.cast_ofNat_Int]
          refine callA_tt C ?_
          simp -implicitDefEqProofs only [g3, g4, w1, go_sem, awp_seq, Nat.reduceBNe, Nat.reduceBEq, Nat.reduceAdd, Nat.reduceSub, Nat.reduceMul, Nat.reduceLeDiff, Nat.reduceLT, Nat.reduceEqDiff, Nat.reduceBneDiff, Int.reduceLE, Int.reduceLT, Int.reduceToNat, Int.reduceBEq, Int.reduceBNe, Int.reduceAdd, Int.reduceSub, Int.cast_ofNat_Int]
          refine roundK_mk ⟨k + 1, by omega, hR⟩ ?_ (by show wss.length - (k + 1) < wss.length - k; omega)
          simp -implicitDefEqProofs only [go_sem, awp_seq, Nat.reduceBNe, Nat.reduceBEq, Nat.reduceAdd, Nat.reduceSub, Nat.reduceMul, Nat.reduceLeDiff, Nat.reduceLT, Nat.reduceEqDiff, Nat.reduceBneDiff, Int.reduceLE, Int.reduceLT, Int.reduceToNat, Int.reduceBEq, Int.reduceBNe, Int.reduceAdd, Int.reduceSub, Int.cast_ofNat_Int]
    · have q1 : decide (((k : Nat) : Int) < (wss.length : Nat)) = false := by simp; omega
      rw [List.drop_of_length_le (by omega)] at hR
      have hR : R = (0, 0, 0) := hR
      subst hR
      simp -implicitDefEqProofs only [q1, List.length_map, go_sem, awp_seq, Nat.reduceBNe, Nat.reduceBEq, Nat.reduceAdd, Nat.reduceSub, Nat.reduceMul, Nat.reduceLeDiff, Nat.reduceLT, Nat.reduceEqDiff, Nat.reduceBneDiff, Int.reduceLE, Int.reduceLT, Int.reduceToNat, Int.reduceBEq, Int.reduceBNe, Int.reduceAdd, Int.reduceSub, Int.cast_ofNat_Int]
theorem reasons_c (p : PolV) (hp : POK p) (n : Int) (ws : List (List Nat)) (hw : WOK ws) (hl : ws.length < 3000000) : AC 4 [polA p, i64 n, nats ws] (boo true) := by
  have A1 := reason_c p hp ws hw hl n
  have A2 := reason38_c p hp ws hw hl n
  have B1 := Decided_c p hp ws hw hl
  have B2 := decided38_c p hp ws hw hl
  generalize reasV p n ws = v at *
  generalize reasE p n ws = e at *
  generalize DecV p ws = d at *
  generalize DecE p ws = f at *
  have hd : (d == d) = true := by cases d <;> rfl
  refine ACalls.of ⟨13, []⟩ (fn := Tryz.f4) Tryz.func4 rfl rfl rfl (by kernel_rfl) (by kernel_rfl) (Nat.le_of_ble_eq_true rfl) ?_
  simp -implicitDefEqProofs only [go_sem, awp_seq, Nat.reduceBNe, Nat.reduceBEq, Nat.reduceAdd, Nat.reduceSub, Nat.reduceMul, Nat.reduceLeDiff, Nat.reduceLT, Nat.reduceEqDiff, Nat.reduceBneDiff, Int.reduceLE, Int.reduceLT, Int.reduceToNat, Int.reduceBEq, Int.reduceBNe, Int.reduceAdd, Int.reduceSub, Int.cast_ofNat_Int]
  refine callA_mk A1 ?_
  simp -implicitDefEqProofs only [go_sem, awp_seq, Nat.reduceBNe, Nat.reduceBEq, Nat.reduceAdd, Nat.reduceSub, Nat.reduceMul, Nat.reduceLeDiff, Nat.reduceLT, Nat.reduceEqDiff, Nat.reduceBneDiff, Int.reduceLE, Int.reduceLT, Int.reduceToNat, Int.reduceBEq, Int.reduceBNe, Int.reduceAdd, Int.reduceSub, Int.cast_ofNat_Int]
  refine callA_t A2 ?_
  simp -implicitDefEqProofs only [bne_self_eq_false, go_sem, awp_seq, Nat.reduceBNe, Nat.reduceBEq, Nat.reduceAdd, Nat.reduceSub, Nat.reduceMul, Nat.reduceLeDiff, Nat.reduceLT, Nat.reduceEqDiff, Nat.reduceBneDiff, Int.reduceLE, Int.reduceLT, Int.reduceToNat, Int.reduceBEq, Int.reduceBNe, Int.reduceAdd, Int.reduceSub, Int.cast_ofNat_Int]
  refine callA_mk B1 ?_
  simp -implicitDefEqProofs only [go_sem, awp_seq, Nat.reduceBNe, Nat.reduceBEq, Nat.reduceAdd, Nat.reduceSub, Nat.reduceMul, Nat.reduceLeDiff, Nat.reduceLT, Nat.reduceEqDiff, Nat.reduceBneDiff, Int.reduceLE, Int.reduceLT, Int.reduceToNat, Int.reduceBEq, Int.reduceBNe, Int.reduceAdd, Int.reduceSub, Int.cast_ofNat_Int]
  refine callA_t B2 ?_
  simp -implicitDefEqProofs only [BEq.rfl, hd, go_sem, awp_seq, Nat.reduceBNe, Nat.reduceBEq, Nat.reduceAdd, Nat.reduceSub, Nat.reduceMul, Nat.reduceLeDiff, Nat.reduceLT, Nat.reduceEqDiff, Nat.reduceBneDiff, Int.reduceLE, Int.reduceLT, Int.reduceToNat, Int.reduceBEq, Int.reduceBNe, Int.reduceAdd, Int.reduceSub, Int.cast_ofNat_Int]
  refine callA_mk awake38_c ?_
  simp -implicitDefEqProofs only [go_sem, awp_seq, Nat.reduceBNe, Nat.reduceBEq, Nat.reduceAdd, Nat.reduceSub, Nat.reduceMul, Nat.reduceLeDiff, Nat.reduceLT, Nat.reduceEqDiff, Nat.reduceBneDiff, Int.reduceLE, Int.reduceLT, Int.reduceToNat, Int.reduceBEq, Int.reduceBNe, Int.reduceAdd, Int.reduceSub, Int.cast_ofNat_Int]
theorem firsts_c (p : PolV) (hp : POK p) (wss : List (List (List Nat))) (hw : W3 wss) : AC 5 [polA p, natss wss] (boo true) := by
  have A1 := first_c p hp wss hw
  have A2 := first38_c p hp wss hw
  generalize firstR p wss = R at *
  obtain ⟨n, v, e⟩ := R
  refine ACalls.of ⟨11, []⟩ (fn := Tryz.f5) Tryz.func5 rfl rfl rfl (by kernel_rfl) (by kernel_rfl) (Nat.le_of_ble_eq_true rfl) ?_
  simp -implicitDefEqProofs only [go_sem, awp_seq, Nat.reduceBNe, Nat.reduceBEq, Nat.reduceAdd, Nat.reduceSub, Nat.reduceMul, Nat.reduceLeDiff, Nat.reduceLT, Nat.reduceEqDiff, Nat.reduceBneDiff, Int.reduceLE, Int.reduceLT, Int.reduceToNat, Int.reduceBEq, Int.reduceBNe, Int.reduceAdd, Int.reduceSub, Int.cast_ofNat_Int]
  refine callA_mk A1 ?_
  simp -implicitDefEqProofs only [go_sem, awp_seq, Nat.reduceBNe, Nat.reduceBEq, Nat.reduceAdd, Nat.reduceSub, Nat.reduceMul, Nat.reduceLeDiff, Nat.reduceLT, Nat.reduceEqDiff, Nat.reduceBneDiff, Int.reduceLE, Int.reduceLT, Int.reduceToNat, Int.reduceBEq, Int.reduceBNe, Int.reduceAdd, Int.reduceSub, Int.cast_ofNat_Int]
  refine callA_t A2 ?_
  simp -implicitDefEqProofs only [BEq.rfl, go_sem, awp_seq, Nat.reduceBNe, Nat.reduceBEq, Nat.reduceAdd, Nat.reduceSub, Nat.reduceMul, Nat.reduceLeDiff, Nat.reduceLT, Nat.reduceEqDiff, Nat.reduceBneDiff, Int.reduceLE, Int.reduceLT, Int.reduceToNat, Int.reduceBEq, Int.reduceBNe, Int.reduceAdd, Int.reduceSub, Int.cast_ofNat_Int]
  refine callA_mk awake38_c ?_
  simp -implicitDefEqProofs only [go_sem, awp_seq, Nat.reduceBNe, Nat.reduceBEq, Nat.reduceAdd, Nat.reduceSub, Nat.reduceMul, Nat.reduceLeDiff, Nat.reduceLT, Nat.reduceEqDiff, Nat.reduceBneDiff, Int.reduceLE, Int.reduceLT, Int.reduceToNat, Int.reduceBEq, Int.reduceBNe, Int.reduceAdd, Int.reduceSub, Int.cast_ofNat_Int]
end Go.Proofs.YtfchbehmeppckaaGreat

/- The laws of chapter 38 that ask for the document's answer, for all arguments of their shapes. -/
set_option linter.unusedSimpArgs false
set_option linter.unusedVariables false
namespace Go.Proofs.YtfchbehmeppckaaGreat
open Go.RowKit Lim

theorem sReas.law (as' : List AV) (h : OkA 1048576 [shPol, shI, (.sl .nat)] as') : AC 4 as' (boo true) := by
  obtain ⟨a, b, c, rfl, h1, h2, h3⟩ := okA_three h
  obtain ⟨p, rfl, hp⟩ := h1.pol (by omega)
  obtain ⟨n, rfl, _⟩ := h2.i64
  obtain ⟨ws, rfl, hw, hl⟩ := h3.weights (by omega)
  exact reasons_c p hp n ws hw (by omega)
theorem sFirst.law (as' : List AV) (h : OkA 1048576 [shPol, shW] as') : AC 5 as' (boo true) := by
  obtain ⟨a, b, rfl, h1, h2⟩ := okA_two h
  obtain ⟨p, rfl, hp⟩ := h1.pol (by omega)
  obtain ⟨wss, rfl, hw⟩ := h2.wss (by omega)
  exact firsts_c p hp wss hw
end Go.Proofs.YtfchbehmeppckaaGreat
