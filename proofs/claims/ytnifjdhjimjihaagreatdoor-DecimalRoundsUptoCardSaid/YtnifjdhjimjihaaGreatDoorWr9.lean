import Derived.Test.YtnifjdhjimjihaaGreatDoorWr8
import Derived.Test.YtnifjdhjimjihaaGreatDoorWKeep
/- The document's rounding (examboardref04), by the engine. INTS -/
set_option linter.unusedSimpArgs false
set_option linter.unusedVariables false
namespace Go.Proofs.YtnifjdhjimjihaaGreatDoor
open Go.RowKit Lim

theorem limbs_one : limbs 1 = [1] := limbs_single (by omega) (by omega)
theorem r4whole_c {a : AV} {z : Int} (ha : DI a z) : AT 42 [a] (ratN z 1) := by
  have s1 := r2norm_c ha
  obtain ⟨_, _, rfl, _⟩ := ha
  refine ACalls.of 3 (fn := Tryz.f42) Tryz.func42 rfl rfl rfl (by kernel_rfl) (by kernel_rfl) (Nat.le_of_ble_eq_true rfl) ?_
  simp -implicitDefEqProofs only [go_sem, awp_seq, Nat.reduceBNe, Nat.reduceBEq, Nat.reduceAdd, Nat.reduceSub, Nat.reduceMul, Nat.reduceLeDiff, Nat.reduceLT, Nat.reduceEqDiff, Nat.reduceBneDiff, Int.reduceLE, Int.reduceLT, Int.reduceToNat, Int.reduceBEq, Int.reduceBNe, Int.reduceAdd, Int.reduceSub]
  refine callA_tt s1 ?_
  simp -implicitDefEqProofs only [limbs_one, intN, ratN, go_sem, awp_seq, Nat.reduceBNe, Nat.reduceBEq, Nat.reduceAdd, Nat.reduceSub, Nat.reduceMul, Nat.reduceLeDiff, Nat.reduceLT, Nat.reduceEqDiff, Nat.reduceBneDiff, Int.reduceLE, Int.reduceLT, Int.reduceToNat, Int.reduceBEq, Int.reduceBNe, Int.reduceAdd, Int.reduceSub]
theorem r4power_c (p : Nat) (hp : p ≤ 9) : AT 43 [i64 (p : Nat)] (natN (10 ^ p)) := by
  refine ACalls.of 4 (fn := Tryz.f43) Tryz.func43 rfl rfl rfl (by kernel_rfl) (by kernel_rfl) (Nat.le_of_ble_eq_true rfl) ?_
  simp -implicitDefEqProofs only [go_sem, awp_seq, Nat.reduceBNe, Nat.reduceBEq, Nat.reduceAdd, Nat.reduceSub, Nat.reduceMul, Nat.reduceLeDiff, Nat.reduceLT, Nat.reduceEqDiff, Nat.reduceBneDiff, Int.reduceLE, Int.reduceLT, Int.reduceToNat, Int.reduceBEq, Int.reduceBNe, Int.reduceAdd, Int.reduceSub]
  refine callA_tt (r1pow_c [10] (dig_one (by omega)) p (by omega) (by simp; omega) (by simp)) ?_
  simp -implicitDefEqProofs only [val_one, go_sem, awp_seq, Nat.reduceBNe, Nat.reduceBEq, Nat.reduceAdd, Nat.reduceSub, Nat.reduceMul, Nat.reduceLeDiff, Nat.reduceLT, Nat.reduceEqDiff, Nat.reduceBneDiff, Int.reduceLE, Int.reduceLT, Int.reduceToNat, Int.reduceBEq, Int.reduceBNe, Int.reduceAdd, Int.reduceSub]
theorem r4mode_c (mode : Int) : AT 40 [i64 mode] (boo (decide (1 ≤ mode) && decide (mode ≤ 7))) := by
  by_cases h : 1 ≤ mode
  · have f : decide (1 ≤ mode) = true := by simp [h]
    rw [f]
    refine ACalls.of 3 (fn := Tryz.f40) Tryz.func40 rfl rfl rfl (by kernel_rfl) (by kernel_rfl) (Nat.le_of_ble_eq_true rfl) ?_
    simp -implicitDefEqProofs only [f, go_sem, awp_seq, Nat.reduceBNe, Nat.reduceBEq, Nat.reduceAdd, Nat.reduceSub, Nat.reduceMul, Nat.reduceLeDiff, Nat.reduceLT, Nat.reduceEqDiff, Nat.reduceBneDiff, Int.reduceLE, Int.reduceLT, Int.reduceToNat, Int.reduceBEq, Int.reduceBNe, Int.reduceAdd, Int.reduceSub]
  · have f : decide (1 ≤ mode) = false := by simp [h]
    rw [f]
    refine ACalls.of 3 (fn := Tryz.f40) Tryz.func40 rfl rfl rfl (by kernel_rfl) (by kernel_rfl) (Nat.le_of_ble_eq_true rfl) ?_
    simp -implicitDefEqProofs only [f, go_sem, awp_seq, Nat.reduceBNe, Nat.reduceBEq, Nat.reduceAdd, Nat.reduceSub, Nat.reduceMul, Nat.reduceLeDiff, Nat.reduceLT, Nat.reduceEqDiff, Nat.reduceBneDiff, Int.reduceLE, Int.reduceLT, Int.reduceToNat, Int.reduceBEq, Int.reduceBNe, Int.reduceAdd, Int.reduceSub]
theorem r4places_c (n : Int) : AT 39 [i64 n] (boo (decide (0 ≤ n) && decide (n ≤ 9))) := by
  by_cases h : 0 ≤ n
  · have f : decide (0 ≤ n) = true := by simp [h]
    rw [f]
    refine ACalls.of 3 (fn := Tryz.f39) Tryz.func39 rfl rfl rfl (by kernel_rfl) (by kernel_rfl) (Nat.le_of_ble_eq_true rfl) ?_
    simp -implicitDefEqProofs only [f, go_sem, awp_seq, Nat.reduceBNe, Nat.reduceBEq, Nat.reduceAdd, Nat.reduceSub, Nat.reduceMul, Nat.reduceLeDiff, Nat.reduceLT, Nat.reduceEqDiff, Nat.reduceBneDiff, Int.reduceLE, Int.reduceLT, Int.reduceToNat, Int.reduceBEq, Int.reduceBNe, Int.reduceAdd, Int.reduceSub]
  · have f : decide (0 ≤ n) = false := by simp [h]
    rw [f]
    refine ACalls.of 3 (fn := Tryz.f39) Tryz.func39 rfl rfl rfl (by kernel_rfl) (by kernel_rfl) (Nat.le_of_ble_eq_true rfl) ?_
    simp -implicitDefEqProofs only [f, go_sem, awp_seq, Nat.reduceBNe, Nat.reduceBEq, Nat.reduceAdd, Nat.reduceSub, Nat.reduceMul, Nat.reduceLeDiff, Nat.reduceLT, Nat.reduceEqDiff, Nat.reduceBneDiff, Int.reduceLE, Int.reduceLT, Int.reduceToNat, Int.reduceBEq, Int.reduceBNe, Int.reduceAdd, Int.reduceSub]
section
variable {X F R : Int} {E G : Nat} (hE : 0 < E) (hG : 0 < G) (n1 : nlen X.natAbs < 100000000) (n2 : nlen E < 100000000) (n4 : nlen R.natAbs < 100000000) (n5 : nlen G < 100000000)
include hG n4 n5
theorem up_half : AT 83 [ratN R G, ratA false [1] [2]] (i64 (cmpZ (R * 2) G)) := by
  have dh : DR (ratA false [1] [2]) 1 2 := ⟨false, [1], [2], rfl, dig_one (by omega), dig_one (by omega), by rw [val_one]; rfl, val_one 2, by simp, by simp⟩
  have sc := r3cmp_c (dR R G n4 n5) dh
  rw [pz_pos R hG, pd_id hG, pz_pos 1 (by omega), pd_id (by omega), Int.one_mul] at sc
  exact sc
theorem up_rest : AT 82 [ratN R G] (i64 (sgnI R)) := by
  have sc := r3sign_c (dR R G n4 n5)
  rw [pz_pos R hG] at sc
  exact sc
include hE n1 n2
omit hE n1 n2 in
theorem up_zero (mode : Int) (h0 : R = 0) : AT 46 [ratN X E, intN F, ratN R G, i64 mode] (boo false) := by
  have s1 := up_rest hG n4 n5
  have f1 : (sgnI R == 0) = true := by rw [h0]; rfl
  refine ACalls.of 18 (fn := Tryz.f46) Tryz.func46 rfl rfl rfl (by kernel_rfl) (by kernel_rfl) (Nat.le_of_ble_eq_true rfl) ?_
  simp -implicitDefEqProofs only [go_sem, awp_seq, Nat.reduceBNe, Nat.reduceBEq, Nat.reduceAdd, Nat.reduceSub, Nat.reduceMul, Nat.reduceLeDiff, Nat.reduceLT, Nat.reduceEqDiff, Nat.reduceBneDiff, Int.reduceLE, Int.reduceLT, Int.reduceToNat, Int.reduceBEq, Int.reduceBNe, Int.reduceAdd, Int.reduceSub]
  refine callA_tt s1 ?_
  simp -implicitDefEqProofs only [f1, go_sem, awp_seq, Nat.reduceBNe, Nat.reduceBEq, Nat.reduceAdd, Nat.reduceSub, Nat.reduceMul, Nat.reduceLeDiff, Nat.reduceLT, Nat.reduceEqDiff, Nat.reduceBneDiff, Int.reduceLE, Int.reduceLT, Int.reduceToNat, Int.reduceBEq, Int.reduceBNe, Int.reduceAdd, Int.reduceSub]
theorem up_dir (mode : Int) (hm : 4 ≤ mode) (hm7 : mode ≤ 7) (h0 : R ≠ 0) : AT 46 [ratN X E, intN F, ratN R G, i64 mode] (boo (hiB F (cmpZ (R * 2) G) (decide (X < 0)) mode)) := by
  have s1 := up_rest hG n4 n5
  have s2 := up_rest hE n1 n2
  have f1 : (sgnI R == 0) = false := by
    rw [beq_eq_false_iff_ne]
    unfold sgnI
    split <;> (try split) <;> omega
  obtain rfl | rfl | rfl | rfl : mode = 4 ∨ mode = 5 ∨ mode = 6 ∨ mode = 7 := by omega
  · have e : ∀ a b n, hiB a b n 4 = !n := fun a b n => by simp [hiB]
    simp only [e]
    refine ACalls.of 18 (fn := Tryz.f46) Tryz.func46 rfl rfl rfl (by kernel_rfl) (by kernel_rfl) (Nat.le_of_ble_eq_true rfl) ?_
    simp -implicitDefEqProofs only [go_sem, awp_seq, Nat.reduceBNe, Nat.reduceBEq, Nat.reduceAdd, Nat.reduceSub, Nat.reduceMul, Nat.reduceLeDiff, Nat.reduceLT, Nat.reduceEqDiff, Nat.reduceBneDiff, Int.reduceLE, Int.reduceLT, Int.reduceToNat, Int.reduceBEq, Int.reduceBNe, Int.reduceAdd, Int.reduceSub]
    refine callA_tt s1 ?_
    simp -implicitDefEqProofs only [f1, go_sem, awp_seq, Nat.reduceBNe, Nat.reduceBEq, Nat.reduceAdd, Nat.reduceSub, Nat.reduceMul, Nat.reduceLeDiff, Nat.reduceLT, Nat.reduceEqDiff, Nat.reduceBneDiff, Int.reduceLE, Int.reduceLT, Int.reduceToNat, Int.reduceBEq, Int.reduceBNe, Int.reduceAdd, Int.reduceSub]
    refine callA_tt s2 ?_
    simp -implicitDefEqProofs only [sgn_lt, Int.reduceBEq, go_sem, awp_seq, Nat.reduceBNe, Nat.reduceBEq, Nat.reduceAdd, Nat.reduceSub, Nat.reduceMul, Nat.reduceLeDiff, Nat.reduceLT, Nat.reduceEqDiff, Nat.reduceBneDiff, Int.reduceLE, Int.reduceLT, Int.reduceToNat, Int.reduceBEq, Int.reduceBNe, Int.reduceAdd, Int.reduceSub]
  · have e : ∀ a b n, hiB a b n 5 = n := fun a b n => by simp [hiB]
    simp only [e]
    refine ACalls.of 18 (fn := Tryz.f46) Tryz.func46 rfl rfl rfl (by kernel_rfl) (by kernel_rfl) (Nat.le_of_ble_eq_true rfl) ?_
    simp -implicitDefEqProofs only [go_sem, awp_seq, Nat.reduceBNe, Nat.reduceBEq, Nat.reduceAdd, Nat.reduceSub, Nat.reduceMul, Nat.reduceLeDiff, Nat.reduceLT, Nat.reduceEqDiff, Nat.reduceBneDiff, Int.reduceLE, Int.reduceLT, Int.reduceToNat, Int.reduceBEq, Int.reduceBNe, Int.reduceAdd, Int.reduceSub]
    refine callA_tt s1 ?_
    simp -implicitDefEqProofs only [f1, go_sem, awp_seq, Nat.reduceBNe, Nat.reduceBEq, Nat.reduceAdd, Nat.reduceSub, Nat.reduceMul, Nat.reduceLeDiff, Nat.reduceLT, Nat.reduceEqDiff, Nat.reduceBneDiff, Int.reduceLE, Int.reduceLT, Int.reduceToNat, Int.reduceBEq, Int.reduceBNe, Int.reduceAdd, Int.reduceSub]
    refine callA_tt s2 ?_
    simp -implicitDefEqProofs only [sgn_lt, Int.reduceBEq, go_sem, awp_seq, Nat.reduceBNe, Nat.reduceBEq, Nat.reduceAdd, Nat.reduceSub, Nat.reduceMul, Nat.reduceLeDiff, Nat.reduceLT, Nat.reduceEqDiff, Nat.reduceBneDiff, Int.reduceLE, Int.reduceLT, Int.reduceToNat, Int.reduceBEq, Int.reduceBNe, Int.reduceAdd, Int.reduceSub]
  · have e : ∀ a b n, hiB a b n 6 = false := fun a b n => by simp [hiB]
    simp only [e]
    refine ACalls.of 18 (fn := Tryz.f46) Tryz.func46 rfl rfl rfl (by kernel_rfl) (by kernel_rfl) (Nat.le_of_ble_eq_true rfl) ?_
    simp -implicitDefEqProofs only [go_sem, awp_seq, Nat.reduceBNe, Nat.reduceBEq, Nat.reduceAdd, Nat.reduceSub, Nat.reduceMul, Nat.reduceLeDiff, Nat.reduceLT, Nat.reduceEqDiff, Nat.reduceBneDiff, Int.reduceLE, Int.reduceLT, Int.reduceToNat, Int.reduceBEq, Int.reduceBNe, Int.reduceAdd, Int.reduceSub]
    refine callA_tt s1 ?_
    simp -implicitDefEqProofs only [f1, go_sem, awp_seq, Nat.reduceBNe, Nat.reduceBEq, Nat.reduceAdd, Nat.reduceSub, Nat.reduceMul, Nat.reduceLeDiff, Nat.reduceLT, Nat.reduceEqDiff, Nat.reduceBneDiff, Int.reduceLE, Int.reduceLT, Int.reduceToNat, Int.reduceBEq, Int.reduceBNe, Int.reduceAdd, Int.reduceSub]
    refine callA_tt s2 ?_
    simp -implicitDefEqProofs only [sgn_lt, Int.reduceBEq, go_sem, awp_seq, Nat.reduceBNe, Nat.reduceBEq, Nat.reduceAdd, Nat.reduceSub, Nat.reduceMul, Nat.reduceLeDiff, Nat.reduceLT, Nat.reduceEqDiff, Nat.reduceBneDiff, Int.reduceLE, Int.reduceLT, Int.reduceToNat, Int.reduceBEq, Int.reduceBNe, Int.reduceAdd, Int.reduceSub]
  · have e : ∀ a b n, hiB a b n 7 = true := fun a b n => by simp [hiB]
    simp only [e]
    refine ACalls.of 18 (fn := Tryz.f46) Tryz.func46 rfl rfl rfl (by kernel_rfl) (by kernel_rfl) (Nat.le_of_ble_eq_true rfl) ?_
    simp -implicitDefEqProofs only [go_sem, awp_seq, Nat.reduceBNe, Nat.reduceBEq, Nat.reduceAdd, Nat.reduceSub, Nat.reduceMul, Nat.reduceLeDiff, Nat.reduceLT, Nat.reduceEqDiff, Nat.reduceBneDiff, Int.reduceLE, Int.reduceLT, Int.reduceToNat, Int.reduceBEq, Int.reduceBNe, Int.reduceAdd, Int.reduceSub]
    refine callA_tt s1 ?_
    simp -implicitDefEqProofs only [f1, go_sem, awp_seq, Nat.reduceBNe, Nat.reduceBEq, Nat.reduceAdd, Nat.reduceSub, Nat.reduceMul, Nat.reduceLeDiff, Nat.reduceLT, Nat.reduceEqDiff, Nat.reduceBneDiff, Int.reduceLE, Int.reduceLT, Int.reduceToNat, Int.reduceBEq, Int.reduceBNe, Int.reduceAdd, Int.reduceSub]
    refine callA_tt s2 ?_
    simp -implicitDefEqProofs only [sgn_lt, Int.reduceBEq, go_sem, awp_seq, Nat.reduceBNe, Nat.reduceBEq, Nat.reduceAdd, Nat.reduceSub, Nat.reduceMul, Nat.reduceLeDiff, Nat.reduceLT, Nat.reduceEqDiff, Nat.reduceBneDiff, Int.reduceLE, Int.reduceLT, Int.reduceToNat, Int.reduceBEq, Int.reduceBNe, Int.reduceAdd, Int.reduceSub]
theorem up_near (mode : Int) (hm : 1 ≤ mode) (hm7 : mode ≤ 3) (h0 : R ≠ 0) : AT 46 [ratN X E, intN F, ratN R G, i64 mode] (boo (hiB F (cmpZ (R * 2) G) (decide (X < 0)) mode)) := by
  have s1 := up_rest hG n4 n5
  have s2 := up_rest hE n1 n2
  have s3 := up_half hG n4 n5
  have f1 : (sgnI R == 0) = false := by
    rw [beq_eq_false_iff_ne]
    unfold sgnI
    split <;> (try split) <;> omega
  by_cases hc : cmpZ (R * 2) G = 0
  · have fc : (cmpZ (R * 2) G != 0) = false := by simp [hc]
    obtain rfl | rfl | rfl : mode = 1 ∨ mode = 2 ∨ mode = 3 := by omega
    · have e : ∀ a n, hiB a (cmpZ (R * 2) G) n 1 = decide (a.natAbs % 2 = 1) := fun a n => by simp [hiB, hc]
      simp only [e]
      by_cases hF : F.natAbs = 0
      · have e2 : decide (F.natAbs % 2 = 1) = false := by rw [hF]; rfl
        have e3 : limbs F.natAbs = [] := by rw [hF, limbs_zero]
        rw [e2]
        refine ACalls.of 18 (fn := Tryz.f46) Tryz.func46 rfl rfl rfl (by kernel_rfl) (by kernel_rfl) (Nat.le_of_ble_eq_true rfl) ?_
        simp -implicitDefEqProofs only [go_sem, awp_seq, Nat.reduceBNe, Nat.reduceBEq, Nat.reduceAdd, Nat.reduceSub, Nat.reduceMul, Nat.reduceLeDiff, Nat.reduceLT, Nat.reduceEqDiff, Nat.reduceBneDiff, Int.reduceLE, Int.reduceLT, Int.reduceToNat, Int.reduceBEq, Int.reduceBNe, Int.reduceAdd, Int.reduceSub]
        refine callA_tt s1 ?_
        simp -implicitDefEqProofs only [f1, go_sem, awp_seq, Nat.reduceBNe, Nat.reduceBEq, Nat.reduceAdd, Nat.reduceSub, Nat.reduceMul, Nat.reduceLeDiff, Nat.reduceLT, Nat.reduceEqDiff, Nat.reduceBneDiff, Int.reduceLE, Int.reduceLT, Int.reduceToNat, Int.reduceBEq, Int.reduceBNe, Int.reduceAdd, Int.reduceSub]
        refine callA_tt s2 ?_
        simp -implicitDefEqProofs only [sgn_lt, Int.reduceBEq, go_sem, awp_seq, Nat.reduceBNe, Nat.reduceBEq, Nat.reduceAdd, Nat.reduceSub, Nat.reduceMul, Nat.reduceLeDiff, Nat.reduceLT, Nat.reduceEqDiff, Nat.reduceBneDiff, Int.reduceLE, Int.reduceLT, Int.reduceToNat, Int.reduceBEq, Int.reduceBNe, Int.reduceAdd, Int.reduceSub]
        refine callA_tt s3 ?_
        simp -implicitDefEqProofs only [fc, e3, Int.reduceBEq, Int.reduceLT, Int.cast_ofNat_Int, go_sem, awp_seq, Nat.reduceBNe, Nat.reduceBEq, Nat.reduceAdd, Nat.reduceSub, Nat.reduceMul, Nat.reduceLeDiff, Nat.reduceLT, Nat.reduceEqDiff, Nat.reduceBneDiff, Int.reduceLE, Int.reduceLT, Int.reduceToNat, Int.reduceBEq, Int.reduceBNe, Int.reduceAdd, Int.reduceSub]
      · have e3 : limbs F.natAbs = (F.natAbs % 4294967296) :: limbs (F.natAbs / 4294967296) := limbs_pos hF
        have e4 : decide ((0 : Int) < (((limbs (F.natAbs / 4294967296)).length + 1 : Nat) : Int)) = true := by simp only [decide_eq_true_eq]; omega
        have e5 : (((F.natAbs % 4294967296 : Nat) : Int).tmod 2 == 1) = decide (F.natAbs % 2 = 1) := by
          rw [show ((F.natAbs % 4294967296 : Nat) : Int).tmod 2 = ((F.natAbs % 4294967296 % 2 : Nat) : Int) from rfl]
          have : F.natAbs % 4294967296 % 2 = F.natAbs % 2 := by omega
          rw [this]
          by_cases h : F.natAbs % 2 = 1
          · rw [h]; rfl
          · simp [h]; omega
        refine ACalls.of 18 (fn := Tryz.f46) Tryz.func46 rfl rfl rfl (by kernel_rfl) (by kernel_rfl) (Nat.le_of_ble_eq_true rfl) ?_
        simp -implicitDefEqProofs only [go_sem, awp_seq, Nat.reduceBNe, Nat.reduceBEq, Nat.reduceAdd, Nat.reduceSub, Nat.reduceMul, Nat.reduceLeDiff, Nat.reduceLT, Nat.reduceEqDiff, Nat.reduceBneDiff, Int.reduceLE, Int.reduceLT, Int.reduceToNat, Int.reduceBEq, Int.reduceBNe, Int.reduceAdd, Int.reduceSub]
        refine callA_tt s1 ?_
        simp -implicitDefEqProofs only [f1, go_sem, awp_seq, Nat.reduceBNe, Nat.reduceBEq, Nat.reduceAdd, Nat.reduceSub, Nat.reduceMul, Nat.reduceLeDiff, Nat.reduceLT, Nat.reduceEqDiff, Nat.reduceBneDiff, Int.reduceLE, Int.reduceLT, Int.reduceToNat, Int.reduceBEq, Int.reduceBNe, Int.reduceAdd, Int.reduceSub]
        refine callA_tt s2 ?_
        simp -implicitDefEqProofs only [sgn_lt, Int.reduceBEq, go_sem, awp_seq, Nat.reduceBNe, Nat.reduceBEq, Nat.reduceAdd, Nat.reduceSub, Nat.reduceMul, Nat.reduceLeDiff, Nat.reduceLT, Nat.reduceEqDiff, Nat.reduceBneDiff, Int.reduceLE, Int.reduceLT, Int.reduceToNat, Int.reduceBEq, Int.reduceBNe, Int.reduceAdd, Int.reduceSub]
        refine callA_tt s3 ?_
        simp -implicitDefEqProofs only [fc, e3, e4, e5, Int.reduceEq, Int.toNat_zero, Int.le_refl, go_sem, awp_seq, Nat.reduceBNe, Nat.reduceBEq, Nat.reduceAdd, Nat.reduceSub, Nat.reduceMul, Nat.reduceLeDiff, Nat.reduceLT, Nat.reduceEqDiff, Nat.reduceBneDiff, Int.reduceLE, Int.reduceLT, Int.reduceToNat, Int.reduceBEq, Int.reduceBNe, Int.reduceAdd, Int.reduceSub]
    · have e : ∀ a n, hiB a (cmpZ (R * 2) G) n 2 = !n := fun a n => by simp [hiB, hc]
      simp only [e]
      refine ACalls.of 18 (fn := Tryz.f46) Tryz.func46 rfl rfl rfl (by kernel_rfl) (by kernel_rfl) (Nat.le_of_ble_eq_true rfl) ?_
      simp -implicitDefEqProofs only [go_sem, awp_seq, Nat.reduceBNe, Nat.reduceBEq, Nat.reduceAdd, Nat.reduceSub, Nat.reduceMul, Nat.reduceLeDiff, Nat.reduceLT, Nat.reduceEqDiff, Nat.reduceBneDiff, Int.reduceLE, Int.reduceLT, Int.reduceToNat, Int.reduceBEq, Int.reduceBNe, Int.reduceAdd, Int.reduceSub]
      refine callA_tt s1 ?_
      simp -implicitDefEqProofs only [f1, go_sem, awp_seq, Nat.reduceBNe, Nat.reduceBEq, Nat.reduceAdd, Nat.reduceSub, Nat.reduceMul, Nat.reduceLeDiff, Nat.reduceLT, Nat.reduceEqDiff, Nat.reduceBneDiff, Int.reduceLE, Int.reduceLT, Int.reduceToNat, Int.reduceBEq, Int.reduceBNe, Int.reduceAdd, Int.reduceSub]
      refine callA_tt s2 ?_
      simp -implicitDefEqProofs only [sgn_lt, Int.reduceBEq, go_sem, awp_seq, Nat.reduceBNe, Nat.reduceBEq, Nat.reduceAdd, Nat.reduceSub, Nat.reduceMul, Nat.reduceLeDiff, Nat.reduceLT, Nat.reduceEqDiff, Nat.reduceBneDiff, Int.reduceLE, Int.reduceLT, Int.reduceToNat, Int.reduceBEq, Int.reduceBNe, Int.reduceAdd, Int.reduceSub]
      refine callA_tt s3 ?_
      simp -implicitDefEqProofs only [fc, Int.reduceBEq, go_sem, awp_seq, Nat.reduceBNe, Nat.reduceBEq, Nat.reduceAdd, Nat.reduceSub, Nat.reduceMul, Nat.reduceLeDiff, Nat.reduceLT, Nat.reduceEqDiff, Nat.reduceBneDiff, Int.reduceLE, Int.reduceLT, Int.reduceToNat, Int.reduceBEq, Int.reduceBNe, Int.reduceAdd, Int.reduceSub]
    · have e : ∀ a n, hiB a (cmpZ (R * 2) G) n 3 = n := fun a n => by simp [hiB, hc]
      simp only [e]
      refine ACalls.of 18 (fn := Tryz.f46) Tryz.func46 rfl rfl rfl (by kernel_rfl) (by kernel_rfl) (Nat.le_of_ble_eq_true rfl) ?_
      simp -implicitDefEqProofs only [go_sem, awp_seq, Nat.reduceBNe, Nat.reduceBEq, Nat.reduceAdd, Nat.reduceSub, Nat.reduceMul, Nat.reduceLeDiff, Nat.reduceLT, Nat.reduceEqDiff, Nat.reduceBneDiff, Int.reduceLE, Int.reduceLT, Int.reduceToNat, Int.reduceBEq, Int.reduceBNe, Int.reduceAdd, Int.reduceSub]
      refine callA_tt s1 ?_
      simp -implicitDefEqProofs only [f1, go_sem, awp_seq, Nat.reduceBNe, Nat.reduceBEq, Nat.reduceAdd, Nat.reduceSub, Nat.reduceMul, Nat.reduceLeDiff, Nat.reduceLT, Nat.reduceEqDiff, Nat.reduceBneDiff, Int.reduceLE, Int.reduceLT, Int.reduceToNat, Int.reduceBEq, Int.reduceBNe, Int.reduceAdd, Int.reduceSub]
      refine callA_tt s2 ?_
      simp -implicitDefEqProofs only [sgn_lt, Int.reduceBEq, go_sem, awp_seq, Nat.reduceBNe, Nat.reduceBEq, Nat.reduceAdd, Nat.reduceSub, Nat.reduceMul, Nat.reduceLeDiff, Nat.reduceLT, Nat.reduceEqDiff, Nat.reduceBneDiff, Int.reduceLE, Int.reduceLT, Int.reduceToNat, Int.reduceBEq, Int.reduceBNe, Int.reduceAdd, Int.reduceSub]
      refine callA_tt s3 ?_
      simp -implicitDefEqProofs only [fc, Int.reduceBEq, go_sem, awp_seq, Nat.reduceBNe, Nat.reduceBEq, Nat.reduceAdd, Nat.reduceSub, Nat.reduceMul, Nat.reduceLeDiff, Nat.reduceLT, Nat.reduceEqDiff, Nat.reduceBneDiff, Int.reduceLE, Int.reduceLT, Int.reduceToNat, Int.reduceBEq, Int.reduceBNe, Int.reduceAdd, Int.reduceSub]
  · have fc : (cmpZ (R * 2) G != 0) = true := by simp [hc]
    have e : hiB F (cmpZ (R * 2) G) (decide (X < 0)) mode = decide (0 < cmpZ (R * 2) G) := by
      unfold hiB
      rw [if_pos (by omega), if_neg hc]
    have m4 : (mode == 4) = false := by simp; omega
    have m5 : (mode == 5) = false := by simp; omega
    have m6 : (mode == 6) = false := by simp; omega
    have m7 : (mode == 7) = false := by simp; omega
    rw [e]
    refine ACalls.of 18 (fn := Tryz.f46) Tryz.func46 rfl rfl rfl (by kernel_rfl) (by kernel_rfl) (Nat.le_of_ble_eq_true rfl) ?_
    simp -implicitDefEqProofs only [go_sem, awp_seq, Nat.reduceBNe, Nat.reduceBEq, Nat.reduceAdd, Nat.reduceSub, Nat.reduceMul, Nat.reduceLeDiff, Nat.reduceLT, Nat.reduceEqDiff, Nat.reduceBneDiff, Int.reduceLE, Int.reduceLT, Int.reduceToNat, Int.reduceBEq, Int.reduceBNe, Int.reduceAdd, Int.reduceSub]
    refine callA_tt s1 ?_
    simp -implicitDefEqProofs only [f1, go_sem, awp_seq, Nat.reduceBNe, Nat.reduceBEq, Nat.reduceAdd, Nat.reduceSub, Nat.reduceMul, Nat.reduceLeDiff, Nat.reduceLT, Nat.reduceEqDiff, Nat.reduceBneDiff, Int.reduceLE, Int.reduceLT, Int.reduceToNat, Int.reduceBEq, Int.reduceBNe, Int.reduceAdd, Int.reduceSub]
    refine callA_tt s2 ?_
    simp -implicitDefEqProofs only [sgn_lt, m4, m5, m6, m7, go_sem, awp_seq, Nat.reduceBNe, Nat.reduceBEq, Nat.reduceAdd, Nat.reduceSub, Nat.reduceMul, Nat.reduceLeDiff, Nat.reduceLT, Nat.reduceEqDiff, Nat.reduceBneDiff, Int.reduceLE, Int.reduceLT, Int.reduceToNat, Int.reduceBEq, Int.reduceBNe, Int.reduceAdd, Int.reduceSub]
    refine callA_tt s3 ?_
    simp -implicitDefEqProofs only [fc, go_sem, awp_seq, Nat.reduceBNe, Nat.reduceBEq, Nat.reduceAdd, Nat.reduceSub, Nat.reduceMul, Nat.reduceLeDiff, Nat.reduceLT, Nat.reduceEqDiff, Nat.reduceBneDiff, Int.reduceLE, Int.reduceLT, Int.reduceToNat, Int.reduceBEq, Int.reduceBNe, Int.reduceAdd, Int.reduceSub]
theorem up_c (mode : Int) (hm : 1 ≤ mode) (hm7 : mode ≤ 7) : AT 46 [ratN X E, intN F, ratN R G, i64 mode] (boo (if R = 0 then false else hiB F (cmpZ (R * 2) G) (decide (X < 0)) mode)) := by
  by_cases h0 : R = 0
  · rw [if_pos h0]
    exact up_zero hG n4 n5 mode h0
  · rw [if_neg h0]
    by_cases h : mode ≤ 3
    · exact up_near hE hG n1 n2 n4 n5 mode hm h h0
    · exact up_dir hE hG n1 n2 n4 n5 mode (by omega) hm7 h0
end
end Go.Proofs.YtnifjdhjimjihaaGreatDoor
