/- The law DecimalMonotone: its arithmetic and its walk. -/
import Derived.Test.YtnifjdhjimjihaaGreatDoorWLawM
set_option linter.unusedSimpArgs false
set_option linter.unusedVariables false
namespace Go.Proofs.YtnifjdhjimjihaaGreatDoor
open Go.RowKit Lim

theorem hiB_mono {q h1 h2 : Int} {neg : Bool} {mode : Int} (a2 : h1 ≤ h2) (h : hiB q h1 neg mode = true) : hiB q h2 neg mode = true := by
  unfold hiB at *
  by_cases hm : mode = 1 ∨ mode = 2 ∨ mode = 3
  · rw [if_pos hm] at *
    by_cases e1 : h1 = 0
    · by_cases e2 : h2 = 0
      · rw [if_pos e2]; rwa [if_pos e1] at h
      · rw [if_neg e2]; simp; omega
    · rw [if_neg e1] at h
      simp at h
      rw [if_neg (by omega)]; simp; omega
  · rw [if_neg hm] at *
    exact h
theorem cmpZ_mono {a b c d : Int} (hb : 0 < b) (hd : 0 < d) (h : a * d ≤ c * b) : cmpZ a b ≤ cmpZ c d := by
  unfold cmpZ
  by_cases h1 : a < b
  · rw [if_pos h1]; split <;> (try split) <;> omega
  · rw [if_neg h1]
    by_cases h2 : b < a
    · rw [if_pos h2]
      have : d < c := by
        apply Int.lt_of_not_ge
        intro hc
        have e1 : c * b ≤ d * b := Int.mul_le_mul_of_nonneg_right hc (by omega)
        have e2 : b * d < a * d := Int.mul_lt_mul_of_pos_right h2 hd
        rw [Int.mul_comm d b] at e1
        omega
      rw [if_neg (by omega), if_pos this]
      omega
    · rw [if_neg h2]
      have e : a = b := by omega
      subst e
      have : d ≤ c := by
        apply Int.le_of_not_gt
        intro hc
        have e1 : c * a < d * a := Int.mul_lt_mul_of_pos_right hc hb
        rw [Int.mul_comm d a] at e1
        omega
      rw [if_neg (by omega)]
      split <;> omega
theorem rnd_bd (N : Int) (D p : Nat) (mode : Int) : N * ((10 ^ p : Nat) : Int) / (D : Int) ≤ rndU N D p mode ∧ rndU N D p mode ≤ N * ((10 ^ p : Nat) : Int) / (D : Int) + 1 := by
  unfold rndU; split <;> (try split) <;> omega
/-- Of two numbers the lower one is not rounded higher. -/
theorem rndU_mono {N M : Int} {D E : Nat} (hD : 0 < D) (hE : 0 < E) (p : Nat) (mode : Int) (h : N * (E : Int) ≤ M * (D : Int)) : rndU N D p mode ≤ rndU M E p mode := by
  have hp : (0 : Int) < ((10 ^ p : Nat) : Int) := by have : 0 < 10 ^ p := Nat.pos_of_ne_zero (by simp); omega
  have b1 := rnd_bd N D p mode
  have b2 := rnd_bd M E p mode
  have hN : N < 0 ↔ N * ((10 ^ p : Nat) : Int) / (D : Int) < 0 := by
    rw [Int.ediv_lt_iff_lt_mul (by omega), Int.zero_mul]
    constructor
    · intro k; exact Int.mul_neg_of_neg_of_pos k hp
    · intro k
      apply Int.lt_of_not_ge
      intro k2
      have := Int.mul_nonneg k2 (Int.le_of_lt hp)
      omega
  have hM : M < 0 ↔ M * ((10 ^ p : Nat) : Int) / (E : Int) < 0 := by
    rw [Int.ediv_lt_iff_lt_mul (by omega), Int.zero_mul]
    constructor
    · intro k; exact Int.mul_neg_of_neg_of_pos k hp
    · intro k
      apply Int.lt_of_not_ge
      intro k2
      have := Int.mul_nonneg k2 (Int.le_of_lt hp)
      omega
  have hXY : N * ((10 ^ p : Nat) : Int) * (E : Int) ≤ M * ((10 ^ p : Nat) : Int) * (D : Int) := by
    have := Int.mul_le_mul_of_nonneg_right h (Int.le_of_lt hp)
    rw [Int.mul_right_comm N, Int.mul_right_comm M]
    exact this
  unfold rndU at b1 b2 ⊢
  generalize N * ((10 ^ p : Nat) : Int) = X at *
  generalize M * ((10 ^ p : Nat) : Int) = Y at *
  have e1 := Int.mul_ediv_add_emod X (D : Int)
  have e2 := Int.mul_ediv_add_emod Y (E : Int)
  have r1 := Int.emod_nonneg X (show (D : Int) ≠ 0 by omega)
  have r2 := Int.emod_nonneg Y (show (E : Int) ≠ 0 by omega)
  have s1 := Int.emod_lt_of_pos X (show (0 : Int) < D by omega)
  have s2 := Int.emod_lt_of_pos Y (show (0 : Int) < E by omega)
  generalize X / (D : Int) = q1 at *
  generalize Y / (E : Int) = q2 at *
  generalize X % (D : Int) = u at *
  generalize Y % (E : Int) = v at *
  by_cases hq : q1 < q2
  · omega
  · have hge : q2 ≤ q1 := by omega
    -- X E ≤ Y D: (q1 D + u) E ≤ (q2 E + v) D
    have k1 : (q1 - q2) * ((D : Int) * (E : Int)) + u * (E : Int) ≤ v * (D : Int) := by
      rw [← e1, ← e2] at hXY
      grind
    have k2 : v * (D : Int) < (D : Int) * (E : Int) := by
      rw [Int.mul_comm v]
      exact Int.mul_lt_mul_of_pos_left s2 (by omega)
    have k3 : 0 ≤ u * (E : Int) := Int.mul_nonneg r1 (by omega)
    have hq0 : q1 = q2 := by
      apply Int.le_antisymm _ hge
      apply Int.le_of_not_gt
      intro hc
      have k4 : 1 * ((D : Int) * (E : Int)) ≤ (q1 - q2) * ((D : Int) * (E : Int)) := Int.mul_le_mul_of_nonneg_right (by omega) (Int.mul_nonneg (by omega) (by omega))
      omega
    subst hq0
    have huv : u * (E : Int) ≤ v * (D : Int) := by
      have : (q1 - q1) * ((D : Int) * (E : Int)) = 0 := by rw [Int.sub_self, Int.zero_mul]
      omega
    by_cases hu : u = 0
    · rw [if_pos hu]; omega
    · rw [if_neg hu]
      have hv : v ≠ 0 := by
        intro hv
        rw [hv, Int.zero_mul] at huv
        have : 0 < u * (E : Int) := Int.mul_pos (by omega) (by omega)
        omega
      rw [if_neg hv] at b2 ⊢
      have hneg : decide (N < 0) = decide (M < 0) := by rw [decide_eq_decide, hN, hM]
      rw [← hneg] at b2 ⊢
      by_cases hh : hiB q1 (cmpZ (u + u) (D : Int)) (decide (N < 0)) mode = true
      · have hc : cmpZ (u + u) (D : Int) ≤ cmpZ (v + v) (E : Int) := cmpZ_mono (by omega) (by omega) (by rw [Int.add_mul, Int.add_mul]; omega)
        rw [if_pos hh, if_pos (hiB_mono hc hh)]
        omega
      · rw [if_neg hh]
        split <;> omega
theorem rn_gcd (z : Int) (d : Nat) : z = rn z d * (Nat.gcd z.natAbs d : Int) := by
  have h : z.natAbs = z.natAbs / Nat.gcd z.natAbs d * Nat.gcd z.natAbs d := (Nat.div_mul_cancel (Nat.gcd_dvd_left _ _)).symm
  unfold rn sg
  by_cases hz : z < 0
  · rw [decide_eq_true hz]
    simp only [if_true]
    rw [Int.neg_mul, ← Int.natCast_mul, ← h]
    omega
  · rw [decide_eq_false hz]
    simp only [Bool.false_eq_true, if_false]
    rw [← Int.natCast_mul, ← h]
    omega
theorem rd_gcd (z : Int) (d : Nat) : (d : Int) = (rd z d : Int) * (Nat.gcd z.natAbs d : Int) := by
  have h : d = d / Nat.gcd z.natAbs d * Nat.gcd z.natAbs d := (Nat.div_mul_cancel (Nat.gcd_dvd_right _ _)).symm
  unfold rd
  rw [← Int.natCast_mul, ← h]
theorem rn_le {z y : Int} {d f : Nat} (hd : 0 < d) (hf : 0 < f) (h : z * (f : Int) ≤ y * (d : Int)) : rn z d * (rd y f : Int) ≤ rn y f * (rd z d : Int) := by
  have g1 : (0 : Int) < (Nat.gcd z.natAbs d : Int) := by have := Nat.gcd_pos_of_pos_right z.natAbs hd; omega
  have g2 : (0 : Int) < (Nat.gcd y.natAbs f : Int) := by have := Nat.gcd_pos_of_pos_right y.natAbs hf; omega
  have e1 := rn_gcd z d
  have e2 := rd_gcd z d
  have e3 := rn_gcd y f
  have e4 := rd_gcd y f
  generalize (Nat.gcd z.natAbs d : Int) = g at *
  generalize (Nat.gcd y.natAbs f : Int) = k at *
  apply Int.le_of_not_gt
  intro hc
  have h1 : rn y f * (rd z d : Int) * (g * k) < rn z d * (rd y f : Int) * (g * k) := Int.mul_lt_mul_of_pos_right hc (Int.mul_pos g1 g2)
  have h2 : z * (f : Int) = rn z d * (rd y f : Int) * (g * k) := by
    rw [e4]
    conv => lhs; rw [e1]
    grind
  have h3 : y * (d : Int) = rn y f * (rd z d : Int) * (g * k) := by
    rw [e2]
    conv => lhs; rw [e3]
    grind
  omega
theorem ord_of {A B u v : Int} (h1 : A ≤ B → u ≤ v) (h2 : B ≤ A → v ≤ u) : (cmpZ A B = -1 ∧ cmpZ u v = -1) ∨ (cmpZ A B = -1 ∧ cmpZ u v = 0) ∨ (cmpZ A B = 0 ∧ cmpZ u v = 0) ∨ (cmpZ A B = 1 ∧ cmpZ u v = 0) ∨ (cmpZ A B = 1 ∧ cmpZ u v = 1) := by
  unfold cmpZ
  rcases Int.lt_trichotomy A B with h | h | h
  · have := h1 (by omega)
    rw [if_pos h]
    rcases Int.lt_or_eq_of_le this with k | k
    · rw [if_pos k]; simp
    · subst k; simp
  · have := h1 (by omega)
    have := h2 (by omega)
    have : u = v := by omega
    subst this h
    simp
  · have := h2 (by omega)
    rw [if_neg (by omega), if_pos h]
    rcases Int.lt_or_eq_of_le this with k | k
    · rw [if_neg (by omega), if_pos k]; simp
    · subst k; simp
set_option maxHeartbeats 4000000 in
theorem monotone_c (t : Bool) (l m : List Nat) (t2 : Bool) (l2 m2 : List Nat) (pl mode : Int) (hl : l.length ≤ 1048576) (hm : m.length ≤ 1048576) (dl : Dig l) (dm : Dig m) (hl2 : l2.length ≤ 1048576) (hm2 : m2.length ≤ 1048576) (dl2 : Dig l2) (dm2 : Dig m2) :
    AC 6 [ratA t l m, ratA t2 l2 m2, i64 pl, i64 mode] (boo true) := by
  cases hv : validB pl mode with
  | false =>
    refine ACalls.of 14 (fn := Tryz.f6) Tryz.func6 rfl rfl rfl (by kernel_rfl) (by kernel_rfl) (Nat.le_of_ble_eq_true rfl) ?_
    simp -implicitDefEqProofs only [go_sem, awp_seq, Nat.reduceBNe, Nat.reduceBEq, Nat.reduceAdd, Nat.reduceSub, Nat.reduceMul, Nat.reduceLeDiff, Nat.reduceLT, Nat.reduceEqDiff, Nat.reduceBneDiff]
    refine callA_mk (valid_c pl mode) ?_
    simp -implicitDefEqProofs only [hv, go_sem, awp_seq, Nat.reduceBNe, Nat.reduceBEq, Nat.reduceAdd, Nat.reduceSub, Nat.reduceMul, Nat.reduceLeDiff, Nat.reduceLT, Nat.reduceEqDiff, Nat.reduceBneDiff]
    refine callA_mk awake_c ?_
    simp -implicitDefEqProofs only [go_sem, awp_seq, Nat.reduceBNe, Nat.reduceBEq, Nat.reduceAdd, Nat.reduceSub, Nat.reduceMul, Nat.reduceLeDiff, Nat.reduceLT, Nat.reduceEqDiff, Nat.reduceBneDiff]
  | true =>
    simp only [validB, Bool.and_eq_true, decide_eq_true_eq] at hv
    obtain ⟨v1, v2, v3, v4⟩ := hv
    obtain ⟨p, rfl⟩ : ∃ p : Nat, pl = (p : Int) := ⟨pl.toNat, by omega⟩
    have hvt : validB (p : Int) mode = true := by simp [validB, v1, v2, v3, v4]
    have nl := nlen_val dl
    have nm := nlen_val dm
    have nl2 := nlen_val dl2
    have nm2 := nlen_val dm2
    have ha : IsR (ratA t l m) (sg t (val l)) (val m) := ⟨t, l, m, rfl, rfl, rfl, by omega, by omega⟩
    have hb : IsR (ratA t2 l2 m2) (sg t2 (val l2)) (val m2) := ⟨t2, l2, m2, rfl, rfl, rfl, by omega, by omega⟩
    have nz : nlen (sg t (val l)).natAbs ≤ l.length := by rw [sg_abs]; exact nl
    have nz2 : nlen (sg t2 (val l2)).natAbs ≤ l2.length := by rw [sg_abs]; exact nl2
    generalize sg t (val l) = z at *
    generalize val m = d at *
    generalize sg t2 (val l2) = y at *
    generalize val m2 = f at *
    have R1 := dround_c ha p mode (by omega) v3 v4 (by omega) (by omega)
    have R2 := dround_c hb p mode (by omega) v3 v4 (by omega) (by omega)
    have CR := rcmp_c ha hb (by omega) (by omega)
    have hu := rndU_nlen (rn (pz z d) (pd d)) (rd (pz z d) (pd d)) p mode (by omega)
    have hu2 := nlen_rnp z d
    have hw := rndU_nlen (rn (pz y f) (pd f)) (rd (pz y f) (pd f)) p mode (by omega)
    have hw2 := nlen_rnp y f
    have O := ord_of (A := pz z d * (pd f : Int)) (B := pz y f * (pd d : Int))
      (fun h => rndU_mono (rd_pos _ (pd_pos d)) (rd_pos _ (pd_pos f)) p mode (rn_le (pd_pos d) (pd_pos f) h))
      (fun h => rndU_mono (rd_pos _ (pd_pos f)) (rd_pos _ (pd_pos d)) p mode (rn_le (pd_pos f) (pd_pos d) h))
    generalize rndU (rn (pz z d) (pd d)) (rd (pz z d) (pd d)) p mode = u at *
    generalize rndU (rn (pz y f) (pd f)) (rd (pz y f) (pd f)) p mode = v at *
    have CM := icmp_c (isI u (by omega)) (isI v (by omega))
    refine ACalls.of 14 (fn := Tryz.f6) Tryz.func6 rfl rfl rfl (by kernel_rfl) (by kernel_rfl) (Nat.le_of_ble_eq_true rfl) ?_
    simp -implicitDefEqProofs only [go_sem, awp_seq, Nat.reduceBNe, Nat.reduceBEq, Nat.reduceAdd, Nat.reduceSub, Nat.reduceMul, Nat.reduceLeDiff, Nat.reduceLT, Nat.reduceEqDiff, Nat.reduceBneDiff]
    refine callA_mk (valid_c p mode) ?_
    simp -implicitDefEqProofs only [hvt, go_sem, awp_seq, Nat.reduceBNe, Nat.reduceBEq, Nat.reduceAdd, Nat.reduceSub, Nat.reduceMul, Nat.reduceLeDiff, Nat.reduceLT, Nat.reduceEqDiff, Nat.reduceBneDiff]
    refine callA_mk R1 ?_
    simp -implicitDefEqProofs only [go_sem, awp_seq, Nat.reduceBNe, Nat.reduceBEq, Nat.reduceAdd, Nat.reduceSub, Nat.reduceMul, Nat.reduceLeDiff, Nat.reduceLT, Nat.reduceEqDiff, Nat.reduceBneDiff]
    refine callA_mk R2 ?_
    simp -implicitDefEqProofs only [BEq.rfl, bne_self_eq_false, go_sem, awp_seq, Nat.reduceBNe, Nat.reduceBEq, Nat.reduceAdd, Nat.reduceSub, Nat.reduceMul, Nat.reduceLeDiff, Nat.reduceLT, Nat.reduceEqDiff, Nat.reduceBneDiff]
    refine callA_mk CM ?_
    simp -implicitDefEqProofs only [go_sem, awp_seq, Nat.reduceBNe, Nat.reduceBEq, Nat.reduceAdd, Nat.reduceSub, Nat.reduceMul, Nat.reduceLeDiff, Nat.reduceLT, Nat.reduceEqDiff, Nat.reduceBneDiff]
    rcases O with ⟨o1, o2⟩ | ⟨o1, o2⟩ | ⟨o1, o2⟩ | ⟨o1, o2⟩ | ⟨o1, o2⟩ <;> rw [o1] at CR <;> rw [o2]
    · refine callA_mk CR ?_
      simp -implicitDefEqProofs only [Int.reduceLE, Int.reduceLT, Int.reduceNeg, decide_true, decide_false, go_sem, awp_seq, Nat.reduceBNe, Nat.reduceBEq, Nat.reduceAdd, Nat.reduceSub, Nat.reduceMul, Nat.reduceLeDiff, Nat.reduceLT, Nat.reduceEqDiff, Nat.reduceBneDiff]
      refine callA_mk CR ?_
      simp -implicitDefEqProofs only [Int.reduceLE, Int.reduceLT, Int.reduceNeg, decide_true, decide_false, go_sem, awp_seq, Nat.reduceBNe, Nat.reduceBEq, Nat.reduceAdd, Nat.reduceSub, Nat.reduceMul, Nat.reduceLeDiff, Nat.reduceLT, Nat.reduceEqDiff, Nat.reduceBneDiff]
      refine callA_mk awake_c ?_
      simp -implicitDefEqProofs only [go_sem, awp_seq, Nat.reduceBNe, Nat.reduceBEq, Nat.reduceAdd, Nat.reduceSub, Nat.reduceMul, Nat.reduceLeDiff, Nat.reduceLT, Nat.reduceEqDiff, Nat.reduceBneDiff]
    · refine callA_mk CR ?_
      simp -implicitDefEqProofs only [Int.reduceLE, Int.reduceLT, Int.reduceNeg, decide_true, decide_false, go_sem, awp_seq, Nat.reduceBNe, Nat.reduceBEq, Nat.reduceAdd, Nat.reduceSub, Nat.reduceMul, Nat.reduceLeDiff, Nat.reduceLT, Nat.reduceEqDiff, Nat.reduceBneDiff]
      refine callA_mk CR ?_
      simp -implicitDefEqProofs only [Int.reduceLE, Int.reduceLT, Int.reduceNeg, decide_true, decide_false, go_sem, awp_seq, Nat.reduceBNe, Nat.reduceBEq, Nat.reduceAdd, Nat.reduceSub, Nat.reduceMul, Nat.reduceLeDiff, Nat.reduceLT, Nat.reduceEqDiff, Nat.reduceBneDiff]
      refine callA_mk awake_c ?_
      simp -implicitDefEqProofs only [go_sem, awp_seq, Nat.reduceBNe, Nat.reduceBEq, Nat.reduceAdd, Nat.reduceSub, Nat.reduceMul, Nat.reduceLeDiff, Nat.reduceLT, Nat.reduceEqDiff, Nat.reduceBneDiff]
    · refine callA_mk CR ?_
      simp -implicitDefEqProofs only [Int.reduceLE, Int.reduceLT, Int.reduceNeg, decide_true, decide_false, go_sem, awp_seq, Nat.reduceBNe, Nat.reduceBEq, Nat.reduceAdd, Nat.reduceSub, Nat.reduceMul, Nat.reduceLeDiff, Nat.reduceLT, Nat.reduceEqDiff, Nat.reduceBneDiff]
      refine callA_mk CR ?_
      simp -implicitDefEqProofs only [Int.reduceLE, Int.reduceLT, Int.reduceNeg, decide_true, decide_false, go_sem, awp_seq, Nat.reduceBNe, Nat.reduceBEq, Nat.reduceAdd, Nat.reduceSub, Nat.reduceMul, Nat.reduceLeDiff, Nat.reduceLT, Nat.reduceEqDiff, Nat.reduceBneDiff]
      refine callA_mk awake_c ?_
      simp -implicitDefEqProofs only [go_sem, awp_seq, Nat.reduceBNe, Nat.reduceBEq, Nat.reduceAdd, Nat.reduceSub, Nat.reduceMul, Nat.reduceLeDiff, Nat.reduceLT, Nat.reduceEqDiff, Nat.reduceBneDiff]
    · refine callA_mk CR ?_
      simp -implicitDefEqProofs only [Int.reduceLE, Int.reduceLT, Int.reduceNeg, decide_true, decide_false, go_sem, awp_seq, Nat.reduceBNe, Nat.reduceBEq, Nat.reduceAdd, Nat.reduceSub, Nat.reduceMul, Nat.reduceLeDiff, Nat.reduceLT, Nat.reduceEqDiff, Nat.reduceBneDiff]
      refine callA_mk CR ?_
      simp -implicitDefEqProofs only [Int.reduceLE, Int.reduceLT, Int.reduceNeg, decide_true, decide_false, go_sem, awp_seq, Nat.reduceBNe, Nat.reduceBEq, Nat.reduceAdd, Nat.reduceSub, Nat.reduceMul, Nat.reduceLeDiff, Nat.reduceLT, Nat.reduceEqDiff, Nat.reduceBneDiff]
      refine callA_mk awake_c ?_
      simp -implicitDefEqProofs only [go_sem, awp_seq, Nat.reduceBNe, Nat.reduceBEq, Nat.reduceAdd, Nat.reduceSub, Nat.reduceMul, Nat.reduceLeDiff, Nat.reduceLT, Nat.reduceEqDiff, Nat.reduceBneDiff]
    · refine callA_mk CR ?_
      simp -implicitDefEqProofs only [Int.reduceLE, Int.reduceLT, Int.reduceNeg, decide_true, decide_false, go_sem, awp_seq, Nat.reduceBNe, Nat.reduceBEq, Nat.reduceAdd, Nat.reduceSub, Nat.reduceMul, Nat.reduceLeDiff, Nat.reduceLT, Nat.reduceEqDiff, Nat.reduceBneDiff]
      refine callA_mk CR ?_
      simp -implicitDefEqProofs only [Int.reduceLE, Int.reduceLT, Int.reduceNeg, decide_true, decide_false, go_sem, awp_seq, Nat.reduceBNe, Nat.reduceBEq, Nat.reduceAdd, Nat.reduceSub, Nat.reduceMul, Nat.reduceLeDiff, Nat.reduceLT, Nat.reduceEqDiff, Nat.reduceBneDiff]
      refine callA_mk awake_c ?_
      simp -implicitDefEqProofs only [go_sem, awp_seq, Nat.reduceBNe, Nat.reduceBEq, Nat.reduceAdd, Nat.reduceSub, Nat.reduceMul, Nat.reduceLeDiff, Nat.reduceLT, Nat.reduceEqDiff, Nat.reduceBneDiff]
end Go.Proofs.YtnifjdhjimjihaaGreatDoor
