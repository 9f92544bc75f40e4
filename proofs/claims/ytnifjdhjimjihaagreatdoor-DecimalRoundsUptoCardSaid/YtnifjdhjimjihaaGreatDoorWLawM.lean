/- The law DecimalMirror: its walk and its arithmetic. -/
import Derived.Test.YtnifjdhjimjihaaGreatDoorWLaw4
set_option linter.unusedSimpArgs false
set_option linter.unusedVariables false
namespace Go.Proofs.YtnifjdhjimjihaaGreatDoor
open Go.RowKit Lim

theorem rd_neg (z : Int) (d : Nat) : rd (-z) d = rd z d := by unfold rd; rw [Int.natAbs_neg]
theorem rn_neg (z : Int) (d : Nat) : rn (-z) d = -rn z d := by
  unfold rn sg
  rw [Int.natAbs_neg]
  by_cases h : z < 0
  · have : ¬ -z < 0 := by omega
    rw [decide_eq_false this, decide_eq_true h]
    simp
  · by_cases h0 : z = 0
    · subst h0; simp
    · have : -z < 0 := by omega
      rw [decide_eq_true this, decide_eq_false h]
      simp
theorem rn_rn (z : Int) {d : Nat} (hd : 0 < d) : rn (rn z d) (rd z d) = rn z d ∧ rd (rn z d) (rd z d) = rd z d := by
  have hg : Nat.gcd z.natAbs d ≠ 0 := Nat.pos_iff_ne_zero.1 (Nat.gcd_pos_of_pos_right _ hd)
  have h1 : Nat.gcd (rn z d).natAbs (rd z d) = 1 := by
    rw [rn_abs]
    unfold rd
    exact Nat.coprime_div_gcd_div_gcd (Nat.pos_of_ne_zero hg)
  constructor
  · have : rn (rn z d) (rd z d) = sg (decide (rn z d < 0)) ((rn z d).natAbs / Nat.gcd (rn z d).natAbs (rd z d)) := rfl
    rw [this, h1, Nat.div_one]
    exact sg_norm _
  · have : rd (rn z d) (rd z d) = rd z d / Nat.gcd (rn z d).natAbs (rd z d) := rfl
    rw [this, h1, Nat.div_one]
theorem pz_pos (z : Int) {d : Nat} (h : 0 < d) : pz z d = z := by unfold pz; rw [if_neg (by omega)]
theorem pd_id {d : Nat} (h : 0 < d) : pd d = d := by unfold pd; rw [if_neg (by omega)]
/-- A number in normal form, rounded: it is its own normal form. -/
theorem norm_norm (z : Int) {d : Nat} (hd : 0 < d) : rn (pz (rn z d) (rd z d)) (pd (rd z d)) = rn z d ∧ rd (pz (rn z d) (rd z d)) (pd (rd z d)) = rd z d := by
  have h := rd_pos z hd
  rw [pz_pos _ h, pd_id h]
  exact rn_rn z hd
def swapM (mode : Int) : Int := if mode = 6 then 7 else if mode = 7 then 6 else mode
theorem hiB_neg {q half : Int} {neg : Bool} {mode : Int} (h1 : 1 ≤ mode) (h7 : mode ≤ 7) (hh : -1 ≤ half ∧ half ≤ 1) : hiB (-q - 1) (-half) (!neg) (swapM mode) = !hiB q half neg mode := by
  have hm : mode = 1 ∨ mode = 2 ∨ mode = 3 ∨ mode = 4 ∨ mode = 5 ∨ mode = 6 ∨ mode = 7 := by omega
  have hf : half = -1 ∨ half = 0 ∨ half = 1 := by omega
  rcases hm with rfl | rfl | rfl | rfl | rfl | rfl | rfl <;> rcases hf with rfl | rfl | rfl <;> cases neg <;> first | (simp [hiB, swapM]; done) | (simp only [hiB, swapM]; rw [Bool.eq_iff_iff]; simp; omega)
theorem rndU_neg (N : Int) {D : Nat} (hD : 0 < D) (p : Nat) {mode : Int} (h1 : 1 ≤ mode) (h7 : mode ≤ 7) : rndU (-N) D p (swapM mode) = -rndU N D p mode := by
  unfold rndU
  rw [Int.neg_mul]
  generalize hX : N * ((10 ^ p : Nat) : Int) = X
  have hp : (0 : Int) < ((10 ^ p : Nat) : Int) := by have : 0 < 10 ^ p := Nat.pos_of_ne_zero (by simp); omega
  have hD' : (0 : Int) < (D : Int) := by omega
  have hneg : -X % (D : Int) = if X % (D : Int) = 0 then 0 else (D : Int) - X % (D : Int) := by
    rw [Int.neg_emod]
    split
    · rename_i h; rw [if_pos (Int.emod_eq_zero_of_dvd h)]
    · rename_i h; rw [if_neg (fun hc => h (Int.dvd_of_emod_eq_zero hc))]; omega
  have hdiv : -X / (D : Int) = if X % (D : Int) = 0 then -(X / (D : Int)) else -(X / (D : Int)) - 1 := by
    have e1 := Int.mul_ediv_add_emod X (D : Int)
    have e2 := Int.mul_ediv_add_emod (-X) (D : Int)
    rw [hneg] at e2
    split
    · rename_i h
      rw [if_pos h] at e2
      rw [h] at e1
      have : (D : Int) * (-X / D) = (D : Int) * (-(X / D)) := by rw [Int.mul_neg]; omega
      exact Int.eq_of_mul_eq_mul_left (by omega) this
    · rename_i h
      rw [if_neg h] at e2
      have : (D : Int) * (-X / D) = (D : Int) * (-(X / D) - 1) := by rw [Int.mul_sub, Int.mul_neg, Int.mul_one]; omega
      exact Int.eq_of_mul_eq_mul_left (by omega) this
  by_cases hr : X % (D : Int) = 0
  · rw [hneg, hdiv, if_pos hr, if_pos hr, if_pos rfl, if_pos hr]
  · have r0 : 0 ≤ X % (D : Int) := Int.emod_nonneg _ (by omega)
    have r1 : X % (D : Int) < D := Int.emod_lt_of_pos _ hD'
    rw [hneg, hdiv, if_neg hr, if_neg hr, if_neg (by omega), if_neg hr]
    have hN : N ≠ 0 := by rintro rfl; rw [Int.zero_mul] at hX; rw [← hX] at hr; simp at hr
    have hs : decide (-N < 0) = !decide (N < 0) := by
      by_cases h : N < 0
      · have : ¬ -N < 0 := by omega
        rw [decide_eq_false this, decide_eq_true h]
        rfl
      · have : -N < 0 := by omega
        rw [decide_eq_true this, decide_eq_false h]
        rfl
    have hc : cmpZ ((D : Int) - X % D + ((D : Int) - X % D)) D = -cmpZ (X % D + X % D) D := by
      unfold cmpZ
      split <;> split <;> (try split) <;> (try split) <;> omega
    rw [hs, hc, hiB_neg h1 h7 (cmpZ_bd _ _)]
    cases hiB (X / D) (cmpZ (X % D + X % D) D) (decide (N < 0)) mode <;> simp <;> omega
def validB (p mode : Int) : Bool := decide (0 ≤ p) && (decide (p ≤ 9) && (decide (1 ≤ mode) && decide (mode ≤ 7)))
set_option maxHeartbeats 1000000 in
theorem valid_c (p mode : Int) : AC 19 [i64 p, i64 mode] (boo (validB p mode)) := by
  unfold validB
  refine ACalls.of 4 (fn := Tryz.f19) Tryz.func19 rfl rfl rfl (by kernel_rfl) (by kernel_rfl) (Nat.le_of_ble_eq_true rfl) ?_
  cases h1 : decide (0 ≤ p) with
  | false => simp -implicitDefEqProofs only [h1, go_sem, awp_seq, Nat.reduceBNe, Nat.reduceBEq, Nat.reduceAdd, Nat.reduceSub, Nat.reduceMul, Nat.reduceLeDiff, Nat.reduceLT, Nat.reduceEqDiff, Nat.reduceBneDiff]
  | true =>
    cases h2 : decide (p ≤ 9) with
    | false => simp -implicitDefEqProofs only [h1, h2, go_sem, awp_seq, Nat.reduceBNe, Nat.reduceBEq, Nat.reduceAdd, Nat.reduceSub, Nat.reduceMul, Nat.reduceLeDiff, Nat.reduceLT, Nat.reduceEqDiff, Nat.reduceBneDiff]
    | true =>
      cases h3 : decide (1 ≤ mode) with
      | false => simp -implicitDefEqProofs only [h1, h2, h3, go_sem, awp_seq, Nat.reduceBNe, Nat.reduceBEq, Nat.reduceAdd, Nat.reduceSub, Nat.reduceMul, Nat.reduceLeDiff, Nat.reduceLT, Nat.reduceEqDiff, Nat.reduceBneDiff]
      | true => simp -implicitDefEqProofs only [h1, h2, h3, go_sem, awp_seq, Nat.reduceBNe, Nat.reduceBEq, Nat.reduceAdd, Nat.reduceSub, Nat.reduceMul, Nat.reduceLeDiff, Nat.reduceLT, Nat.reduceEqDiff, Nat.reduceBneDiff]
set_option maxHeartbeats 4000000 in
theorem mirror_c (t : Bool) (l m : List Nat) (pl mode : Int) (hl : l.length ≤ 1048576) (hm : m.length ≤ 1048576) (dl : Dig l) (dm : Dig m) : AC 5 [ratA t l m, i64 pl, i64 mode] (boo true) := by
  cases hv : validB pl mode with
  | false =>
    refine ACalls.of 12 (fn := Tryz.f5) Tryz.func5 rfl rfl rfl (by kernel_rfl) (by kernel_rfl) (Nat.le_of_ble_eq_true rfl) ?_
    simp -implicitDefEqProofs only [go_sem, awp_seq, Nat.reduceBNe, Nat.reduceBEq, Nat.reduceAdd, Nat.reduceSub, Nat.reduceMul, Nat.reduceLeDiff, Nat.reduceLT, Nat.reduceEqDiff, Nat.reduceBneDiff]
    refine callA_mk (valid_c pl mode) ?_
    simp -implicitDefEqProofs only [hv, go_sem, awp_seq, Nat.reduceBNe, Nat.reduceBEq, Nat.reduceAdd, Nat.reduceSub, Nat.reduceMul, Nat.reduceLeDiff, Nat.reduceLT, Nat.reduceEqDiff, Nat.reduceBneDiff]
    refine callA_mk awake_c ?_
    simp -implicitDefEqProofs only [go_sem, awp_seq, Nat.reduceBNe, Nat.reduceBEq, Nat.reduceAdd, Nat.reduceSub, Nat.reduceMul, Nat.reduceLeDiff, Nat.reduceLT, Nat.reduceEqDiff, Nat.reduceBneDiff]
  | true =>
    simp only [validB, Bool.and_eq_true, decide_eq_true_eq] at hv
    obtain ⟨v1, v2, v3, v4⟩ := hv
    obtain ⟨p, rfl⟩ : ∃ p : Nat, pl = (p : Int) := ⟨pl.toNat, by omega⟩
    have hvt : validB (p : Int) mode = true := by simp [validB, v1, v2, v3, v4]
    have nl := nlen_val dl
    have nm := nlen_val dm
    have ha : IsR (ratA t l m) (sg t (val l)) (val m) := ⟨t, l, m, rfl, rfl, rfl, by omega, by omega⟩
    have nz : nlen (sg t (val l)).natAbs ≤ l.length := by rw [sg_abs]; exact nl
    generalize sg t (val l) = z at *
    generalize val m = d at *
    have R1 := dround_c ha p mode (by omega) v3 v4 (by omega) (by omega)
    have NG := rneg_c ha
    have b1 := nlen_pz' z d
    have b2 := nlen_pd' d
    have b3 : nlen (rn (-pz z d) (pd d)).natAbs ≤ nlen z.natAbs := by
      have := nlen_mono (show (rn (-pz z d) (pd d)).natAbs ≤ (pz z d).natAbs by rw [rn_abs, Int.natAbs_neg]; exact Nat.div_le_self _ _)
      omega
    have b4 : nlen (rd (-pz z d) (pd d)) ≤ nlen d + 1 := by
      have := nlen_mono (show rd (-pz z d) (pd d) ≤ pd d from Nat.div_le_self _ _)
      omega
    have R2 := dround_c (isR (rn (-pz z d) (pd d)) (rd (-pz z d) (pd d)) (by omega) (by omega)) p (swapM mode) (by omega) (by unfold swapM; split <;> (try split) <;> omega) (by unfold swapM; split <;> (try split) <;> omega) (by omega) (by omega)
    obtain ⟨q1, q2⟩ := norm_norm (-pz z d) (pd_pos d)
    rw [q1, q2, rn_neg, rd_neg, rndU_neg _ (rd_pos _ (pd_pos d)) p v3 v4] at R2
    rw [rn_neg, rd_neg] at NG
    have hu := rndU_nlen (rn (pz z d) (pd d)) (rd (pz z d) (pd d)) p mode (by omega)
    have hu2 := nlen_rnp z d
    generalize rndU (rn (pz z d) (pd d)) (rd (pz z d) (pd d)) p mode = u at *
    have CM := icmp_c (isI (-u) (by rw [Int.natAbs_neg]; omega)) (isI (-u) (by rw [Int.natAbs_neg]; omega))
    have c0 : cmpZ (-u) (-u) = 0 := by unfold cmpZ; simp
    rw [c0] at CM
    have NU := ineg_c (isI u (by omega))
    have hsw : mode ≠ 6 → mode ≠ 7 → swapM mode = mode := fun h6 h7 => by unfold swapM; rw [if_neg h6, if_neg h7]
    refine ACalls.of 12 (fn := Tryz.f5) Tryz.func5 rfl rfl rfl (by kernel_rfl) (by kernel_rfl) (Nat.le_of_ble_eq_true rfl) ?_
    simp -implicitDefEqProofs only [go_sem, awp_seq, Nat.reduceBNe, Nat.reduceBEq, Nat.reduceAdd, Nat.reduceSub, Nat.reduceMul, Nat.reduceLeDiff, Nat.reduceLT, Nat.reduceEqDiff, Nat.reduceBneDiff]
    refine callA_mk (valid_c p mode) ?_
    simp -implicitDefEqProofs only [hvt, go_sem, awp_seq, Nat.reduceBNe, Nat.reduceBEq, Nat.reduceAdd, Nat.reduceSub, Nat.reduceMul, Nat.reduceLeDiff, Nat.reduceLT, Nat.reduceEqDiff, Nat.reduceBneDiff]
    by_cases h6 : mode = 6
    · subst h6
      have e7 : swapM 6 = 7 := rfl
      rw [e7] at R2
      simp -implicitDefEqProofs only [BEq.rfl, Int.reduceBEq, go_sem, awp_seq, Nat.reduceBNe, Nat.reduceBEq, Nat.reduceAdd, Nat.reduceSub, Nat.reduceMul, Nat.reduceLeDiff, Nat.reduceLT, Nat.reduceEqDiff, Nat.reduceBneDiff]
      refine callA_mk R1 ?_
      simp -implicitDefEqProofs only [go_sem, awp_seq, Nat.reduceBNe, Nat.reduceBEq, Nat.reduceAdd, Nat.reduceSub, Nat.reduceMul, Nat.reduceLeDiff, Nat.reduceLT, Nat.reduceEqDiff, Nat.reduceBneDiff]
      refine callA_mk NG ?_
      simp -implicitDefEqProofs only [go_sem, awp_seq, Nat.reduceBNe, Nat.reduceBEq, Nat.reduceAdd, Nat.reduceSub, Nat.reduceMul, Nat.reduceLeDiff, Nat.reduceLT, Nat.reduceEqDiff, Nat.reduceBneDiff]
      refine callA_mk R2 ?_
      simp -implicitDefEqProofs only [BEq.rfl, go_sem, awp_seq, Nat.reduceBNe, Nat.reduceBEq, Nat.reduceAdd, Nat.reduceSub, Nat.reduceMul, Nat.reduceLeDiff, Nat.reduceLT, Nat.reduceEqDiff, Nat.reduceBneDiff]
      refine callA_mk NU ?_
      simp -implicitDefEqProofs only [go_sem, awp_seq, Nat.reduceBNe, Nat.reduceBEq, Nat.reduceAdd, Nat.reduceSub, Nat.reduceMul, Nat.reduceLeDiff, Nat.reduceLT, Nat.reduceEqDiff, Nat.reduceBneDiff]
      refine callA_mk CM ?_
      simp -implicitDefEqProofs only [BEq.rfl, go_sem, awp_seq, Nat.reduceBNe, Nat.reduceBEq, Nat.reduceAdd, Nat.reduceSub, Nat.reduceMul, Nat.reduceLeDiff, Nat.reduceLT, Nat.reduceEqDiff, Nat.reduceBneDiff]
      refine callA_mk awake_c ?_
      simp -implicitDefEqProofs only [go_sem, awp_seq, Nat.reduceBNe, Nat.reduceBEq, Nat.reduceAdd, Nat.reduceSub, Nat.reduceMul, Nat.reduceLeDiff, Nat.reduceLT, Nat.reduceEqDiff, Nat.reduceBneDiff]
    · by_cases h7 : mode = 7
      · subst h7
        have e7 : swapM 7 = 6 := rfl
        rw [e7] at R2
        simp -implicitDefEqProofs only [BEq.rfl, Int.reduceBEq, go_sem, awp_seq, Nat.reduceBNe, Nat.reduceBEq, Nat.reduceAdd, Nat.reduceSub, Nat.reduceMul, Nat.reduceLeDiff, Nat.reduceLT, Nat.reduceEqDiff, Nat.reduceBneDiff]
        refine callA_mk R1 ?_
        simp -implicitDefEqProofs only [go_sem, awp_seq, Nat.reduceBNe, Nat.reduceBEq, Nat.reduceAdd, Nat.reduceSub, Nat.reduceMul, Nat.reduceLeDiff, Nat.reduceLT, Nat.reduceEqDiff, Nat.reduceBneDiff]
        refine callA_mk NG ?_
        simp -implicitDefEqProofs only [go_sem, awp_seq, Nat.reduceBNe, Nat.reduceBEq, Nat.reduceAdd, Nat.reduceSub, Nat.reduceMul, Nat.reduceLeDiff, Nat.reduceLT, Nat.reduceEqDiff, Nat.reduceBneDiff]
        refine callA_mk R2 ?_
        simp -implicitDefEqProofs only [BEq.rfl, go_sem, awp_seq, Nat.reduceBNe, Nat.reduceBEq, Nat.reduceAdd, Nat.reduceSub, Nat.reduceMul, Nat.reduceLeDiff, Nat.reduceLT, Nat.reduceEqDiff, Nat.reduceBneDiff]
        refine callA_mk NU ?_
        simp -implicitDefEqProofs only [go_sem, awp_seq, Nat.reduceBNe, Nat.reduceBEq, Nat.reduceAdd, Nat.reduceSub, Nat.reduceMul, Nat.reduceLeDiff, Nat.reduceLT, Nat.reduceEqDiff, Nat.reduceBneDiff]
        refine callA_mk CM ?_
        simp -implicitDefEqProofs only [BEq.rfl, go_sem, awp_seq, Nat.reduceBNe, Nat.reduceBEq, Nat.reduceAdd, Nat.reduceSub, Nat.reduceMul, Nat.reduceLeDiff, Nat.reduceLT, Nat.reduceEqDiff, Nat.reduceBneDiff]
        refine callA_mk awake_c ?_
        simp -implicitDefEqProofs only [go_sem, awp_seq, Nat.reduceBNe, Nat.reduceBEq, Nat.reduceAdd, Nat.reduceSub, Nat.reduceMul, Nat.reduceLeDiff, Nat.reduceLT, Nat.reduceEqDiff, Nat.reduceBneDiff]
      · have e6 : (mode == 6) = false := by simpa using h6
        have e7 : (mode == 7) = false := by simpa using h7
        rw [hsw h6 h7] at R2
        simp -implicitDefEqProofs only [e6, e7, go_sem, awp_seq, Nat.reduceBNe, Nat.reduceBEq, Nat.reduceAdd, Nat.reduceSub, Nat.reduceMul, Nat.reduceLeDiff, Nat.reduceLT, Nat.reduceEqDiff, Nat.reduceBneDiff]
        refine callA_mk R1 ?_
        simp -implicitDefEqProofs only [go_sem, awp_seq, Nat.reduceBNe, Nat.reduceBEq, Nat.reduceAdd, Nat.reduceSub, Nat.reduceMul, Nat.reduceLeDiff, Nat.reduceLT, Nat.reduceEqDiff, Nat.reduceBneDiff]
        refine callA_mk NG ?_
        simp -implicitDefEqProofs only [go_sem, awp_seq, Nat.reduceBNe, Nat.reduceBEq, Nat.reduceAdd, Nat.reduceSub, Nat.reduceMul, Nat.reduceLeDiff, Nat.reduceLT, Nat.reduceEqDiff, Nat.reduceBneDiff]
        refine callA_mk R2 ?_
        simp -implicitDefEqProofs only [BEq.rfl, go_sem, awp_seq, Nat.reduceBNe, Nat.reduceBEq, Nat.reduceAdd, Nat.reduceSub, Nat.reduceMul, Nat.reduceLeDiff, Nat.reduceLT, Nat.reduceEqDiff, Nat.reduceBneDiff]
        refine callA_mk NU ?_
        simp -implicitDefEqProofs only [go_sem, awp_seq, Nat.reduceBNe, Nat.reduceBEq, Nat.reduceAdd, Nat.reduceSub, Nat.reduceMul, Nat.reduceLeDiff, Nat.reduceLT, Nat.reduceEqDiff, Nat.reduceBneDiff]
        refine callA_mk CM ?_
        simp -implicitDefEqProofs only [BEq.rfl, go_sem, awp_seq, Nat.reduceBNe, Nat.reduceBEq, Nat.reduceAdd, Nat.reduceSub, Nat.reduceMul, Nat.reduceLeDiff, Nat.reduceLT, Nat.reduceEqDiff, Nat.reduceBneDiff]
        refine callA_mk awake_c ?_
        simp -implicitDefEqProofs only [go_sem, awp_seq, Nat.reduceBNe, Nat.reduceBEq, Nat.reduceAdd, Nat.reduceSub, Nat.reduceMul, Nat.reduceLeDiff, Nat.reduceLT, Nat.reduceEqDiff, Nat.reduceBneDiff]
end Go.Proofs.YtnifjdhjimjihaaGreatDoor
