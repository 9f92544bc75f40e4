/- The law DecimalNearest: its walk. -/
import Derived.Test.YtnifjdhjimjihaaGreatDoorNear
set_option linter.unusedSimpArgs false
set_option linter.unusedVariables false
namespace Go.Proofs.YtnifjdhjimjihaaGreatDoor
open Go.RowKit Lim

theorem nlen_ten_pow {p : Nat} (hp : p ≤ 9) : nlen (10 ^ p) ≤ 1 := nlen_pow10 hp
set_option maxHeartbeats 1000000 in
theorem unit_q (p k : Nat) (hp : p ≤ 9) (hk : 0 < k) (hk2 : k < 4294967296) : ∃ n d, AC 27 [i64 (p : Nat), u32 (k : Nat)] (ratN n d) ∧ Eqv n d 1 (10 ^ p * k) ∧ nlen n.natAbs ≤ 6 ∧ nlen d ≤ 6 := by
  have c1 : ((k : Int) < 4294967296) = True := by simp; omega
  have c2 : ((1 : Int) < 4294967296) = True := by simp
  have i1 : IsI (.agg [boo false, .nat [1]]) 1 := ⟨false, [1], rfl, by rw [val_one]; rfl, by simp⟩
  have V := dvalue_c i1 p hp
  have t0 : 0 < 10 ^ p := Nat.pos_of_ne_zero (by simp)
  have b1 : nlen (rn 1 (10 ^ p)).natAbs ≤ 1 := Nat.le_trans (nlen_rn 1 (10 ^ p)) (by show nlen 1 ≤ 1; rw [nlen_one]; omega)
  have b2 : nlen (rd 1 (10 ^ p)) ≤ 1 := Nat.le_trans (nlen_rd 1 (10 ^ p)) (nlen_pow10 hp)
  have q1 : IsQ (ratN (rn 1 (10 ^ p)) (rd 1 (10 ^ p))) 1 (10 ^ p) 1 := isQ (Eqv.norm 1 t0) b1 b2 (by omega)
  have q2 : IsQ (ratA false [k] [1]) (k : Int) 1 1 := by
    refine ⟨(k : Int), 1, ⟨false, [k], [1], rfl, by rw [val_one]; rfl, by rw [val_one], by simp, by simp⟩, ?_, by rw [nlen_one]; omega, ?_⟩
    · rw [Int.natAbs_natCast]; exact nlen_u32 hk2
    · rw [pz_pos _ (by omega), pd_id (by omega)]; exact Eqv.refl _ (by omega)
  obtain ⟨n, d, D, e, n1, d1⟩ := rdiv_q q1 q2 (by omega) (by omega)
  refine ⟨n, d, ?_, ?_, by omega, by omega⟩
  · refine ACalls.of 9 (fn := Tryz.f27) Tryz.func27 rfl rfl rfl (by kernel_rfl) (by kernel_rfl) (Nat.le_of_ble_eq_true rfl) ?_
    simp -implicitDefEqProofs only [Int.natCast_nonneg, c1, c2, Int.toNat_natCast, Int.toNat_one, Int.reduceLE, go_sem, awp_seq, Nat.reduceBNe, Nat.reduceBEq, Nat.reduceAdd, Nat.reduceSub, Nat.reduceMul, Nat.reduceLeDiff, Nat.reduceLT, Nat.reduceEqDiff, Nat.reduceBneDiff]
    refine callA_mk V ?_
    simp -implicitDefEqProofs only [Int.natCast_nonneg, c1, c2, Int.toNat_natCast, Int.toNat_one, Int.reduceLE, go_sem, awp_seq, Nat.reduceBNe, Nat.reduceBEq, Nat.reduceAdd, Nat.reduceSub, Nat.reduceMul, Nat.reduceLeDiff, Nat.reduceLT, Nat.reduceEqDiff, Nat.reduceBneDiff]
    refine callA_mk D ?_
    simp -implicitDefEqProofs only [go_sem, awp_seq, Nat.reduceBNe, Nat.reduceBEq, Nat.reduceAdd, Nat.reduceSub, Nat.reduceMul, Nat.reduceLeDiff, Nat.reduceLT, Nat.reduceEqDiff, Nat.reduceBneDiff]
  · have h := e
    rw [Int.natAbs_natCast] at h
    exact h
theorem cmpZ_neg {a b : Int} (h : a < b) : cmpZ a b = -1 := by unfold cmpZ; rw [if_pos h]
theorem cmpZ_le {a b : Int} (h : a ≤ b) : decide (cmpZ a b ≤ 0) = true := by unfold cmpZ; simp; split <;> (try split) <;> omega
theorem cmpZ_ge {a b : Int} (h : b ≤ a) : decide (0 ≤ cmpZ a b) = true := by unfold cmpZ; simp; split <;> (try split) <;> omega
set_option maxHeartbeats 4000000 in
theorem nearest_c (t : Bool) (l m : List Nat) (pl mode : Int) (hl : l.length ≤ 1048576) (hm : m.length ≤ 1048576) (dl : Dig l) (dm : Dig m) : AC 8 [ratA t l m, i64 pl, i64 mode] (boo true) := by
  cases hv : validB pl mode with
  | false =>
    have R : ∃ e, AC 9 [ratA t l m, i64 pl, i64 mode] (zErr e) ∧ (e != 0) = true := by
      by_cases h1 : pl < 0 ∨ 9 < pl
      · exact ⟨3, dround_range t l m pl mode h1, rfl⟩
      · refine ⟨1, dround_mode t l m pl mode (by omega) (by omega) ?_, rfl⟩
        simp only [validB] at hv
        simp at hv
        omega
    obtain ⟨e, R, he⟩ := R
    refine ACalls.of 12 (fn := Tryz.f8) Tryz.func8 rfl rfl rfl (by kernel_rfl) (by kernel_rfl) (Nat.le_of_ble_eq_true rfl) ?_
    simp -implicitDefEqProofs only [go_sem, awp_seq, Nat.reduceBNe, Nat.reduceBEq, Nat.reduceAdd, Nat.reduceSub, Nat.reduceMul, Nat.reduceLeDiff, Nat.reduceLT, Nat.reduceEqDiff, Nat.reduceBneDiff]
    refine callA_mk R ?_
    simp -implicitDefEqProofs only [he, go_sem, awp_seq, Nat.reduceBNe, Nat.reduceBEq, Nat.reduceAdd, Nat.reduceSub, Nat.reduceMul, Nat.reduceLeDiff, Nat.reduceLT, Nat.reduceEqDiff, Nat.reduceBneDiff]
    refine callA_mk (valid_c pl mode) ?_
    simp -implicitDefEqProofs only [hv, go_sem, awp_seq, Nat.reduceBNe, Nat.reduceBEq, Nat.reduceAdd, Nat.reduceSub, Nat.reduceMul, Nat.reduceLeDiff, Nat.reduceLT, Nat.reduceEqDiff, Nat.reduceBneDiff]
    refine callA_mk awake_c ?_
    simp -implicitDefEqProofs only [go_sem, awp_seq, Nat.reduceBNe, Nat.reduceBEq, Nat.reduceAdd, Nat.reduceSub, Nat.reduceMul, Nat.reduceLeDiff, Nat.reduceLT, Nat.reduceEqDiff, Nat.reduceBneDiff]
  | true =>
    simp only [validB, Bool.and_eq_true, decide_eq_true_eq] at hv
    obtain ⟨v1, v2, v3, v4⟩ := hv
    obtain ⟨p, rfl⟩ : ∃ p : Nat, pl = (p : Int) := ⟨pl.toNat, by omega⟩
    have hvt : validB (p : Int) mode = true := by simp [validB, v1, v2, v3, v4]
    have nl := nlen_val dl
    have nm := nlen_val dm
    have ha : IsR (ratA t l m) (sg t (val l)) (val m) := ⟨t, l, m, rfl, rfl, rfl, by omega, by omega⟩
    have nz : nlen (sg t (val l)).natAbs ≤ l.length := by rw [sg_abs]; exact nl
    generalize sg t (val l) = z at *
    generalize val m = d at *
    have R1 := dround_c ha p mode (by omega) v3 v4 (by omega) (by omega)
    have hD : 0 < rd (pz z d) (pd d) := rd_pos _ (pd_pos d)
    have qr : IsQ (ratA t l m) (rn (pz z d) (pd d)) (rd (pz z d) (pd d)) 1048576 := ⟨z, d, ha, by omega, by omega, (Eqv.norm _ (pd_pos d)).symm⟩
    have hu := rndU_nlen (rn (pz z d) (pd d)) (rd (pz z d) (pd d)) p mode (by omega)
    have hu2 := nlen_rnp z d
    have f1 := near_one (N := rn (pz z d) (pd d)) hD p mode
    have f6 : mode = 6 → _ := fun h => near_floor (N := rn (pz z d) (pd d)) hD p
    have f7 : mode = 7 → _ := fun h => near_ceil (N := rn (pz z d) (pd d)) hD p
    have f5 : mode = 5 → _ := fun h => near_toward (N := rn (pz z d) (pd d)) hD p
    have f4 : mode = 4 → _ := fun h => near_away (N := rn (pz z d) (pd d)) hD p
    have f3 := fun h => near_half (N := rn (pz z d) (pd d)) hD p (mode := mode) h
    have e6 : mode = 6 → rndU (rn (pz z d) (pd d)) (rd (pz z d) (pd d)) p 6 = rndU (rn (pz z d) (pd d)) (rd (pz z d) (pd d)) p mode := fun h => by rw [h]
    have e7 : mode = 7 → rndU (rn (pz z d) (pd d)) (rd (pz z d) (pd d)) p 7 = rndU (rn (pz z d) (pd d)) (rd (pz z d) (pd d)) p mode := fun h => by rw [h]
    have e5 : mode = 5 → rndU (rn (pz z d) (pd d)) (rd (pz z d) (pd d)) p 5 = rndU (rn (pz z d) (pd d)) (rd (pz z d) (pd d)) p mode := fun h => by rw [h]
    have e4 : mode = 4 → rndU (rn (pz z d) (pd d)) (rd (pz z d) (pd d)) p 4 = rndU (rn (pz z d) (pd d)) (rd (pz z d) (pd d)) p mode := fun h => by rw [h]
    generalize rndU (rn (pz z d) (pd d)) (rd (pz z d) (pd d)) p mode = u at *
    generalize rn (pz z d) (pd d) = N at *
    generalize rd (pz z d) (pd d) = D at *
    have t0 : 0 < 10 ^ p := Nat.pos_of_ne_zero (by simp)
    have V := dvalue_c (isI u (by omega)) p (by omega)
    have qv : IsQ (ratN (rn u (10 ^ p)) (rd u (10 ^ p))) u (10 ^ p) 1048600 := isQ (Eqv.norm u t0) (Nat.le_trans (nlen_rn _ _) (by omega)) (Nat.le_trans (nlen_rd _ _) (Nat.le_trans (nlen_pow10 (by omega)) (by omega))) (by omega)
    obtain ⟨sn, sd, SB, es, s1, s2⟩ := rsub_q qv qr (by omega)
    obtain ⟨an, ad, AB, ea, a1, a2⟩ := rabs_q (isQ es s1 s2 (by omega))
    have qa := isQ ea a1 a2 (by omega)
    obtain ⟨un, ud, UN, eu, u1, u2⟩ := unit_q p 1 (by omega) (by omega) (by omega)
    obtain ⟨wn, wd, UW, ew, w1, w2⟩ := unit_q p 2 (by omega) (by omega) (by omega)
    have C1 := rcmp_q qa (isQ eu u1 u2 (by omega)) (by omega)
    have C2 := rcmp_q qa (isQ ew w1 w2 (by omega)) (by omega)
    obtain ⟨xn, xd, AV1, ex, x1, x2⟩ := rabs_q qv
    obtain ⟨yn, yd, AV2, ey, y1, y2⟩ := rabs_q qr
    have C3 := rcmp_q (isQ ex x1 x2 (by omega)) (isQ ey y1 y2 (by omega)) (by omega)
    have C4 := rcmp_q qv qr (by omega)
    have hT : (0 : Int) < ((10 ^ p : Nat) : Int) := ten_pos p
    have g1 : cmpZ (((u * (D : Int) - N * ((10 ^ p : Nat) : Int)).natAbs : Int) * ((10 ^ p * 1 : Nat) : Int)) (1 * ((10 ^ p * D : Nat) : Int)) = -1 := by
      apply cmpZ_neg
      rw [Nat.mul_one, Int.one_mul, Int.natCast_mul, Int.mul_comm ((10 ^ p : Nat) : Int)]
      exact Int.mul_lt_mul_of_pos_right (by omega) hT
    rw [g1] at C1
    have g3 : (mode = 1 ∨ mode = 2 ∨ mode = 3) → decide (cmpZ (((u * (D : Int) - N * ((10 ^ p : Nat) : Int)).natAbs : Int) * ((10 ^ p * 2 : Nat) : Int)) (1 * ((10 ^ p * D : Nat) : Int)) ≤ 0) = true := fun h => by
      apply cmpZ_le
      have := f3 h
      rw [Int.one_mul, Int.natCast_mul, Int.natCast_mul, Int.mul_comm, Int.mul_assoc]
      exact Int.mul_le_mul_of_nonneg_left (by omega) (by omega)
    have g6 : mode = 6 → decide (cmpZ (u * (D : Int)) (N * ((10 ^ p : Nat) : Int)) ≤ 0) = true := fun h => by have := f6 h; rw [e6 h] at this; exact cmpZ_le this
    have g7 : mode = 7 → decide (0 ≤ cmpZ (u * (D : Int)) (N * ((10 ^ p : Nat) : Int))) = true := fun h => by have := f7 h; rw [e7 h] at this; exact cmpZ_ge this
    have h5 : ((u.natAbs : Int) * (D : Int)) = ((u * (D : Int)).natAbs : Int) := by rw [Int.natAbs_mul, Int.natAbs_natCast, Int.natCast_mul]
    have h6 : ((N.natAbs : Int) * ((10 ^ p : Nat) : Int)) = ((N * ((10 ^ p : Nat) : Int)).natAbs : Int) := by rw [Int.natAbs_mul, Int.natAbs_natCast, Int.natCast_mul]
    have g5 : mode = 5 → decide (cmpZ ((u.natAbs : Int) * (D : Int)) ((N.natAbs : Int) * ((10 ^ p : Nat) : Int)) ≤ 0) = true := fun h => by have := f5 h; rw [e5 h] at this; rw [h5, h6]; exact cmpZ_le (by omega)
    have g4 : mode = 4 → decide (0 ≤ cmpZ ((u.natAbs : Int) * (D : Int)) ((N.natAbs : Int) * ((10 ^ p : Nat) : Int))) = true := fun h => by have := f4 h; rw [e4 h] at this; rw [h5, h6]; exact cmpZ_ge (by omega)
    generalize cmpZ (((u * (D : Int) - N * ((10 ^ p : Nat) : Int)).natAbs : Int) * ((10 ^ p * 2 : Nat) : Int)) (1 * ((10 ^ p * D : Nat) : Int)) = c2 at *
    generalize cmpZ ((u.natAbs : Int) * (D : Int)) ((N.natAbs : Int) * ((10 ^ p : Nat) : Int)) = c3 at *
    generalize cmpZ (u * (D : Int)) (N * ((10 ^ p : Nat) : Int)) = c4 at *
    clear f1 f3 f4 f5 f6 f7 e4 e5 e6 e7 h5 h6 qa qv qr es ea ex ey eu ew
    generalize rn u (10 ^ p) = vn at *
    generalize rd u (10 ^ p) = vd at *
    have one1 : decide ((0 : Int) ≤ -1) = false := rfl
    refine ACalls.of 62 (fn := Tryz.f8) Tryz.func8 rfl rfl rfl (by kernel_rfl) (by kernel_rfl) (Nat.le_of_ble_eq_true rfl) ?_
    simp -implicitDefEqProofs only [go_sem, awp_seq, Nat.reduceBNe, Nat.reduceBEq, Nat.reduceAdd, Nat.reduceSub, Nat.reduceMul, Nat.reduceLeDiff, Nat.reduceLT, Nat.reduceEqDiff, Nat.reduceBneDiff]
    refine callA_mk R1 ?_
    simp -implicitDefEqProofs only [bne_self_eq_false, go_sem, awp_seq, Nat.reduceBNe, Nat.reduceBEq, Nat.reduceAdd, Nat.reduceSub, Nat.reduceMul, Nat.reduceLeDiff, Nat.reduceLT, Nat.reduceEqDiff, Nat.reduceBneDiff]
    refine callA_mk V ?_
    simp -implicitDefEqProofs only [bne_self_eq_false, go_sem, awp_seq, Nat.reduceBNe, Nat.reduceBEq, Nat.reduceAdd, Nat.reduceSub, Nat.reduceMul, Nat.reduceLeDiff, Nat.reduceLT, Nat.reduceEqDiff, Nat.reduceBneDiff]
    refine callA_mk (valid_c p mode) ?_
    simp -implicitDefEqProofs only [hvt, bne_self_eq_false, go_sem, awp_seq, Nat.reduceBNe, Nat.reduceBEq, Nat.reduceAdd, Nat.reduceSub, Nat.reduceMul, Nat.reduceLeDiff, Nat.reduceLT, Nat.reduceEqDiff, Nat.reduceBneDiff]
    refine callA_mk SB ?_
    simp -implicitDefEqProofs only [go_sem, awp_seq, Nat.reduceBNe, Nat.reduceBEq, Nat.reduceAdd, Nat.reduceSub, Nat.reduceMul, Nat.reduceLeDiff, Nat.reduceLT, Nat.reduceEqDiff, Nat.reduceBneDiff]
    refine callA_mk AB ?_
    simp -implicitDefEqProofs only [go_sem, awp_seq, Nat.reduceBNe, Nat.reduceBEq, Nat.reduceAdd, Nat.reduceSub, Nat.reduceMul, Nat.reduceLeDiff, Nat.reduceLT, Nat.reduceEqDiff, Nat.reduceBneDiff]
    refine callA_mk UN ?_
    simp -implicitDefEqProofs only [go_sem, awp_seq, Nat.reduceBNe, Nat.reduceBEq, Nat.reduceAdd, Nat.reduceSub, Nat.reduceMul, Nat.reduceLeDiff, Nat.reduceLT, Nat.reduceEqDiff, Nat.reduceBneDiff]
    refine callA_mk C1 ?_
    simp -implicitDefEqProofs only [one1, go_sem, awp_seq, Nat.reduceBNe, Nat.reduceBEq, Nat.reduceAdd, Nat.reduceSub, Nat.reduceMul, Nat.reduceLeDiff, Nat.reduceLT, Nat.reduceEqDiff, Nat.reduceBneDiff]
    refine callA_mk AV1 ?_
    simp -implicitDefEqProofs only [go_sem, awp_seq, Nat.reduceBNe, Nat.reduceBEq, Nat.reduceAdd, Nat.reduceSub, Nat.reduceMul, Nat.reduceLeDiff, Nat.reduceLT, Nat.reduceEqDiff, Nat.reduceBneDiff]
    refine callA_mk AV2 ?_
    simp -implicitDefEqProofs only [go_sem, awp_seq, Nat.reduceBNe, Nat.reduceBEq, Nat.reduceAdd, Nat.reduceSub, Nat.reduceMul, Nat.reduceLeDiff, Nat.reduceLT, Nat.reduceEqDiff, Nat.reduceBneDiff]
    refine callA_mk C3 ?_
    by_cases h6 : mode = 6
    · subst h6
      simp -implicitDefEqProofs only [BEq.rfl, go_sem, awp_seq, Nat.reduceBNe, Nat.reduceBEq, Nat.reduceAdd, Nat.reduceSub, Nat.reduceMul, Nat.reduceLeDiff, Nat.reduceLT, Nat.reduceEqDiff, Nat.reduceBneDiff]
      refine callA_mk C4 ?_
      simp -implicitDefEqProofs only [g6 rfl, go_sem, awp_seq, Nat.reduceBNe, Nat.reduceBEq, Nat.reduceAdd, Nat.reduceSub, Nat.reduceMul, Nat.reduceLeDiff, Nat.reduceLT, Nat.reduceEqDiff, Nat.reduceBneDiff]
      refine callA_mk awake_c ?_
      simp -implicitDefEqProofs only [go_sem, awp_seq, Nat.reduceBNe, Nat.reduceBEq, Nat.reduceAdd, Nat.reduceSub, Nat.reduceMul, Nat.reduceLeDiff, Nat.reduceLT, Nat.reduceEqDiff, Nat.reduceBneDiff]
    · have b6 : (mode == 6) = false := by simpa using h6
      by_cases h7 : mode = 7
      · subst h7
        simp -implicitDefEqProofs only [BEq.rfl, Int.reduceBEq, go_sem, awp_seq, Nat.reduceBNe, Nat.reduceBEq, Nat.reduceAdd, Nat.reduceSub, Nat.reduceMul, Nat.reduceLeDiff, Nat.reduceLT, Nat.reduceEqDiff, Nat.reduceBneDiff]
        refine callA_mk C4 ?_
        simp -implicitDefEqProofs only [g7 rfl, go_sem, awp_seq, Nat.reduceBNe, Nat.reduceBEq, Nat.reduceAdd, Nat.reduceSub, Nat.reduceMul, Nat.reduceLeDiff, Nat.reduceLT, Nat.reduceEqDiff, Nat.reduceBneDiff]
        refine callA_mk awake_c ?_
        simp -implicitDefEqProofs only [go_sem, awp_seq, Nat.reduceBNe, Nat.reduceBEq, Nat.reduceAdd, Nat.reduceSub, Nat.reduceMul, Nat.reduceLeDiff, Nat.reduceLT, Nat.reduceEqDiff, Nat.reduceBneDiff]
      · have b7 : (mode == 7) = false := by simpa using h7
        by_cases h5 : mode = 5
        · subst h5
          simp -implicitDefEqProofs only [BEq.rfl, Int.reduceBEq, g5 rfl, go_sem, awp_seq, Nat.reduceBNe, Nat.reduceBEq, Nat.reduceAdd, Nat.reduceSub, Nat.reduceMul, Nat.reduceLeDiff, Nat.reduceLT, Nat.reduceEqDiff, Nat.reduceBneDiff]
          refine callA_mk awake_c ?_
          simp -implicitDefEqProofs only [go_sem, awp_seq, Nat.reduceBNe, Nat.reduceBEq, Nat.reduceAdd, Nat.reduceSub, Nat.reduceMul, Nat.reduceLeDiff, Nat.reduceLT, Nat.reduceEqDiff, Nat.reduceBneDiff]
        · have b5 : (mode == 5) = false := by simpa using h5
          by_cases h4 : mode = 4
          · subst h4
            simp -implicitDefEqProofs only [BEq.rfl, Int.reduceBEq, g4 rfl, go_sem, awp_seq, Nat.reduceBNe, Nat.reduceBEq, Nat.reduceAdd, Nat.reduceSub, Nat.reduceMul, Nat.reduceLeDiff, Nat.reduceLT, Nat.reduceEqDiff, Nat.reduceBneDiff]
            refine callA_mk awake_c ?_
            simp -implicitDefEqProofs only [go_sem, awp_seq, Nat.reduceBNe, Nat.reduceBEq, Nat.reduceAdd, Nat.reduceSub, Nat.reduceMul, Nat.reduceLeDiff, Nat.reduceLT, Nat.reduceEqDiff, Nat.reduceBneDiff]
          · have b4 : (mode == 4) = false := by simpa using h4
            simp -implicitDefEqProofs only [b4, b5, b6, b7, go_sem, awp_seq, Nat.reduceBNe, Nat.reduceBEq, Nat.reduceAdd, Nat.reduceSub, Nat.reduceMul, Nat.reduceLeDiff, Nat.reduceLT, Nat.reduceEqDiff, Nat.reduceBneDiff]
            refine callA_mk UW ?_
            simp -implicitDefEqProofs only [go_sem, awp_seq, Nat.reduceBNe, Nat.reduceBEq, Nat.reduceAdd, Nat.reduceSub, Nat.reduceMul, Nat.reduceLeDiff, Nat.reduceLT, Nat.reduceEqDiff, Nat.reduceBneDiff]
            refine callA_mk C2 ?_
            simp -implicitDefEqProofs only [g3 (by omega), go_sem, awp_seq, Nat.reduceBNe, Nat.reduceBEq, Nat.reduceAdd, Nat.reduceSub, Nat.reduceMul, Nat.reduceLeDiff, Nat.reduceLT, Nat.reduceEqDiff, Nat.reduceBneDiff]
            refine callA_mk awake_c ?_
            simp -implicitDefEqProofs only [go_sem, awp_seq, Nat.reduceBNe, Nat.reduceBEq, Nat.reduceAdd, Nat.reduceSub, Nat.reduceMul, Nat.reduceLeDiff, Nat.reduceLT, Nat.reduceEqDiff, Nat.reduceBneDiff]
end Go.Proofs.YtnifjdhjimjihaaGreatDoor
