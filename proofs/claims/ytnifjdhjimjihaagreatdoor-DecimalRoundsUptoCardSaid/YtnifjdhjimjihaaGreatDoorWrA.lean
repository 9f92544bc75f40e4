import Derived.Test.YtnifjdhjimjihaaGreatDoorWr9
/- The document's rounding, continued: Round, Integer; the law DecimalRounds. INTS -/
set_option linter.unusedSimpArgs false
set_option linter.unusedVariables false
namespace Go.Proofs.YtnifjdhjimjihaaGreatDoor
open Go.RowKit Lim

/-! Rounding asks for the number's value alone. -/
theorem rndU_eqv {N M : Int} {D E : Nat} (h : Eqv N D M E) (p : Nat) (mode : Int) : rndU N D p mode = rndU M E p mode :=
  Int.le_antisymm (rndU_mono h.dp h.yp p mode (Int.le_of_eq h.e)) (rndU_mono h.yp h.dp p mode (Int.le_of_eq h.e.symm))
theorem rndU_scale (N : Int) (D p : Nat) (mode : Int) : rndU N D p mode = rndU (N * ((10 ^ p : Nat) : Int)) D 0 mode := by
  have hp := ten_pos p
  have h1 : decide (N * ((10 ^ p : Nat) : Int) < 0) = decide (N < 0) := by
    refine decide_eq_decide.2 ⟨fun h => ?_, fun h => Int.mul_neg_of_neg_of_pos h hp⟩
    by_cases h1 : N < 0
    · exact h1
    · have := Int.mul_nonneg (show 0 ≤ N by omega) (Int.le_of_lt hp)
      omega
  have h2 : N * ((10 ^ p : Nat) : Int) * ((10 ^ 0 : Nat) : Int) = N * ((10 ^ p : Nat) : Int) := by simp
  unfold rndU
  rw [h1, h2]
theorem rnd_plain {z : Int} {d p : Nat} {X R : Int} {E G : Nat} (mode : Int) (hx : Eqv X E (pz z d * ((10 ^ p : Nat) : Int)) (pd d)) (hr : Eqv R G (X - X / (E : Int) * (E : Int)) E) :
    rndU (rn (pz z d) (pd d)) (rd (pz z d) (pd d)) p mode = if (if R = 0 then false else hiB (X / (E : Int)) (cmpZ (R * 2) G) (decide (X < 0)) mode) then X / (E : Int) + 1 else X / (E : Int) := by
  rw [rndU_eqv (Eqv.norm (pz z d) (pd_pos d)), rndU_scale, ← rndU_eqv hx]
  have hm : X - X / (E : Int) * (E : Int) = X % (E : Int) := by have := Int.mul_ediv_add_emod X (E : Int); rw [Int.mul_comm] at this; omega
  rw [hm] at hr
  have hE := hx.dp
  have h2 := hr.cmp (Eqv.refl 1 (show 0 < 2 by omega))
  rw [Int.one_mul, Int.one_mul] at h2
  have h3 : X % (E : Int) * ((2 : Nat) : Int) = X % (E : Int) + X % (E : Int) := by omega
  have h4 : R * ((2 : Nat) : Int) = R * 2 := rfl
  rw [h3, h4] at h2
  have h5 : R = 0 ↔ X % (E : Int) = 0 := by
    have he := hr.e
    constructor
    · intro h
      rw [h, Int.zero_mul] at he
      rcases Int.mul_eq_zero.1 he.symm with h6 | h6
      · exact h6
      · have := hr.dp; omega
    · intro h
      rw [h, Int.zero_mul] at he
      rcases Int.mul_eq_zero.1 he with h6 | h6
      · exact h6
      · omega
  unfold rndU
  have h6 : X * ((10 ^ 0 : Nat) : Int) = X := by simp
  rw [h6, h2]
  by_cases h0 : R = 0
  · rw [if_pos (h5.1 h0), if_pos h0]; simp
  · rw [if_neg (fun h => h0 (h5.2 h)), if_neg h0]
theorem r4round_c {a : AV} {z : Int} {d : Nat} (ha : DR a z d) (p : Nat) (mode : Int) (hp : p ≤ 9) (hm1 : 1 ≤ mode) (hm7 : mode ≤ 7) (hl1 : nlen z.natAbs < 10000000) (hl2 : nlen d < 10000000) :
    AT 10 [a, i64 (p : Nat), i64 mode] (.tup [decN (rndU (rn (pz z d) (pd d)) (rd (pz z d) (pd d)) p mode) (p : Nat), i64 0]) := by
  have g1 : (decide ((0 : Int) ≤ (p : Nat)) && decide (((p : Nat) : Int) ≤ 9)) = true := by simp; omega
  have g2 : (decide (1 ≤ mode) && decide (mode ≤ 7)) = true := by simp; omega
  have c1 := r4places_c (p : Nat)
  have c2 := r4mode_c mode
  rw [g1] at c1
  rw [g2] at c2
  have h10 : nlen (10 ^ p) ≤ 1 := nlen_pow10 hp
  have c3 := r4power_c p hp
  have iP : DI (.agg [boo false, natN (10 ^ p)]) ((10 ^ p : Nat) : Int) := ⟨false, _, rfl, dig_limbs _, by rw [val_limbs]; rfl, by show nlen _ < _; omega⟩
  have c4 := r4whole_c iP
  have n1 : nlen 1 = 1 := nlen_one
  have c5 := r3mul_c ha (dR ((10 ^ p : Nat) : Int) 1 (by rw [Int.natAbs_natCast]; omega) (by omega))
  rw [pz_pos _ (show 0 < 1 by omega), pd_id (show 0 < 1 by omega), Nat.mul_one] at c5
  have eX := Eqv.norm (pz z d * ((10 ^ p : Nat) : Int)) (pd_pos d)
  have nX : nlen (rn (pz z d * ((10 ^ p : Nat) : Int)) (pd d)).natAbs ≤ nlen z.natAbs + 1 := by
    have := nlen_rn (pz z d * ((10 ^ p : Nat) : Int)) (pd d)
    have := nlen_mulZ (pz z d) (10 ^ p)
    have := nlen_pz' z d
    omega
  have nE : nlen (rd (pz z d * ((10 ^ p : Nat) : Int)) (pd d)) ≤ nlen d + 1 := by
    have := nlen_rd (pz z d * ((10 ^ p : Nat) : Int)) (pd d)
    have := nlen_pd' d
    omega
  have HP := fun R G => rnd_plain (R := R) (G := G) mode eX
  generalize rn (pz z d * ((10 ^ p : Nat) : Int)) (pd d) = X at *
  generalize rd (pz z d * ((10 ^ p : Nat) : Int)) (pd d) = E at *
  have hE := eX.dp
  have c6 := r3floor_c (dR X E (by omega) (by omega)) (by omega)
  rw [pz_pos X hE, pd_id hE] at c6
  have nF : nlen (X / (E : Int)).natAbs ≤ nlen z.natAbs + 1 := Nat.le_trans (nlen_mono (Int.natAbs_ediv_le_natAbs _ _)) nX
  have c7 := r2norm_c (dI (X / (E : Int)) (by omega))
  have c8 := r4whole_c (dI (X / (E : Int)) (by omega))
  obtain ⟨R, G, c9, eR, nR, nG⟩ := r3sub_c (dR X E (by omega) (by omega)) (dR (X / (E : Int)) 1 (by omega) (by omega)) (by omega)
  rw [pz_pos X hE, pd_id hE, pz_pos _ (show 0 < 1 by omega), pd_id (show 0 < 1 by omega), Nat.mul_one, show X * ((1 : Nat) : Int) = X from Int.mul_one X] at eR
  have c10 := up_c (X := X) (F := X / (E : Int)) hE eR.dp (by omega) (by omega) (show nlen R.natAbs < 100000000 by omega) (show nlen G < 100000000 by omega) mode hm1 hm7
  rw [HP R G eR]
  clear HP
  generalize (if R = 0 then false else hiB (X / (E : Int)) (cmpZ (R * 2) G) (decide (X < 0)) mode) = b at *
  generalize X / (E : Int) = F at *
  have i1 : DI (.agg [boo false, .nat [1]]) 1 := ⟨false, [1], rfl, dig_one (by omega), by rw [val_one]; rfl, by simp⟩
  have c11 := r2add_c (dI F (by omega)) i1 (by rw [show (1 : Int).natAbs = 1 from rfl]; omega)
  obtain ⟨_, _, _, rfl, _⟩ := ha
  cases b with
  | true =>
    rw [if_pos rfl]
    refine ACalls.of 10 (fn := Tryz.f10) Tryz.func10 rfl rfl rfl (by kernel_rfl) (by kernel_rfl) (Nat.le_of_ble_eq_true rfl) ?_
    simp -implicitDefEqProofs only [go_sem, awp_seq, Nat.reduceBNe, Nat.reduceBEq, Nat.reduceAdd, Nat.reduceSub, Nat.reduceMul, Nat.reduceLeDiff, Nat.reduceLT, Nat.reduceEqDiff, Nat.reduceBneDiff, Int.reduceLE, Int.reduceLT, Int.reduceToNat, Int.reduceBEq, Int.reduceBNe, Int.reduceAdd, Int.reduceSub]
    refine callA_tt c1 ?_
    simp -implicitDefEqProofs only [go_sem, awp_seq, Nat.reduceBNe, Nat.reduceBEq, Nat.reduceAdd, Nat.reduceSub, Nat.reduceMul, Nat.reduceLeDiff, Nat.reduceLT, Nat.reduceEqDiff, Nat.reduceBneDiff, Int.reduceLE, Int.reduceLT, Int.reduceToNat, Int.reduceBEq, Int.reduceBNe, Int.reduceAdd, Int.reduceSub]
    refine callA_tt c2 ?_
    simp -implicitDefEqProofs only [go_sem, awp_seq, Nat.reduceBNe, Nat.reduceBEq, Nat.reduceAdd, Nat.reduceSub, Nat.reduceMul, Nat.reduceLeDiff, Nat.reduceLT, Nat.reduceEqDiff, Nat.reduceBneDiff, Int.reduceLE, Int.reduceLT, Int.reduceToNat, Int.reduceBEq, Int.reduceBNe, Int.reduceAdd, Int.reduceSub]
    refine callA_tt c3 ?_
    simp -implicitDefEqProofs only [go_sem, awp_seq, Nat.reduceBNe, Nat.reduceBEq, Nat.reduceAdd, Nat.reduceSub, Nat.reduceMul, Nat.reduceLeDiff, Nat.reduceLT, Nat.reduceEqDiff, Nat.reduceBneDiff, Int.reduceLE, Int.reduceLT, Int.reduceToNat, Int.reduceBEq, Int.reduceBNe, Int.reduceAdd, Int.reduceSub]
    refine callA_tt c4 ?_
    simp -implicitDefEqProofs only [go_sem, awp_seq, Nat.reduceBNe, Nat.reduceBEq, Nat.reduceAdd, Nat.reduceSub, Nat.reduceMul, Nat.reduceLeDiff, Nat.reduceLT, Nat.reduceEqDiff, Nat.reduceBneDiff, Int.reduceLE, Int.reduceLT, Int.reduceToNat, Int.reduceBEq, Int.reduceBNe, Int.reduceAdd, Int.reduceSub]
    refine callA_tt c5 ?_
    simp -implicitDefEqProofs only [go_sem, awp_seq, Nat.reduceBNe, Nat.reduceBEq, Nat.reduceAdd, Nat.reduceSub, Nat.reduceMul, Nat.reduceLeDiff, Nat.reduceLT, Nat.reduceEqDiff, Nat.reduceBneDiff, Int.reduceLE, Int.reduceLT, Int.reduceToNat, Int.reduceBEq, Int.reduceBNe, Int.reduceAdd, Int.reduceSub]
    refine callA_tt c6 ?_
    simp -implicitDefEqProofs only [go_sem, awp_seq, Nat.reduceBNe, Nat.reduceBEq, Nat.reduceAdd, Nat.reduceSub, Nat.reduceMul, Nat.reduceLeDiff, Nat.reduceLT, Nat.reduceEqDiff, Nat.reduceBneDiff, Int.reduceLE, Int.reduceLT, Int.reduceToNat, Int.reduceBEq, Int.reduceBNe, Int.reduceAdd, Int.reduceSub]
    refine callA_tt c7 ?_
    simp -implicitDefEqProofs only [go_sem, awp_seq, Nat.reduceBNe, Nat.reduceBEq, Nat.reduceAdd, Nat.reduceSub, Nat.reduceMul, Nat.reduceLeDiff, Nat.reduceLT, Nat.reduceEqDiff, Nat.reduceBneDiff, Int.reduceLE, Int.reduceLT, Int.reduceToNat, Int.reduceBEq, Int.reduceBNe, Int.reduceAdd, Int.reduceSub]
    refine callA_tt c8 ?_
    simp -implicitDefEqProofs only [go_sem, awp_seq, Nat.reduceBNe, Nat.reduceBEq, Nat.reduceAdd, Nat.reduceSub, Nat.reduceMul, Nat.reduceLeDiff, Nat.reduceLT, Nat.reduceEqDiff, Nat.reduceBneDiff, Int.reduceLE, Int.reduceLT, Int.reduceToNat, Int.reduceBEq, Int.reduceBNe, Int.reduceAdd, Int.reduceSub]
    refine callA_tt c9 ?_
    simp -implicitDefEqProofs only [go_sem, awp_seq, Nat.reduceBNe, Nat.reduceBEq, Nat.reduceAdd, Nat.reduceSub, Nat.reduceMul, Nat.reduceLeDiff, Nat.reduceLT, Nat.reduceEqDiff, Nat.reduceBneDiff, Int.reduceLE, Int.reduceLT, Int.reduceToNat, Int.reduceBEq, Int.reduceBNe, Int.reduceAdd, Int.reduceSub]
    refine callA_tt c10 ?_
    simp -implicitDefEqProofs only [go_sem, awp_seq, Nat.reduceBNe, Nat.reduceBEq, Nat.reduceAdd, Nat.reduceSub, Nat.reduceMul, Nat.reduceLeDiff, Nat.reduceLT, Nat.reduceEqDiff, Nat.reduceBneDiff, Int.reduceLE, Int.reduceLT, Int.reduceToNat, Int.reduceBEq, Int.reduceBNe, Int.reduceAdd, Int.reduceSub]
    refine callA_tt c11 ?_
    simp -implicitDefEqProofs only [go_sem, awp_seq, Nat.reduceBNe, Nat.reduceBEq, Nat.reduceAdd, Nat.reduceSub, Nat.reduceMul, Nat.reduceLeDiff, Nat.reduceLT, Nat.reduceEqDiff, Nat.reduceBneDiff, Int.reduceLE, Int.reduceLT, Int.reduceToNat, Int.reduceBEq, Int.reduceBNe, Int.reduceAdd, Int.reduceSub]
  | false =>
    rw [if_neg (by simp)]
    refine ACalls.of 10 (fn := Tryz.f10) Tryz.func10 rfl rfl rfl (by kernel_rfl) (by kernel_rfl) (Nat.le_of_ble_eq_true rfl) ?_
    simp -implicitDefEqProofs only [go_sem, awp_seq, Nat.reduceBNe, Nat.reduceBEq, Nat.reduceAdd, Nat.reduceSub, Nat.reduceMul, Nat.reduceLeDiff, Nat.reduceLT, Nat.reduceEqDiff, Nat.reduceBneDiff, Int.reduceLE, Int.reduceLT, Int.reduceToNat, Int.reduceBEq, Int.reduceBNe, Int.reduceAdd, Int.reduceSub]
    refine callA_tt c1 ?_
    simp -implicitDefEqProofs only [go_sem, awp_seq, Nat.reduceBNe, Nat.reduceBEq, Nat.reduceAdd, Nat.reduceSub, Nat.reduceMul, Nat.reduceLeDiff, Nat.reduceLT, Nat.reduceEqDiff, Nat.reduceBneDiff, Int.reduceLE, Int.reduceLT, Int.reduceToNat, Int.reduceBEq, Int.reduceBNe, Int.reduceAdd, Int.reduceSub]
    refine callA_tt c2 ?_
    simp -implicitDefEqProofs only [go_sem, awp_seq, Nat.reduceBNe, Nat.reduceBEq, Nat.reduceAdd, Nat.reduceSub, Nat.reduceMul, Nat.reduceLeDiff, Nat.reduceLT, Nat.reduceEqDiff, Nat.reduceBneDiff, Int.reduceLE, Int.reduceLT, Int.reduceToNat, Int.reduceBEq, Int.reduceBNe, Int.reduceAdd, Int.reduceSub]
    refine callA_tt c3 ?_
    simp -implicitDefEqProofs only [go_sem, awp_seq, Nat.reduceBNe, Nat.reduceBEq, Nat.reduceAdd, Nat.reduceSub, Nat.reduceMul, Nat.reduceLeDiff, Nat.reduceLT, Nat.reduceEqDiff, Nat.reduceBneDiff, Int.reduceLE, Int.reduceLT, Int.reduceToNat, Int.reduceBEq, Int.reduceBNe, Int.reduceAdd, Int.reduceSub]
    refine callA_tt c4 ?_
    simp -implicitDefEqProofs only [go_sem, awp_seq, Nat.reduceBNe, Nat.reduceBEq, Nat.reduceAdd, Nat.reduceSub, Nat.reduceMul, Nat.reduceLeDiff, Nat.reduceLT, Nat.reduceEqDiff, Nat.reduceBneDiff, Int.reduceLE, Int.reduceLT, Int.reduceToNat, Int.reduceBEq, Int.reduceBNe, Int.reduceAdd, Int.reduceSub]
    refine callA_tt c5 ?_
    simp -implicitDefEqProofs only [go_sem, awp_seq, Nat.reduceBNe, Nat.reduceBEq, Nat.reduceAdd, Nat.reduceSub, Nat.reduceMul, Nat.reduceLeDiff, Nat.reduceLT, Nat.reduceEqDiff, Nat.reduceBneDiff, Int.reduceLE, Int.reduceLT, Int.reduceToNat, Int.reduceBEq, Int.reduceBNe, Int.reduceAdd, Int.reduceSub]
    refine callA_tt c6 ?_
    simp -implicitDefEqProofs only [go_sem, awp_seq, Nat.reduceBNe, Nat.reduceBEq, Nat.reduceAdd, Nat.reduceSub, Nat.reduceMul, Nat.reduceLeDiff, Nat.reduceLT, Nat.reduceEqDiff, Nat.reduceBneDiff, Int.reduceLE, Int.reduceLT, Int.reduceToNat, Int.reduceBEq, Int.reduceBNe, Int.reduceAdd, Int.reduceSub]
    refine callA_tt c7 ?_
    simp -implicitDefEqProofs only [go_sem, awp_seq, Nat.reduceBNe, Nat.reduceBEq, Nat.reduceAdd, Nat.reduceSub, Nat.reduceMul, Nat.reduceLeDiff, Nat.reduceLT, Nat.reduceEqDiff, Nat.reduceBneDiff, Int.reduceLE, Int.reduceLT, Int.reduceToNat, Int.reduceBEq, Int.reduceBNe, Int.reduceAdd, Int.reduceSub]
    refine callA_tt c8 ?_
    simp -implicitDefEqProofs only [go_sem, awp_seq, Nat.reduceBNe, Nat.reduceBEq, Nat.reduceAdd, Nat.reduceSub, Nat.reduceMul, Nat.reduceLeDiff, Nat.reduceLT, Nat.reduceEqDiff, Nat.reduceBneDiff, Int.reduceLE, Int.reduceLT, Int.reduceToNat, Int.reduceBEq, Int.reduceBNe, Int.reduceAdd, Int.reduceSub]
    refine callA_tt c9 ?_
    simp -implicitDefEqProofs only [go_sem, awp_seq, Nat.reduceBNe, Nat.reduceBEq, Nat.reduceAdd, Nat.reduceSub, Nat.reduceMul, Nat.reduceLeDiff, Nat.reduceLT, Nat.reduceEqDiff, Nat.reduceBneDiff, Int.reduceLE, Int.reduceLT, Int.reduceToNat, Int.reduceBEq, Int.reduceBNe, Int.reduceAdd, Int.reduceSub]
    refine callA_tt c10 ?_
    simp -implicitDefEqProofs only [go_sem, awp_seq, Nat.reduceBNe, Nat.reduceBEq, Nat.reduceAdd, Nat.reduceSub, Nat.reduceMul, Nat.reduceLeDiff, Nat.reduceLT, Nat.reduceEqDiff, Nat.reduceBneDiff, Int.reduceLE, Int.reduceLT, Int.reduceToNat, Int.reduceBEq, Int.reduceBNe, Int.reduceAdd, Int.reduceSub]
theorem r4round_range (t : Bool) (l m : List Nat) (places mode : Int) (h : places < 0 ∨ 9 < places) : AT 10 [ratA t l m, i64 places, i64 mode] (.tup [.agg [boo false, .nat [], i64 0], i64 3]) := by
  have c1 := r4places_c places
  rw [show (decide (0 ≤ places) && decide (places ≤ 9)) = false by simp; omega] at c1
  refine ACalls.of 10 (fn := Tryz.f10) Tryz.func10 rfl rfl rfl (by kernel_rfl) (by kernel_rfl) (Nat.le_of_ble_eq_true rfl) ?_
  simp -implicitDefEqProofs only [go_sem, awp_seq, Nat.reduceBNe, Nat.reduceBEq, Nat.reduceAdd, Nat.reduceSub, Nat.reduceMul, Nat.reduceLeDiff, Nat.reduceLT, Nat.reduceEqDiff, Nat.reduceBneDiff, Int.reduceLE, Int.reduceLT, Int.reduceToNat, Int.reduceBEq, Int.reduceBNe, Int.reduceAdd, Int.reduceSub]
  refine callA_tt c1 ?_
  simp -implicitDefEqProofs only [go_sem, awp_seq, Nat.reduceBNe, Nat.reduceBEq, Nat.reduceAdd, Nat.reduceSub, Nat.reduceMul, Nat.reduceLeDiff, Nat.reduceLT, Nat.reduceEqDiff, Nat.reduceBneDiff, Int.reduceLE, Int.reduceLT, Int.reduceToNat, Int.reduceBEq, Int.reduceBNe, Int.reduceAdd, Int.reduceSub]
theorem r4round_mode (t : Bool) (l m : List Nat) (places mode : Int) (h0 : 0 ≤ places) (h9 : places ≤ 9) (h : mode < 1 ∨ 7 < mode) : AT 10 [ratA t l m, i64 places, i64 mode] (.tup [.agg [boo false, .nat [], i64 0], i64 1]) := by
  have c1 := r4places_c places
  have c2 := r4mode_c mode
  rw [show (decide (0 ≤ places) && decide (places ≤ 9)) = true by simp; omega] at c1
  rw [show (decide (1 ≤ mode) && decide (mode ≤ 7)) = false by simp; omega] at c2
  refine ACalls.of 10 (fn := Tryz.f10) Tryz.func10 rfl rfl rfl (by kernel_rfl) (by kernel_rfl) (Nat.le_of_ble_eq_true rfl) ?_
  simp -implicitDefEqProofs only [go_sem, awp_seq, Nat.reduceBNe, Nat.reduceBEq, Nat.reduceAdd, Nat.reduceSub, Nat.reduceMul, Nat.reduceLeDiff, Nat.reduceLT, Nat.reduceEqDiff, Nat.reduceBneDiff, Int.reduceLE, Int.reduceLT, Int.reduceToNat, Int.reduceBEq, Int.reduceBNe, Int.reduceAdd, Int.reduceSub]
  refine callA_tt c1 ?_
  simp -implicitDefEqProofs only [go_sem, awp_seq, Nat.reduceBNe, Nat.reduceBEq, Nat.reduceAdd, Nat.reduceSub, Nat.reduceMul, Nat.reduceLeDiff, Nat.reduceLT, Nat.reduceEqDiff, Nat.reduceBneDiff, Int.reduceLE, Int.reduceLT, Int.reduceToNat, Int.reduceBEq, Int.reduceBNe, Int.reduceAdd, Int.reduceSub]
  refine callA_tt c2 ?_
  simp -implicitDefEqProofs only [go_sem, awp_seq, Nat.reduceBNe, Nat.reduceBEq, Nat.reduceAdd, Nat.reduceSub, Nat.reduceMul, Nat.reduceLeDiff, Nat.reduceLT, Nat.reduceEqDiff, Nat.reduceBneDiff, Int.reduceLE, Int.reduceLT, Int.reduceToNat, Int.reduceBEq, Int.reduceBNe, Int.reduceAdd, Int.reduceSub]
theorem r4int_c {a : AV} {z : Int} {d : Nat} (ha : DR a z d) (mode : Int) (hm1 : 1 ≤ mode) (hm7 : mode ≤ 7) (hl1 : nlen z.natAbs < 10000000) (hl2 : nlen d < 10000000) :
    AT 13 [a, i64 mode] (.tup [intN (rndU (rn (pz z d) (pd d)) (rd (pz z d) (pd d)) 0 mode), i64 0]) := by
  have R := r4round_c ha 0 mode (by omega) hm1 hm7 hl1 hl2
  obtain ⟨_, _, _, rfl, _⟩ := ha
  refine ACalls.of 8 (fn := Tryz.f13) Tryz.func13 rfl rfl rfl (by kernel_rfl) (by kernel_rfl) (Nat.le_of_ble_eq_true rfl) ?_
  simp -implicitDefEqProofs only [go_sem, awp_seq, Nat.reduceBNe, Nat.reduceBEq, Nat.reduceAdd, Nat.reduceSub, Nat.reduceMul, Nat.reduceLeDiff, Nat.reduceLT, Nat.reduceEqDiff, Nat.reduceBneDiff, Int.reduceLE, Int.reduceLT, Int.reduceToNat, Int.reduceBEq, Int.reduceBNe, Int.reduceAdd, Int.reduceSub]
  refine callA_tt R ?_
  simp -implicitDefEqProofs only [go_sem, awp_seq, Nat.reduceBNe, Nat.reduceBEq, Nat.reduceAdd, Nat.reduceSub, Nat.reduceMul, Nat.reduceLeDiff, Nat.reduceLT, Nat.reduceEqDiff, Nat.reduceBneDiff, Int.reduceLE, Int.reduceLT, Int.reduceToNat, Int.reduceBEq, Int.reduceBNe, Int.reduceAdd, Int.reduceSub]
theorem r4int_mode (t : Bool) (l m : List Nat) (mode : Int) (h : mode < 1 ∨ 7 < mode) : AT 13 [ratA t l m, i64 mode] (.tup [.agg [boo false, .nat []], i64 1]) := by
  refine ACalls.of 8 (fn := Tryz.f13) Tryz.func13 rfl rfl rfl (by kernel_rfl) (by kernel_rfl) (Nat.le_of_ble_eq_true rfl) ?_
  simp -implicitDefEqProofs only [go_sem, awp_seq, Nat.reduceBNe, Nat.reduceBEq, Nat.reduceAdd, Nat.reduceSub, Nat.reduceMul, Nat.reduceLeDiff, Nat.reduceLT, Nat.reduceEqDiff, Nat.reduceBneDiff, Int.reduceLE, Int.reduceLT, Int.reduceToNat, Int.reduceBEq, Int.reduceBNe, Int.reduceAdd, Int.reduceSub]
  refine callA_tt (r4round_mode t l m 0 mode (by omega) (by omega) h) ?_
  simp -implicitDefEqProofs only [go_sem, awp_seq, Nat.reduceBNe, Nat.reduceBEq, Nat.reduceAdd, Nat.reduceSub, Nat.reduceMul, Nat.reduceLeDiff, Nat.reduceLT, Nat.reduceEqDiff, Nat.reduceBneDiff, Int.reduceLE, Int.reduceLT, Int.reduceToNat, Int.reduceBEq, Int.reduceBNe, Int.reduceAdd, Int.reduceSub]
end Go.Proofs.YtnifjdhjimjihaaGreatDoor
