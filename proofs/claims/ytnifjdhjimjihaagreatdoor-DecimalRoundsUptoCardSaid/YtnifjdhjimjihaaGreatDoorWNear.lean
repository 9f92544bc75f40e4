/- The law DecimalNearest: its arithmetic and its walk. -/
import Derived.Test.YtnifjdhjimjihaaGreatDoorWMono
set_option linter.unusedSimpArgs false
set_option linter.unusedVariables false
namespace Go.Proofs.YtnifjdhjimjihaaGreatDoor
open Go.RowKit Lim

/-- Two fractions of one value. -/
structure Eqv (n : Int) (d : Nat) (x : Int) (y : Nat) : Prop where
  dp : 0 < d
  yp : 0 < y
  e : n * (y : Int) = x * (d : Int)
theorem Eqv.refl (n : Int) {d : Nat} (h : 0 < d) : Eqv n d n d := ⟨h, h, rfl⟩
theorem Eqv.norm (z : Int) {d : Nat} (h : 0 < d) : Eqv (rn z d) (rd z d) z d := ⟨rd_pos z h, h, rn_mul z d⟩
theorem Eqv.symm {n x : Int} {d y : Nat} (h : Eqv n d x y) : Eqv x y n d := ⟨h.yp, h.dp, h.e.symm⟩
theorem Eqv.trans {n x p : Int} {d y q : Nat} (h : Eqv n d x y) (k : Eqv x y p q) : Eqv n d p q := by
  refine ⟨h.dp, k.yp, ?_⟩
  have h1 := h.e
  have h2 := k.e
  have hy : (y : Int) ≠ 0 := by have := h.yp; omega
  refine Int.eq_of_mul_eq_mul_right hy ?_
  calc n * (q : Int) * y = n * (y : Int) * q := by grind
    _ = x * (q : Int) * d := by rw [h1]; grind
    _ = p * (d : Int) * y := by rw [h2]; grind
theorem Eqv.add {n x n' x' : Int} {d y d' y' : Nat} (h : Eqv n d x y) (k : Eqv n' d' x' y') : Eqv (n * (d' : Int) + n' * (d : Int)) (d * d') (x * (y' : Int) + x' * (y : Int)) (y * y') := by
  refine ⟨Nat.mul_pos h.dp k.dp, Nat.mul_pos h.yp k.yp, ?_⟩
  have h1 := h.e
  have h2 := k.e
  rw [Int.natCast_mul, Int.natCast_mul]
  have e1 : (n * (d' : Int) + n' * (d : Int)) * ((y : Int) * y') = n * y * (d' * y') + n' * y' * (d * y) := by grind
  have e2 : (x * (y' : Int) + x' * (y : Int)) * ((d : Int) * d') = x * d * (d' * y') + x' * d' * (d * y) := by grind
  rw [e1, e2, h1, h2]
theorem Eqv.neg {n x : Int} {d y : Nat} (h : Eqv n d x y) : Eqv (-n) d (-x) y := ⟨h.dp, h.yp, by rw [Int.neg_mul, Int.neg_mul, h.e]⟩
theorem Eqv.abs {n x : Int} {d y : Nat} (h : Eqv n d x y) : Eqv (n.natAbs : Int) d (x.natAbs : Int) y := by
  refine ⟨h.dp, h.yp, ?_⟩
  have h1 := congrArg Int.natAbs h.e
  rw [Int.natAbs_mul, Int.natAbs_mul, Int.natAbs_natCast, Int.natAbs_natCast] at h1
  rw [← Int.natCast_mul, ← Int.natCast_mul, h1]
theorem cmpZ_scale {k : Int} (hk : 0 < k) (a b : Int) : cmpZ (a * k) (b * k) = cmpZ a b := by
  unfold cmpZ
  by_cases h : a < b
  · rw [if_pos h, if_pos (Int.mul_lt_mul_of_pos_right h hk)]
  · have h1 : ¬ a * k < b * k := fun hc => h (Int.lt_of_mul_lt_mul_right hc (Int.le_of_lt hk))
    rw [if_neg h, if_neg h1]
    by_cases h2 : b < a
    · rw [if_pos h2, if_pos (Int.mul_lt_mul_of_pos_right h2 hk)]
    · have h3 : ¬ b * k < a * k := fun hc => h2 (Int.lt_of_mul_lt_mul_right hc (Int.le_of_lt hk))
      rw [if_neg h2, if_neg h3]
theorem Eqv.cmp {n x n' x' : Int} {d y d' y' : Nat} (h : Eqv n d x y) (k : Eqv n' d' x' y') : cmpZ (n * (d' : Int)) (n' * (d : Int)) = cmpZ (x * (y' : Int)) (x' * (y : Int)) := by
  have p1 : (0 : Int) < (y : Int) * y' := Int.mul_pos (by have := h.yp; omega) (by have := k.yp; omega)
  have p2 : (0 : Int) < (d : Int) * d' := Int.mul_pos (by have := h.dp; omega) (by have := k.dp; omega)
  rw [← cmpZ_scale p1, ← cmpZ_scale p2 (x * (y' : Int))]
  have h1 := h.e
  have h2 := k.e
  have e1 : n * (d' : Int) * ((y : Int) * y') = n * y * (d' * y') := by grind
  have e2 : x * (y' : Int) * ((d : Int) * d') = x * d * (d' * y') := by grind
  have e3 : n' * (d : Int) * ((y : Int) * y') = n' * y' * (d * y) := by grind
  have e4 : x' * (y : Int) * ((d : Int) * d') = x' * d' * (d * y) := by grind
  rw [e1, e2, e3, e4, h1, h2]
/-- An argument stands for the number x / y, with at most B limbs. -/
def IsQ (a : AV) (x : Int) (y B : Nat) : Prop := ∃ n d, IsR a n d ∧ nlen n.natAbs ≤ B ∧ nlen d ≤ B ∧ Eqv (pz n d) (pd d) x y
theorem isQ {n x : Int} {d y B : Nat} (h : Eqv n d x y) (h1 : nlen n.natAbs ≤ B) (h2 : nlen d ≤ B) (hB : B < 1099511627776) : IsQ (ratN n d) x y B :=
  ⟨n, d, isR n d (by omega) (by omega), h1, h2, by rw [pz_pos _ h.dp, pd_id h.dp]; exact h⟩
/-- What a function on numbers returns. -/
def QRes (f : FuncId) (args : List AV) (x : Int) (y B : Nat) : Prop := ∃ n d, AC f args (ratN n d) ∧ Eqv n d x y ∧ nlen n.natAbs ≤ B ∧ nlen d ≤ B
theorem nlen_rn (z : Int) (d : Nat) : nlen (rn z d).natAbs ≤ nlen z.natAbs := nlen_mono (by rw [rn_abs]; exact Nat.div_le_self _ _)
theorem nlen_rd (z : Int) (d : Nat) : nlen (rd z d) ≤ nlen d := nlen_mono (Nat.div_le_self _ _)
theorem radd_q {a b : AV} {x y : Int} {p q B C : Nat} (ha : IsQ a x p B) (hb : IsQ b y q C) (hl : B + C + 4 < 1099511627776) : QRes 67 [a, b] (x * (q : Int) + y * (p : Int)) (p * q) (B + C + 4) := by
  obtain ⟨n, d, i1, n1, d1, e1⟩ := ha
  obtain ⟨m, f, i2, n2, d2, e2⟩ := hb
  have R := radd_c i1 i2 (by omega) (by omega) (by omega)
  have p1 := nlen_pz' n d
  have p2 := nlen_pz' m f
  have q1 := nlen_pd' d
  have q2 := nlen_pd' f
  have hp : 0 < pd d * pd f := Nat.mul_pos (pd_pos _) (pd_pos _)
  have r1 : nlen (pz n d * (pd f : Int)).natAbs ≤ B + C + 1 := by rw [Int.natAbs_mul, Int.natAbs_natCast]; have := nlen_mul (pz n d).natAbs (pd f); omega
  have r2 : nlen (pz m f * (pd d : Int)).natAbs ≤ B + C + 1 := by rw [Int.natAbs_mul, Int.natAbs_natCast]; have := nlen_mul (pz m f).natAbs (pd d); omega
  have r3 : nlen (pz n d * (pd f : Int) + pz m f * (pd d : Int)).natAbs ≤ B + C + 4 := by
    have h1 := nlen_mono (Int.natAbs_add_le (pz n d * (pd f : Int)) (pz m f * (pd d : Int)))
    have h2 := nlen_add (pz n d * (pd f : Int)).natAbs (pz m f * (pd d : Int)).natAbs
    omega
  have r4 : nlen (pd d * pd f) ≤ B + C + 4 := by have := nlen_mul (pd d) (pd f); omega
  refine ⟨_, _, R, (Eqv.norm _ hp).trans (e1.add e2), ?_, ?_⟩
  · exact Nat.le_trans (nlen_rn _ _) r3
  · exact Nat.le_trans (nlen_rd _ _) r4
theorem rneg_q {a : AV} {x : Int} {p B : Nat} (ha : IsQ a x p B) : QRes 20 [a] (-x) p (B + 1) := by
  obtain ⟨n, d, i1, n1, d1, e1⟩ := ha
  have p1 := nlen_pz' n d
  have q1 := nlen_pd' d
  refine ⟨_, _, rneg_c i1, (Eqv.norm _ (pd_pos d)).trans e1.neg, ?_, ?_⟩
  · have := nlen_rn (-pz n d) (pd d); rw [Int.natAbs_neg] at this; omega
  · have := nlen_rd (-pz n d) (pd d); omega
theorem rabs_q {a : AV} {x : Int} {p B : Nat} (ha : IsQ a x p B) : QRes 25 [a] (x.natAbs : Int) p (B + 1) := by
  obtain ⟨n, d, i1, n1, d1, e1⟩ := ha
  have p1 := nlen_pz' n d
  have q1 := nlen_pd' d
  refine ⟨_, _, rabs_c i1, (Eqv.norm _ (pd_pos d)).trans e1.abs, ?_, ?_⟩
  · have := nlen_rn ((pz n d).natAbs : Int) (pd d); rw [Int.natAbs_natCast] at this; omega
  · have := nlen_rd ((pz n d).natAbs : Int) (pd d); omega
theorem rcmp_q {a b : AV} {x y : Int} {p q B C : Nat} (ha : IsQ a x p B) (hb : IsQ b y q C) (hl : B + C + 2 < 1099511627776) : AC 22 [a, b] (i64 (cmpZ (x * (q : Int)) (y * (p : Int)))) := by
  obtain ⟨n, d, i1, n1, d1, e1⟩ := ha
  obtain ⟨m, f, i2, n2, d2, e2⟩ := hb
  have R := rcmp_c i1 i2 (by omega) (by omega)
  rw [e1.cmp e2] at R
  exact R
set_option maxHeartbeats 1000000 in
theorem rsub_q {a b : AV} {x y : Int} {p q B C : Nat} (ha : IsQ a x p B) (hb : IsQ b y q C) (hl : B + C + 5 < 1099511627776) : QRes 26 [a, b] (x * (q : Int) - y * (p : Int)) (p * q) (B + C + 5) := by
  obtain ⟨n, d, R, e, n1, d1⟩ := rneg_q hb
  obtain ⟨n2, d2, R2, e2, n3, d3⟩ := radd_q ha (isQ e n1 d1 (by omega)) (by omega)
  refine ⟨n2, d2, ?_, ?_, by omega, by omega⟩
  · obtain ⟨_, _, ⟨_, _, _, rfl, _⟩, _⟩ := ha
    obtain ⟨_, _, ⟨_, _, _, rfl, _⟩, _⟩ := hb
    refine ACalls.of 5 (fn := Tryz.f26) Tryz.func26 rfl rfl rfl (by kernel_rfl) (by kernel_rfl) (Nat.le_of_ble_eq_true rfl) ?_
    simp -implicitDefEqProofs only [go_sem, awp_seq, Nat.reduceBNe, Nat.reduceBEq, Nat.reduceAdd, Nat.reduceSub, Nat.reduceMul, Nat.reduceLeDiff, Nat.reduceLT, Nat.reduceEqDiff, Nat.reduceBneDiff]
    refine callA_mk R ?_
    simp -implicitDefEqProofs only [go_sem, awp_seq, Nat.reduceBNe, Nat.reduceBEq, Nat.reduceAdd, Nat.reduceSub, Nat.reduceMul, Nat.reduceLeDiff, Nat.reduceLT, Nat.reduceEqDiff, Nat.reduceBneDiff]
    refine callA_mk R2 ?_
    simp -implicitDefEqProofs only [go_sem, awp_seq, Nat.reduceBNe, Nat.reduceBEq, Nat.reduceAdd, Nat.reduceSub, Nat.reduceMul, Nat.reduceLeDiff, Nat.reduceLT, Nat.reduceEqDiff, Nat.reduceBneDiff]
  · have : x * (q : Int) - y * (p : Int) = x * (q : Int) + -y * (p : Int) := by rw [Int.neg_mul]; omega
    rw [this]
    exact e2
set_option maxHeartbeats 2000000 in
theorem rdiv_q {a b : AV} {x y : Int} {p q B C : Nat} (ha : IsQ a x p B) (hb : IsQ b y q C) (hy : 0 < y) (hl : B + C + 4 < 1099511627776) :
    ∃ n d, AC 68 [a, b] (.tup [ratN n d, boo true]) ∧ Eqv n d (x * (q : Int)) (p * y.natAbs) ∧ nlen n.natAbs ≤ B + C + 4 ∧ nlen d ≤ B + C + 4 := by
  obtain ⟨n, d, i1, n1, d1, e1⟩ := ha
  obtain ⟨m, f, i2, n2, d2, e2⟩ := hb
  obtain ⟨t1, l1, m1, j1, k1, P1⟩ := parts_c i1
  obtain ⟨t2, l2, m2, j2, k2, P2⟩ := parts_c i2
  obtain ⟨_, _, _, rfl, _⟩ := i1
  obtain ⟨_, _, _, rfl, _⟩ := i2
  have p1 := nlen_pz' n d
  have p2 := nlen_pz' m f
  have q1 := nlen_pd' d
  have q2 := nlen_pd' f
  have b1 : nlen ((pd f : Nat) : Int).natAbs < 1099511627776 := by rw [Int.natAbs_natCast]; omega
  have b2 : nlen ((pd d : Nat) : Int).natAbs < 1099511627776 := by rw [Int.natAbs_natCast]; omega
  have r1 : nlen (pz n d * (pd f : Int)).natAbs ≤ B + C + 1 := by rw [Int.natAbs_mul, Int.natAbs_natCast]; have := nlen_mul (pz n d).natAbs (pd f); omega
  have r2 : nlen (pz m f * (pd d : Int)).natAbs ≤ B + C + 1 := by rw [Int.natAbs_mul, Int.natAbs_natCast]; have := nlen_mul (pz m f).natAbs (pd d); omega
  have hpos : 0 < pz m f := by
    have h1 := e2.e
    have h2 := e2.yp
    have h3 := e2.dp
    apply Int.lt_of_not_ge
    intro hc
    have h4 : 0 < y * (pd f : Int) := Int.mul_pos hy (by omega)
    have h5 : pz m f * (q : Int) ≤ 0 := Int.mul_nonpos_of_nonpos_of_nonneg hc (by omega)
    omega
  have hden : 0 < pz m f * (pd d : Int) := Int.mul_pos hpos (by have := pd_pos d; omega)
  have hz : mz (pz n d * (pd f : Int)) (pz m f * (pd d : Int)) = pz n d * (pd f : Int) := by unfold mz; rw [if_neg (by omega)]
  have hq : 0 < (pz m f * (pd d : Int)).natAbs := by omega
  have M := rmake_c (isI _ (show nlen (pz n d * (pd f : Int)).natAbs < 1099511627776 by omega)) (isI _ (show nlen (pz m f * (pd d : Int)).natAbs < 1099511627776 by omega)) (by omega)
  rw [hz] at M
  refine ⟨rn (pz n d * (pd f : Int)) (pz m f * (pd d : Int)).natAbs, rd (pz n d * (pd f : Int)) (pz m f * (pd d : Int)).natAbs, ?_, (Eqv.norm _ hq).trans ⟨hq, Nat.mul_pos e1.yp (by omega), ?_⟩, ?_, ?_⟩
  · refine ACalls.of 11 (fn := Tryz.f68) Tryz.func68 rfl rfl rfl (by kernel_rfl) (by kernel_rfl) (Nat.le_of_ble_eq_true rfl) ?_
    simp -implicitDefEqProofs only [go_sem, awp_seq, Nat.reduceBNe, Nat.reduceBEq, Nat.reduceAdd, Nat.reduceSub, Nat.reduceMul, Nat.reduceLeDiff, Nat.reduceLT, Nat.reduceEqDiff, Nat.reduceBneDiff]
    refine callA_mk P1 ?_
    simp -implicitDefEqProofs only [go_sem, awp_seq, Nat.reduceBNe, Nat.reduceBEq, Nat.reduceAdd, Nat.reduceSub, Nat.reduceMul, Nat.reduceLeDiff, Nat.reduceLT, Nat.reduceEqDiff, Nat.reduceBneDiff]
    refine callA_mk P2 ?_
    simp -implicitDefEqProofs only [go_sem, awp_seq, Nat.reduceBNe, Nat.reduceBEq, Nat.reduceAdd, Nat.reduceSub, Nat.reduceMul, Nat.reduceLeDiff, Nat.reduceLT, Nat.reduceEqDiff, Nat.reduceBneDiff]
    refine callA_mk (whole_c k2) ?_
    simp -implicitDefEqProofs only [go_sem, awp_seq, Nat.reduceBNe, Nat.reduceBEq, Nat.reduceAdd, Nat.reduceSub, Nat.reduceMul, Nat.reduceLeDiff, Nat.reduceLT, Nat.reduceEqDiff, Nat.reduceBneDiff]
    refine callA_mk (imul_c j1 (isI _ b1) (by rw [Int.natAbs_natCast]; omega)) ?_
    simp -implicitDefEqProofs only [go_sem, awp_seq, Nat.reduceBNe, Nat.reduceBEq, Nat.reduceAdd, Nat.reduceSub, Nat.reduceMul, Nat.reduceLeDiff, Nat.reduceLT, Nat.reduceEqDiff, Nat.reduceBneDiff]
    refine callA_mk (whole_c k1) ?_
    simp -implicitDefEqProofs only [go_sem, awp_seq, Nat.reduceBNe, Nat.reduceBEq, Nat.reduceAdd, Nat.reduceSub, Nat.reduceMul, Nat.reduceLeDiff, Nat.reduceLT, Nat.reduceEqDiff, Nat.reduceBneDiff]
    refine callA_mk (imul_c j2 (isI _ b2) (by rw [Int.natAbs_natCast]; omega)) ?_
    simp -implicitDefEqProofs only [go_sem, awp_seq, Nat.reduceBNe, Nat.reduceBEq, Nat.reduceAdd, Nat.reduceSub, Nat.reduceMul, Nat.reduceLeDiff, Nat.reduceLT, Nat.reduceEqDiff, Nat.reduceBneDiff]
    refine callA_mk M ?_
    simp -implicitDefEqProofs only [go_sem, awp_seq, Nat.reduceBNe, Nat.reduceBEq, Nat.reduceAdd, Nat.reduceSub, Nat.reduceMul, Nat.reduceLeDiff, Nat.reduceLT, Nat.reduceEqDiff, Nat.reduceBneDiff]
  · have h1 := e1.e
    have h2 := e2.e
    rw [Int.natAbs_of_nonneg (Int.le_of_lt hden), Int.natCast_mul, Int.natAbs_of_nonneg (Int.le_of_lt hy)]
    calc pz n d * (pd f : Int) * ((p : Int) * y) = pz n d * (p : Int) * (y * (pd f : Int)) := by grind
      _ = x * (q : Int) * (pz m f * (pd d : Int)) := by rw [h1, ← h2]; grind
  · have := nlen_rn (pz n d * (pd f : Int)) (pz m f * (pd d : Int)).natAbs; omega
  · have := nlen_rd (pz n d * (pd f : Int)) (pz m f * (pd d : Int)).natAbs; omega
/-! The arithmetic of rounding. -/
section
variable {N : Int} {D : Nat} (hD : 0 < D) (p : Nat)
theorem ten_pos (p : Nat) : (0 : Int) < ((10 ^ p : Nat) : Int) := by have : 0 < 10 ^ p := Nat.pos_of_ne_zero (by simp); omega
theorem rnd_cases (N : Int) {D : Nat} (hD : 0 < D) (p : Nat) (mode : Int) : ∃ P r : Int, N * ((10 ^ p : Nat) : Int) = P + r ∧ 0 ≤ r ∧ r < D ∧ (N < 0 → P ≤ -(D : Int)) ∧ (0 ≤ N → 0 ≤ P) ∧
    (rndU N D p mode * (D : Int) = P ∧ (r = 0 ∨ ∃ q, hiB q (cmpZ (r + r) D) (decide (N < 0)) mode = false) ∨ rndU N D p mode * (D : Int) = P + D ∧ r ≠ 0 ∧ ∃ q, hiB q (cmpZ (r + r) D) (decide (N < 0)) mode = true) := by
  have hp := ten_pos p
  have hN : N < 0 → N * ((10 ^ p : Nat) : Int) < 0 := fun h => Int.mul_neg_of_neg_of_pos h hp
  have hN' : 0 ≤ N → 0 ≤ N * ((10 ^ p : Nat) : Int) := fun h => Int.mul_nonneg h (Int.le_of_lt hp)
  unfold rndU
  generalize N * ((10 ^ p : Nat) : Int) = X at *
  have e1 := Int.mul_ediv_add_emod X (D : Int)
  have r1 := Int.emod_nonneg X (show (D : Int) ≠ 0 by omega)
  have s1 := Int.emod_lt_of_pos X (show (0 : Int) < D by omega)
  refine ⟨(D : Int) * (X / D), X % D, by omega, r1, s1, fun h => ?_, fun h => ?_, ?_⟩
  · have hx := hN h
    have hq : X / (D : Int) ≤ -1 := by
      have := (Int.ediv_lt_iff_lt_mul (show (0 : Int) < D by omega) (a := X) (b := 0)).2 (by omega)
      omega
    have := Int.mul_le_mul_of_nonneg_left hq (show (0 : Int) ≤ D by omega)
    omega
  · exact Int.mul_nonneg (by omega) (Int.ediv_nonneg (hN' h) (by omega))
  · by_cases h0 : X % (D : Int) = 0
    · rw [if_pos h0]
      exact .inl ⟨Int.mul_comm _ _, .inl h0⟩
    · rw [if_neg h0]
      cases hh : hiB (X / D) (cmpZ (X % D + X % D) D) (decide (N < 0)) mode with
      | true =>
        rw [if_pos rfl]
        exact .inr ⟨by rw [Int.add_mul, Int.one_mul, Int.mul_comm], h0, _, hh⟩
      | false =>
        rw [if_neg (by simp)]
        exact .inl ⟨Int.mul_comm _ _, .inr ⟨_, hh⟩⟩
include hD
theorem near_one (mode : Int) : (rndU N D p mode * (D : Int) - N * ((10 ^ p : Nat) : Int)).natAbs < D := by
  obtain ⟨P, r, e, r0, r1, _, _, h⟩ := rnd_cases N hD p mode
  rcases h with ⟨h, _⟩ | ⟨h, h0, _⟩ <;> omega
theorem near_floor : rndU N D p 6 * (D : Int) ≤ N * ((10 ^ p : Nat) : Int) := by
  obtain ⟨P, r, e, r0, r1, _, _, h⟩ := rnd_cases N hD p 6
  rcases h with ⟨h, _⟩ | ⟨h, h0, q, hq⟩
  · omega
  · simp [hiB] at hq
theorem near_ceil : N * ((10 ^ p : Nat) : Int) ≤ rndU N D p 7 * (D : Int) := by
  obtain ⟨P, r, e, r0, r1, _, _, h⟩ := rnd_cases N hD p 7
  rcases h with ⟨h, h0 | ⟨q, hq⟩⟩ | ⟨h, h0, q, hq⟩
  · omega
  · simp [hiB] at hq
  · omega
theorem near_toward : (rndU N D p 5 * (D : Int)).natAbs ≤ (N * ((10 ^ p : Nat) : Int)).natAbs := by
  obtain ⟨P, r, e, r0, r1, hn, hp, h⟩ := rnd_cases N hD p 5
  rcases h with ⟨h, h0 | ⟨q, hq⟩⟩ | ⟨h, h0, q, hq⟩
  · omega
  · have : 0 ≤ N := by simpa [hiB] using hq
    have := hp this
    omega
  · have : N < 0 := by simpa [hiB] using hq
    have := hn this
    omega
theorem near_away : (N * ((10 ^ p : Nat) : Int)).natAbs ≤ (rndU N D p 4 * (D : Int)).natAbs := by
  obtain ⟨P, r, e, r0, r1, hn, hp, h⟩ := rnd_cases N hD p 4
  rcases h with ⟨h, h0 | ⟨q, hq⟩⟩ | ⟨h, h0, q, hq⟩
  · omega
  · have : N < 0 := by simpa [hiB] using hq
    have := hn this
    omega
  · have : 0 ≤ N := by simpa [hiB] using hq
    have := hp this
    omega
theorem near_half {mode : Int} (hm : mode = 1 ∨ mode = 2 ∨ mode = 3) : 2 * (rndU N D p mode * (D : Int) - N * ((10 ^ p : Nat) : Int)).natAbs ≤ D := by
  obtain ⟨P, r, e, r0, r1, hn, hp, h⟩ := rnd_cases N hD p mode
  have key : ∀ q b, hiB q (cmpZ (r + r) D) (decide (N < 0)) mode = b → (b = true → (D : Int) ≤ r + r) ∧ (b = false → r + r ≤ D) := fun q b hq => by
    unfold hiB at hq
    rw [if_pos hm] at hq
    unfold cmpZ at hq
    by_cases h1 : r + r < (D : Int)
    · rw [if_pos h1] at hq
      simp at hq
      subst hq
      simp; omega
    · by_cases h2 : (D : Int) < r + r
      · rw [if_neg h1, if_pos h2] at hq
        simp at hq
        subst hq
        simp; omega
      · omega
  rcases h with ⟨h, h0 | ⟨q, hq⟩⟩ | ⟨h, h0, q, hq⟩
  · omega
  · have := (key q _ hq).2 rfl
    omega
  · have := (key q _ hq).1 rfl
    omega
end
end Go.Proofs.YtnifjdhjimjihaaGreatDoor
