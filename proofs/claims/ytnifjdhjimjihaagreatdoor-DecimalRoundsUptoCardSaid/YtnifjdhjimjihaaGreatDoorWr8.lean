import Derived.Test.YtnifjdhjimjihaaGreatDoorWr7
import Derived.Test.YtnifjdhjimjihaaGreatDoorWNear
/- The document's ratios (examboardref03), by the engine. -/
set_option linter.unusedSimpArgs false
set_option linter.unusedVariables false
namespace Go.Proofs.YtnifjdhjimjihaaGreatDoor
open Go.RowKit Lim

/-- An argument that stands for a ratio, in limbs, not too long. -/
def DR (a : AV) (z : Int) (d : Nat) : Prop := ∃ t l m, a = ratA t l m ∧ Dig l ∧ Dig m ∧ sg t (val l) = z ∧ val m = d ∧ l.length < 100000000 ∧ m.length < 100000000
theorem dR (z : Int) (d : Nat) (h : nlen z.natAbs < 100000000) (h2 : nlen d < 100000000) : DR (ratN z d) z d := ⟨_, _, _, rfl, dig_limbs _, dig_limbs _, by rw [val_limbs]; exact sg_norm z, val_limbs d, h, h2⟩
theorem DR.n1 {a : AV} {z : Int} {d : Nat} (h : DR a z d) : nlen z.natAbs < 100000000 ∧ nlen d < 100000000 := by
  obtain ⟨t, l, m, _, h1, h2, rfl, rfl, h3, h4⟩ := h
  rw [sg_natAbs]
  have := nlen_val h1
  have := nlen_val h2
  omega
theorem DI.n1 {a : AV} {z : Int} (h : DI a z) : nlen z.natAbs < 1000000000 := by
  obtain ⟨t, l, _, h1, rfl, h3⟩ := h
  rw [sg_natAbs]
  have := nlen_val h1
  omega
theorem DN.n1 {a : AV} {n : Nat} (h : DN a n) : nlen n < 1000000000 := by
  obtain ⟨l, _, h1, rfl, h3⟩ := h
  have := nlen_val h1
  omega
theorem ratN_zero : ratN 0 1 = .agg [boo false, .nat [], natN 1] := by simp [limbs_zero]
theorem bits_zero {n : Nat} (h : n = 0) : (((bitsN n : Nat) : Int) == 0) = true := by rw [h, bitsN_zero]; rfl
theorem bits_pos {n : Nat} (h : n ≠ 0) : (((bitsN n : Nat) : Int) == 0) = false := by
  have := bitsN_pos (show 0 < n by omega)
  rw [beq_eq_false_iff_ne]
  omega
theorem sg_false (n : Nat) : sg false n = (n : Int) := rfl
theorem r3zero_c : AT 112 [] (ratN 0 1) := by
  rw [ratN_zero]
  refine ACalls.of 1 (fn := Tryz.f112) Tryz.func112 rfl rfl rfl (by kernel_rfl) (by kernel_rfl) (Nat.le_of_ble_eq_true rfl) ?_
  simp -implicitDefEqProofs only [go_sem, awp_seq, Nat.reduceBNe, Nat.reduceBEq, Nat.reduceAdd, Nat.reduceSub, Nat.reduceMul, Nat.reduceLeDiff, Nat.reduceLT, Nat.reduceEqDiff, Nat.reduceBneDiff]
  refine callA_tt (r1of_c 1 (by omega)) ?_
  simp -implicitDefEqProofs only [go_sem, awp_seq, Nat.reduceBNe, Nat.reduceBEq, Nat.reduceAdd, Nat.reduceSub, Nat.reduceMul, Nat.reduceLeDiff, Nat.reduceLT, Nat.reduceEqDiff, Nat.reduceBneDiff]
theorem r3top_c {a : AV} {z : Int} {d : Nat} (ha : DR a z d) : AT 75 [a] (intN (pz z d)) := by
  obtain ⟨t, l, m, rfl, hl, hm, rfl, rfl, h1, h2⟩ := ha
  by_cases h0 : val m = 0
  · have f1 := bits_zero h0
    have e : pz (sg t (val l)) (val m) = 0 := by unfold pz; rw [if_pos h0]
    rw [e]
    refine ACalls.of 3 (fn := Tryz.f75) Tryz.func75 rfl rfl rfl (by kernel_rfl) (by kernel_rfl) (Nat.le_of_ble_eq_true rfl) ?_
    simp -implicitDefEqProofs only [go_sem, awp_seq, Nat.reduceBNe, Nat.reduceBEq, Nat.reduceAdd, Nat.reduceSub, Nat.reduceMul, Nat.reduceLeDiff, Nat.reduceLT, Nat.reduceEqDiff, Nat.reduceBneDiff]
    refine callA_tt (r1bits_c m hm (by omega)) ?_
    simp -implicitDefEqProofs only [f1, go_sem, awp_seq, Nat.reduceBNe, Nat.reduceBEq, Nat.reduceAdd, Nat.reduceSub, Nat.reduceMul, Nat.reduceLeDiff, Nat.reduceLT, Nat.reduceEqDiff, Nat.reduceBneDiff]
    refine callA_tt (r2of_c 0 (by omega) (by omega)) ?_
    simp -implicitDefEqProofs only [go_sem, awp_seq, Nat.reduceBNe, Nat.reduceBEq, Nat.reduceAdd, Nat.reduceSub, Nat.reduceMul, Nat.reduceLeDiff, Nat.reduceLT, Nat.reduceEqDiff, Nat.reduceBneDiff]
  · have f1 := bits_pos h0
    have e : pz (sg t (val l)) (val m) = sg t (val l) := by unfold pz; rw [if_neg h0]
    rw [e]
    refine ACalls.of 3 (fn := Tryz.f75) Tryz.func75 rfl rfl rfl (by kernel_rfl) (by kernel_rfl) (Nat.le_of_ble_eq_true rfl) ?_
    simp -implicitDefEqProofs only [go_sem, awp_seq, Nat.reduceBNe, Nat.reduceBEq, Nat.reduceAdd, Nat.reduceSub, Nat.reduceMul, Nat.reduceLeDiff, Nat.reduceLT, Nat.reduceEqDiff, Nat.reduceBneDiff]
    refine callA_tt (r1bits_c m hm (by omega)) ?_
    simp -implicitDefEqProofs only [f1, go_sem, awp_seq, Nat.reduceBNe, Nat.reduceBEq, Nat.reduceAdd, Nat.reduceSub, Nat.reduceMul, Nat.reduceLeDiff, Nat.reduceLT, Nat.reduceEqDiff, Nat.reduceBneDiff]
    refine callA_tt (r2norm_c ⟨t, l, rfl, hl, rfl, by omega⟩) ?_
    simp -implicitDefEqProofs only [go_sem, awp_seq, Nat.reduceBNe, Nat.reduceBEq, Nat.reduceAdd, Nat.reduceSub, Nat.reduceMul, Nat.reduceLeDiff, Nat.reduceLT, Nat.reduceEqDiff, Nat.reduceBneDiff]
theorem r3low_c {a : AV} {z : Int} {d : Nat} (ha : DR a z d) : AT 77 [a] (natN (pd d)) := by
  obtain ⟨t, l, m, rfl, hl, hm, rfl, rfl, h1, h2⟩ := ha
  by_cases h0 : val m = 0
  · have f1 := bits_zero h0
    have e : pd (val m) = 1 := by unfold pd; rw [if_pos h0]
    rw [e]
    refine ACalls.of 3 (fn := Tryz.f77) Tryz.func77 rfl rfl rfl (by kernel_rfl) (by kernel_rfl) (Nat.le_of_ble_eq_true rfl) ?_
    simp -implicitDefEqProofs only [go_sem, awp_seq, Nat.reduceBNe, Nat.reduceBEq, Nat.reduceAdd, Nat.reduceSub, Nat.reduceMul, Nat.reduceLeDiff, Nat.reduceLT, Nat.reduceEqDiff, Nat.reduceBneDiff]
    refine callA_tt (r1bits_c m hm (by omega)) ?_
    simp -implicitDefEqProofs only [f1, go_sem, awp_seq, Nat.reduceBNe, Nat.reduceBEq, Nat.reduceAdd, Nat.reduceSub, Nat.reduceMul, Nat.reduceLeDiff, Nat.reduceLT, Nat.reduceEqDiff, Nat.reduceBneDiff]
    refine callA_tt (r1of_c 1 (by omega)) ?_
    simp -implicitDefEqProofs only [go_sem, awp_seq, Nat.reduceBNe, Nat.reduceBEq, Nat.reduceAdd, Nat.reduceSub, Nat.reduceMul, Nat.reduceLeDiff, Nat.reduceLT, Nat.reduceEqDiff, Nat.reduceBneDiff]
  · have f1 := bits_pos h0
    have e : pd (val m) = val m := by unfold pd; rw [if_neg h0]
    rw [e]
    refine ACalls.of 3 (fn := Tryz.f77) Tryz.func77 rfl rfl rfl (by kernel_rfl) (by kernel_rfl) (Nat.le_of_ble_eq_true rfl) ?_
    simp -implicitDefEqProofs only [go_sem, awp_seq, Nat.reduceBNe, Nat.reduceBEq, Nat.reduceAdd, Nat.reduceSub, Nat.reduceMul, Nat.reduceLeDiff, Nat.reduceLT, Nat.reduceEqDiff, Nat.reduceBneDiff]
    refine callA_tt (r1bits_c m hm (by omega)) ?_
    simp -implicitDefEqProofs only [f1, go_sem, awp_seq, Nat.reduceBNe, Nat.reduceBEq, Nat.reduceAdd, Nat.reduceSub, Nat.reduceMul, Nat.reduceLeDiff, Nat.reduceLT, Nat.reduceEqDiff, Nat.reduceBneDiff]
    refine callA_tt (r1norm_c m hm (by omega)) ?_
    simp -implicitDefEqProofs only [go_sem, awp_seq, Nat.reduceBNe, Nat.reduceBEq, Nat.reduceAdd, Nat.reduceSub, Nat.reduceMul, Nat.reduceLeDiff, Nat.reduceLT, Nat.reduceEqDiff, Nat.reduceBneDiff]
theorem r3reduce_c {a b : AV} {z : Int} {d : Nat} (ha : DI a z) (hb : DN b d) (hd0 : 0 < d) : AT 73 [a, b] (ratN (rn z d) (rd z d)) := by
  have s1 := r2norm_c ha
  have n1 := ha.n1
  have n2 := hb.n1
  obtain ⟨t, l, rfl, hl, hz, h1⟩ := ha
  obtain ⟨m, rfl, hm, rfl, h2⟩ := hb
  have hg : 0 < Nat.gcd z.natAbs (val m) := Nat.gcd_pos_of_pos_right _ hd0
  have ng : nlen (Nat.gcd z.natAbs (val m)) ≤ nlen (val m) := nlen_mono (Nat.le_of_dvd hd0 (Nat.gcd_dvd_right _ _))
  by_cases h0 : z.natAbs = 0
  · have f1 := bits_zero h0
    have z0 : z = 0 := by omega
    have e1 : rn z (val m) = 0 := by rw [z0]; simp [rn, sg]
    have e2 : rd z (val m) = 1 := by rw [z0]; simp only [rd, Int.natAbs_zero, Nat.gcd_zero_left]; exact Nat.div_self hd0
    rw [e1, e2]
    refine ACalls.of 11 (fn := Tryz.f73) Tryz.func73 rfl rfl rfl (by kernel_rfl) (by kernel_rfl) (Nat.le_of_ble_eq_true rfl) ?_
    simp -implicitDefEqProofs only [go_sem, awp_seq, Nat.reduceBNe, Nat.reduceBEq, Nat.reduceAdd, Nat.reduceSub, Nat.reduceMul, Nat.reduceLeDiff, Nat.reduceLT, Nat.reduceEqDiff, Nat.reduceBneDiff]
    refine callA_tt s1 ?_
    simp -implicitDefEqProofs only [intN, go_sem, awp_seq, Nat.reduceBNe, Nat.reduceBEq, Nat.reduceAdd, Nat.reduceSub, Nat.reduceMul, Nat.reduceLeDiff, Nat.reduceLT, Nat.reduceEqDiff, Nat.reduceBneDiff]
    refine callA_tt (r1bits_c _ (dig_limbs z.natAbs) (by show nlen _ < _; omega)) ?_
    simp -implicitDefEqProofs only [val_limbs, f1, go_sem, awp_seq, Nat.reduceBNe, Nat.reduceBEq, Nat.reduceAdd, Nat.reduceSub, Nat.reduceMul, Nat.reduceLeDiff, Nat.reduceLT, Nat.reduceEqDiff, Nat.reduceBneDiff]
    refine callA_tt r3zero_c ?_
    simp -implicitDefEqProofs only [go_sem, awp_seq, Nat.reduceBNe, Nat.reduceBEq, Nat.reduceAdd, Nat.reduceSub, Nat.reduceMul, Nat.reduceLeDiff, Nat.reduceLT, Nat.reduceEqDiff, Nat.reduceBneDiff]
  · have f1 := bits_pos h0
    have e1 : sg (decide (z < 0)) (z.natAbs / Nat.gcd z.natAbs (val m)) = rn z (val m) := rfl
    have e2 : val m / Nat.gcd z.natAbs (val m) = rd z (val m) := rfl
    have nq := nlen_div z.natAbs (Nat.gcd z.natAbs (val m))
    refine ACalls.of 11 (fn := Tryz.f73) Tryz.func73 rfl rfl rfl (by kernel_rfl) (by kernel_rfl) (Nat.le_of_ble_eq_true rfl) ?_
    simp -implicitDefEqProofs only [go_sem, awp_seq, Nat.reduceBNe, Nat.reduceBEq, Nat.reduceAdd, Nat.reduceSub, Nat.reduceMul, Nat.reduceLeDiff, Nat.reduceLT, Nat.reduceEqDiff, Nat.reduceBneDiff]
    refine callA_tt s1 ?_
    simp -implicitDefEqProofs only [intN, go_sem, awp_seq, Nat.reduceBNe, Nat.reduceBEq, Nat.reduceAdd, Nat.reduceSub, Nat.reduceMul, Nat.reduceLeDiff, Nat.reduceLT, Nat.reduceEqDiff, Nat.reduceBneDiff]
    refine callA_tt (r1bits_c _ (dig_limbs z.natAbs) (by show nlen _ < _; omega)) ?_
    simp -implicitDefEqProofs only [val_limbs, f1, go_sem, awp_seq, Nat.reduceBNe, Nat.reduceBEq, Nat.reduceAdd, Nat.reduceSub, Nat.reduceMul, Nat.reduceLeDiff, Nat.reduceLT, Nat.reduceEqDiff, Nat.reduceBneDiff]
    refine callA_tt (r1gcd_c _ _ (dig_limbs z.natAbs) hm (by show nlen _ < _; omega) (by omega)) ?_
    simp -implicitDefEqProofs only [val_limbs, natN, go_sem, awp_seq, Nat.reduceBNe, Nat.reduceBEq, Nat.reduceAdd, Nat.reduceSub, Nat.reduceMul, Nat.reduceLeDiff, Nat.reduceLT, Nat.reduceEqDiff, Nat.reduceBneDiff]
    refine callA_tt (r1div_c _ _ (dig_limbs z.natAbs) (dig_limbs _) (by show nlen _ < _; omega) (by show nlen _ < _; omega) (by rw [val_limbs]; exact hg)) ?_
    simp -implicitDefEqProofs only [val_limbs, natN, go_sem, awp_seq, Nat.reduceBNe, Nat.reduceBEq, Nat.reduceAdd, Nat.reduceSub, Nat.reduceMul, Nat.reduceLeDiff, Nat.reduceLT, Nat.reduceEqDiff, Nat.reduceBneDiff]
    refine callA_tt (r1div_c _ _ hm (dig_limbs _) (by omega) (by show nlen _ < _; omega) (by rw [val_limbs]; exact hg)) ?_
    simp -implicitDefEqProofs only [val_limbs, natN, go_sem, awp_seq, Nat.reduceBNe, Nat.reduceBEq, Nat.reduceAdd, Nat.reduceSub, Nat.reduceMul, Nat.reduceLeDiff, Nat.reduceLT, Nat.reduceEqDiff, Nat.reduceBneDiff]
    refine callA_tt (r2make_c (decide (z < 0)) (dN _ (by omega))) ?_
    simp -implicitDefEqProofs only [e1, e2, intN, go_sem, awp_seq, Nat.reduceBNe, Nat.reduceBEq, Nat.reduceAdd, Nat.reduceSub, Nat.reduceMul, Nat.reduceLeDiff, Nat.reduceLT, Nat.reduceEqDiff, Nat.reduceBneDiff]
theorem r3sign_c {a : AV} {z : Int} {d : Nat} (ha : DR a z d) : AT 82 [a] (i64 (sgnI (pz z d))) := by
  have s1 := r3top_c ha
  have n1 := ha.n1
  have n2 := nlen_pz' z d
  obtain ⟨t, l, m, rfl, _⟩ := ha
  refine ACalls.of 3 (fn := Tryz.f82) Tryz.func82 rfl rfl rfl (by kernel_rfl) (by kernel_rfl) (Nat.le_of_ble_eq_true rfl) ?_
  simp -implicitDefEqProofs only [go_sem, awp_seq, Nat.reduceBNe, Nat.reduceBEq, Nat.reduceAdd, Nat.reduceSub, Nat.reduceMul, Nat.reduceLeDiff, Nat.reduceLT, Nat.reduceEqDiff, Nat.reduceBneDiff]
  refine callA_tt s1 ?_
  simp -implicitDefEqProofs only [intN, go_sem, awp_seq, Nat.reduceBNe, Nat.reduceBEq, Nat.reduceAdd, Nat.reduceSub, Nat.reduceMul, Nat.reduceLeDiff, Nat.reduceLT, Nat.reduceEqDiff, Nat.reduceBneDiff]
  refine callA_tt (r2sign_c (dI (pz z d) (by omega))) ?_
  simp -implicitDefEqProofs only [go_sem, awp_seq, Nat.reduceBNe, Nat.reduceBEq, Nat.reduceAdd, Nat.reduceSub, Nat.reduceMul, Nat.reduceLeDiff, Nat.reduceLT, Nat.reduceEqDiff, Nat.reduceBneDiff]
theorem nlen_mulZ (a : Int) (b : Nat) : nlen (a * (b : Int)).natAbs ≤ nlen a.natAbs + nlen b := by
  rw [Int.natAbs_mul, Int.natAbs_natCast]
  exact nlen_mul _ _
theorem r3cmp_c {a b : AV} {z y : Int} {d f : Nat} (ha : DR a z d) (hb : DR b y f) : AT 83 [a, b] (i64 (cmpZ (pz z d * (pd f : Int)) (pz y f * (pd d : Int)))) := by
  have t1 := r3top_c ha
  have t2 := r3top_c hb
  have l1 := r3low_c ha
  have l2 := r3low_c hb
  have n1 := ha.n1
  have n2 := hb.n1
  have p1 := nlen_pz' z d
  have p2 := nlen_pz' y f
  have q1 := nlen_pd' d
  have q2 := nlen_pd' f
  have m1 := nlen_mulZ (pz z d) (pd f)
  have m2 := nlen_mulZ (pz y f) (pd d)
  obtain ⟨_, _, _, rfl, _⟩ := ha
  obtain ⟨_, _, _, rfl, _⟩ := hb
  refine ACalls.of 7 (fn := Tryz.f83) Tryz.func83 rfl rfl rfl (by kernel_rfl) (by kernel_rfl) (Nat.le_of_ble_eq_true rfl) ?_
  simp -implicitDefEqProofs only [go_sem, awp_seq, Nat.reduceBNe, Nat.reduceBEq, Nat.reduceAdd, Nat.reduceSub, Nat.reduceMul, Nat.reduceLeDiff, Nat.reduceLT, Nat.reduceEqDiff, Nat.reduceBneDiff]
  refine callA_tt t1 ?_
  simp -implicitDefEqProofs only [go_sem, awp_seq, Nat.reduceBNe, Nat.reduceBEq, Nat.reduceAdd, Nat.reduceSub, Nat.reduceMul, Nat.reduceLeDiff, Nat.reduceLT, Nat.reduceEqDiff, Nat.reduceBneDiff]
  refine callA_tt l2 ?_
  simp -implicitDefEqProofs only [go_sem, awp_seq, Nat.reduceBNe, Nat.reduceBEq, Nat.reduceAdd, Nat.reduceSub, Nat.reduceMul, Nat.reduceLeDiff, Nat.reduceLT, Nat.reduceEqDiff, Nat.reduceBneDiff]
  refine callA_tt (r2make_c false (dN _ (by omega))) ?_
  simp -implicitDefEqProofs only [sg_false, go_sem, awp_seq, Nat.reduceBNe, Nat.reduceBEq, Nat.reduceAdd, Nat.reduceSub, Nat.reduceMul, Nat.reduceLeDiff, Nat.reduceLT, Nat.reduceEqDiff, Nat.reduceBneDiff]
  refine callA_tt (r2mul_c (dI (pz z d) (by omega)) (dI (pd f : Int) (by rw [Int.natAbs_natCast]; omega)) (by rw [Int.natAbs_natCast]; omega)) ?_
  simp -implicitDefEqProofs only [go_sem, awp_seq, Nat.reduceBNe, Nat.reduceBEq, Nat.reduceAdd, Nat.reduceSub, Nat.reduceMul, Nat.reduceLeDiff, Nat.reduceLT, Nat.reduceEqDiff, Nat.reduceBneDiff]
  refine callA_tt t2 ?_
  simp -implicitDefEqProofs only [go_sem, awp_seq, Nat.reduceBNe, Nat.reduceBEq, Nat.reduceAdd, Nat.reduceSub, Nat.reduceMul, Nat.reduceLeDiff, Nat.reduceLT, Nat.reduceEqDiff, Nat.reduceBneDiff]
  refine callA_tt l1 ?_
  simp -implicitDefEqProofs only [go_sem, awp_seq, Nat.reduceBNe, Nat.reduceBEq, Nat.reduceAdd, Nat.reduceSub, Nat.reduceMul, Nat.reduceLeDiff, Nat.reduceLT, Nat.reduceEqDiff, Nat.reduceBneDiff]
  refine callA_tt (r2make_c false (dN _ (by omega))) ?_
  simp -implicitDefEqProofs only [sg_false, go_sem, awp_seq, Nat.reduceBNe, Nat.reduceBEq, Nat.reduceAdd, Nat.reduceSub, Nat.reduceMul, Nat.reduceLeDiff, Nat.reduceLT, Nat.reduceEqDiff, Nat.reduceBneDiff]
  refine callA_tt (r2mul_c (dI (pz y f) (by omega)) (dI (pd d : Int) (by rw [Int.natAbs_natCast]; omega)) (by rw [Int.natAbs_natCast]; omega)) ?_
  simp -implicitDefEqProofs only [go_sem, awp_seq, Nat.reduceBNe, Nat.reduceBEq, Nat.reduceAdd, Nat.reduceSub, Nat.reduceMul, Nat.reduceLeDiff, Nat.reduceLT, Nat.reduceEqDiff, Nat.reduceBneDiff]
  refine callA_tt (r2cmp_c (dI _ (by omega)) (dI _ (by omega))) ?_
  simp -implicitDefEqProofs only [go_sem, awp_seq, Nat.reduceBNe, Nat.reduceBEq, Nat.reduceAdd, Nat.reduceSub, Nat.reduceMul, Nat.reduceLeDiff, Nat.reduceLT, Nat.reduceEqDiff, Nat.reduceBneDiff]
theorem r3add_c {a b : AV} {z y : Int} {d f : Nat} (ha : DR a z d) (hb : DR b y f) : AT 84 [a, b] (ratN (rn (pz z d * (pd f : Int) + pz y f * (pd d : Int)) (pd d * pd f)) (rd (pz z d * (pd f : Int) + pz y f * (pd d : Int)) (pd d * pd f))) := by
  have t1 := r3top_c ha
  have t2 := r3top_c hb
  have l1 := r3low_c ha
  have l2 := r3low_c hb
  have n1 := ha.n1
  have n2 := hb.n1
  have p1 := nlen_pz' z d
  have p2 := nlen_pz' y f
  have q1 := nlen_pd' d
  have q2 := nlen_pd' f
  have m1 := nlen_mulZ (pz z d) (pd f)
  have m2 := nlen_mulZ (pz y f) (pd d)
  have m3 := nlen_mul (pd d) (pd f)
  have m4 : nlen (pz z d * (pd f : Int) + pz y f * (pd d : Int)).natAbs ≤ max (nlen (pz z d * (pd f : Int)).natAbs) (nlen (pz y f * (pd d : Int)).natAbs) + 1 := Nat.le_trans (nlen_mono (Int.natAbs_add_le _ _)) (nlen_add _ _)
  have h0 : 0 < pd d * pd f := Nat.mul_pos (pd_pos _) (pd_pos _)
  obtain ⟨_, _, _, rfl, _⟩ := ha
  obtain ⟨_, _, _, rfl, _⟩ := hb
  refine ACalls.of 7 (fn := Tryz.f84) Tryz.func84 rfl rfl rfl (by kernel_rfl) (by kernel_rfl) (Nat.le_of_ble_eq_true rfl) ?_
  simp -implicitDefEqProofs only [go_sem, awp_seq, Nat.reduceBNe, Nat.reduceBEq, Nat.reduceAdd, Nat.reduceSub, Nat.reduceMul, Nat.reduceLeDiff, Nat.reduceLT, Nat.reduceEqDiff, Nat.reduceBneDiff]
  refine callA_tt t1 ?_
  simp -implicitDefEqProofs only [go_sem, awp_seq, Nat.reduceBNe, Nat.reduceBEq, Nat.reduceAdd, Nat.reduceSub, Nat.reduceMul, Nat.reduceLeDiff, Nat.reduceLT, Nat.reduceEqDiff, Nat.reduceBneDiff]
  refine callA_tt l2 ?_
  simp -implicitDefEqProofs only [go_sem, awp_seq, Nat.reduceBNe, Nat.reduceBEq, Nat.reduceAdd, Nat.reduceSub, Nat.reduceMul, Nat.reduceLeDiff, Nat.reduceLT, Nat.reduceEqDiff, Nat.reduceBneDiff]
  refine callA_tt (r2make_c false (dN _ (by omega))) ?_
  simp -implicitDefEqProofs only [sg_false, go_sem, awp_seq, Nat.reduceBNe, Nat.reduceBEq, Nat.reduceAdd, Nat.reduceSub, Nat.reduceMul, Nat.reduceLeDiff, Nat.reduceLT, Nat.reduceEqDiff, Nat.reduceBneDiff]
  refine callA_tt (r2mul_c (dI (pz z d) (by omega)) (dI (pd f : Int) (by rw [Int.natAbs_natCast]; omega)) (by rw [Int.natAbs_natCast]; omega)) ?_
  simp -implicitDefEqProofs only [go_sem, awp_seq, Nat.reduceBNe, Nat.reduceBEq, Nat.reduceAdd, Nat.reduceSub, Nat.reduceMul, Nat.reduceLeDiff, Nat.reduceLT, Nat.reduceEqDiff, Nat.reduceBneDiff]
  refine callA_tt t2 ?_
  simp -implicitDefEqProofs only [go_sem, awp_seq, Nat.reduceBNe, Nat.reduceBEq, Nat.reduceAdd, Nat.reduceSub, Nat.reduceMul, Nat.reduceLeDiff, Nat.reduceLT, Nat.reduceEqDiff, Nat.reduceBneDiff]
  refine callA_tt l1 ?_
  simp -implicitDefEqProofs only [go_sem, awp_seq, Nat.reduceBNe, Nat.reduceBEq, Nat.reduceAdd, Nat.reduceSub, Nat.reduceMul, Nat.reduceLeDiff, Nat.reduceLT, Nat.reduceEqDiff, Nat.reduceBneDiff]
  refine callA_tt (r2make_c false (dN _ (by omega))) ?_
  simp -implicitDefEqProofs only [sg_false, go_sem, awp_seq, Nat.reduceBNe, Nat.reduceBEq, Nat.reduceAdd, Nat.reduceSub, Nat.reduceMul, Nat.reduceLeDiff, Nat.reduceLT, Nat.reduceEqDiff, Nat.reduceBneDiff]
  refine callA_tt (r2mul_c (dI (pz y f) (by omega)) (dI (pd d : Int) (by rw [Int.natAbs_natCast]; omega)) (by rw [Int.natAbs_natCast]; omega)) ?_
  simp -implicitDefEqProofs only [go_sem, awp_seq, Nat.reduceBNe, Nat.reduceBEq, Nat.reduceAdd, Nat.reduceSub, Nat.reduceMul, Nat.reduceLeDiff, Nat.reduceLT, Nat.reduceEqDiff, Nat.reduceBneDiff]
  refine callA_tt (r2add_c (dI _ (by omega)) (dI _ (by omega)) (by omega)) ?_
  simp -implicitDefEqProofs only [go_sem, awp_seq, Nat.reduceBNe, Nat.reduceBEq, Nat.reduceAdd, Nat.reduceSub, Nat.reduceMul, Nat.reduceLeDiff, Nat.reduceLT, Nat.reduceEqDiff, Nat.reduceBneDiff]
  refine callA_tt l1 ?_
  simp -implicitDefEqProofs only [go_sem, awp_seq, Nat.reduceBNe, Nat.reduceBEq, Nat.reduceAdd, Nat.reduceSub, Nat.reduceMul, Nat.reduceLeDiff, Nat.reduceLT, Nat.reduceEqDiff, Nat.reduceBneDiff]
  refine callA_tt l2 ?_
  simp -implicitDefEqProofs only [go_sem, awp_seq, Nat.reduceBNe, Nat.reduceBEq, Nat.reduceAdd, Nat.reduceSub, Nat.reduceMul, Nat.reduceLeDiff, Nat.reduceLT, Nat.reduceEqDiff, Nat.reduceBneDiff]
  refine callA_tt (r1mul_c _ _ (dig_limbs _) (dig_limbs _) (by show nlen _ + nlen _ < _; omega)) ?_
  simp -implicitDefEqProofs only [val_limbs, go_sem, awp_seq, Nat.reduceBNe, Nat.reduceBEq, Nat.reduceAdd, Nat.reduceSub, Nat.reduceMul, Nat.reduceLeDiff, Nat.reduceLT, Nat.reduceEqDiff, Nat.reduceBneDiff]
  refine callA_tt (r3reduce_c (dI _ (by omega)) (dN _ (by omega)) h0) ?_
  simp -implicitDefEqProofs only [go_sem, awp_seq, Nat.reduceBNe, Nat.reduceBEq, Nat.reduceAdd, Nat.reduceSub, Nat.reduceMul, Nat.reduceLeDiff, Nat.reduceLT, Nat.reduceEqDiff, Nat.reduceBneDiff]
theorem r3mul_c {a b : AV} {z y : Int} {d f : Nat} (ha : DR a z d) (hb : DR b y f) : AT 41 [a, b] (ratN (rn (pz z d * pz y f) (pd d * pd f)) (rd (pz z d * pz y f) (pd d * pd f))) := by
  have t1 := r3top_c ha
  have t2 := r3top_c hb
  have l1 := r3low_c ha
  have l2 := r3low_c hb
  have n1 := ha.n1
  have n2 := hb.n1
  have p1 := nlen_pz' z d
  have p2 := nlen_pz' y f
  have q1 := nlen_pd' d
  have q2 := nlen_pd' f
  have m1 : nlen (pz z d * pz y f).natAbs ≤ nlen (pz z d).natAbs + nlen (pz y f).natAbs := by rw [Int.natAbs_mul]; exact nlen_mul _ _
  have m3 := nlen_mul (pd d) (pd f)
  have h0 : 0 < pd d * pd f := Nat.mul_pos (pd_pos _) (pd_pos _)
  obtain ⟨_, _, _, rfl, _⟩ := ha
  obtain ⟨_, _, _, rfl, _⟩ := hb
  refine ACalls.of 5 (fn := Tryz.f41) Tryz.func41 rfl rfl rfl (by kernel_rfl) (by kernel_rfl) (Nat.le_of_ble_eq_true rfl) ?_
  simp -implicitDefEqProofs only [go_sem, awp_seq, Nat.reduceBNe, Nat.reduceBEq, Nat.reduceAdd, Nat.reduceSub, Nat.reduceMul, Nat.reduceLeDiff, Nat.reduceLT, Nat.reduceEqDiff, Nat.reduceBneDiff]
  refine callA_tt t1 ?_
  simp -implicitDefEqProofs only [go_sem, awp_seq, Nat.reduceBNe, Nat.reduceBEq, Nat.reduceAdd, Nat.reduceSub, Nat.reduceMul, Nat.reduceLeDiff, Nat.reduceLT, Nat.reduceEqDiff, Nat.reduceBneDiff]
  refine callA_tt t2 ?_
  simp -implicitDefEqProofs only [go_sem, awp_seq, Nat.reduceBNe, Nat.reduceBEq, Nat.reduceAdd, Nat.reduceSub, Nat.reduceMul, Nat.reduceLeDiff, Nat.reduceLT, Nat.reduceEqDiff, Nat.reduceBneDiff]
  refine callA_tt (r2mul_c (dI (pz z d) (by omega)) (dI (pz y f) (by omega)) (by omega)) ?_
  simp -implicitDefEqProofs only [go_sem, awp_seq, Nat.reduceBNe, Nat.reduceBEq, Nat.reduceAdd, Nat.reduceSub, Nat.reduceMul, Nat.reduceLeDiff, Nat.reduceLT, Nat.reduceEqDiff, Nat.reduceBneDiff]
  refine callA_tt l1 ?_
  simp -implicitDefEqProofs only [go_sem, awp_seq, Nat.reduceBNe, Nat.reduceBEq, Nat.reduceAdd, Nat.reduceSub, Nat.reduceMul, Nat.reduceLeDiff, Nat.reduceLT, Nat.reduceEqDiff, Nat.reduceBneDiff]
  refine callA_tt l2 ?_
  simp -implicitDefEqProofs only [go_sem, awp_seq, Nat.reduceBNe, Nat.reduceBEq, Nat.reduceAdd, Nat.reduceSub, Nat.reduceMul, Nat.reduceLeDiff, Nat.reduceLT, Nat.reduceEqDiff, Nat.reduceBneDiff]
  refine callA_tt (r1mul_c _ _ (dig_limbs _) (dig_limbs _) (by show nlen _ + nlen _ < _; omega)) ?_
  simp -implicitDefEqProofs only [val_limbs, go_sem, awp_seq, Nat.reduceBNe, Nat.reduceBEq, Nat.reduceAdd, Nat.reduceSub, Nat.reduceMul, Nat.reduceLeDiff, Nat.reduceLT, Nat.reduceEqDiff, Nat.reduceBneDiff]
  refine callA_tt (r3reduce_c (dI _ (by omega)) (dN _ (by omega)) h0) ?_
  simp -implicitDefEqProofs only [go_sem, awp_seq, Nat.reduceBNe, Nat.reduceBEq, Nat.reduceAdd, Nat.reduceSub, Nat.reduceMul, Nat.reduceLeDiff, Nat.reduceLT, Nat.reduceEqDiff, Nat.reduceBneDiff]
theorem r3neg_c {a : AV} {z : Int} {d : Nat} (ha : DR a z d) : AT 85 [a] (ratN (rn (-pz z d) (pd d)) (rd (-pz z d) (pd d))) := by
  have t1 := r3top_c ha
  have l1 := r3low_c ha
  have n1 := ha.n1
  have p1 := nlen_pz' z d
  have q1 := nlen_pd' d
  have h0 := pd_pos d
  obtain ⟨_, _, _, rfl, _⟩ := ha
  refine ACalls.of 3 (fn := Tryz.f85) Tryz.func85 rfl rfl rfl (by kernel_rfl) (by kernel_rfl) (Nat.le_of_ble_eq_true rfl) ?_
  simp -implicitDefEqProofs only [go_sem, awp_seq, Nat.reduceBNe, Nat.reduceBEq, Nat.reduceAdd, Nat.reduceSub, Nat.reduceMul, Nat.reduceLeDiff, Nat.reduceLT, Nat.reduceEqDiff, Nat.reduceBneDiff]
  refine callA_tt t1 ?_
  simp -implicitDefEqProofs only [go_sem, awp_seq, Nat.reduceBNe, Nat.reduceBEq, Nat.reduceAdd, Nat.reduceSub, Nat.reduceMul, Nat.reduceLeDiff, Nat.reduceLT, Nat.reduceEqDiff, Nat.reduceBneDiff]
  refine callA_tt (r2neg_c (dI (pz z d) (by omega))) ?_
  simp -implicitDefEqProofs only [go_sem, awp_seq, Nat.reduceBNe, Nat.reduceBEq, Nat.reduceAdd, Nat.reduceSub, Nat.reduceMul, Nat.reduceLeDiff, Nat.reduceLT, Nat.reduceEqDiff, Nat.reduceBneDiff]
  refine callA_tt l1 ?_
  simp -implicitDefEqProofs only [go_sem, awp_seq, Nat.reduceBNe, Nat.reduceBEq, Nat.reduceAdd, Nat.reduceSub, Nat.reduceMul, Nat.reduceLeDiff, Nat.reduceLT, Nat.reduceEqDiff, Nat.reduceBneDiff]
  refine callA_tt (r3reduce_c (dI (-pz z d) (by rw [Int.natAbs_neg]; omega)) (dN _ (by omega)) h0) ?_
  simp -implicitDefEqProofs only [go_sem, awp_seq, Nat.reduceBNe, Nat.reduceBEq, Nat.reduceAdd, Nat.reduceSub, Nat.reduceMul, Nat.reduceLeDiff, Nat.reduceLT, Nat.reduceEqDiff, Nat.reduceBneDiff]
theorem r3floor_c {a : AV} {z : Int} {d : Nat} (ha : DR a z d) (hl : nlen z.natAbs + nlen d + 20 < 100000000) : AT 45 [a] (intN (pz z d / (pd d : Int))) := by
  have t1 := r3top_c ha
  have l1 := r3low_c ha
  have n1 := ha.n1
  have p1 := nlen_pz' z d
  have q1 := nlen_pd' d
  have h0 := pd_pos d
  obtain ⟨_, _, _, rfl, _⟩ := ha
  refine ACalls.of 4 (fn := Tryz.f45) Tryz.func45 rfl rfl rfl (by kernel_rfl) (by kernel_rfl) (Nat.le_of_ble_eq_true rfl) ?_
  simp -implicitDefEqProofs only [go_sem, awp_seq, Nat.reduceBNe, Nat.reduceBEq, Nat.reduceAdd, Nat.reduceSub, Nat.reduceMul, Nat.reduceLeDiff, Nat.reduceLT, Nat.reduceEqDiff, Nat.reduceBneDiff]
  refine callA_tt t1 ?_
  simp -implicitDefEqProofs only [go_sem, awp_seq, Nat.reduceBNe, Nat.reduceBEq, Nat.reduceAdd, Nat.reduceSub, Nat.reduceMul, Nat.reduceLeDiff, Nat.reduceLT, Nat.reduceEqDiff, Nat.reduceBneDiff]
  refine callA_tt l1 ?_
  simp -implicitDefEqProofs only [go_sem, awp_seq, Nat.reduceBNe, Nat.reduceBEq, Nat.reduceAdd, Nat.reduceSub, Nat.reduceMul, Nat.reduceLeDiff, Nat.reduceLT, Nat.reduceEqDiff, Nat.reduceBneDiff]
  refine callA_tt (r2make_c false (dN _ (by omega))) ?_
  simp -implicitDefEqProofs only [sg_false, go_sem, awp_seq, Nat.reduceBNe, Nat.reduceBEq, Nat.reduceAdd, Nat.reduceSub, Nat.reduceMul, Nat.reduceLeDiff, Nat.reduceLT, Nat.reduceEqDiff, Nat.reduceBneDiff]
  refine callA_tt (r2divmod_c (dI (pz z d) (by omega)) (dI (pd d : Int) (by rw [Int.natAbs_natCast]; omega)) h0 (by omega)) ?_
  simp -implicitDefEqProofs only [go_sem, awp_seq, Nat.reduceBNe, Nat.reduceBEq, Nat.reduceAdd, Nat.reduceSub, Nat.reduceMul, Nat.reduceLeDiff, Nat.reduceLT, Nat.reduceEqDiff, Nat.reduceBneDiff]
theorem r3sub_c {a b : AV} {z y : Int} {d f : Nat} (ha : DR a z d) (hb : DR b y f) (hf : nlen f + 8 < 100000000) : ∃ R G, AT 47 [a, b] (ratN R G) ∧ Eqv R G (pz z d * (pd f : Int) - pz y f * (pd d : Int)) (pd d * pd f) ∧ nlen R.natAbs ≤ nlen z.natAbs + nlen y.natAbs + nlen d + nlen f + 8 ∧ nlen G ≤ nlen d + nlen f + 4 := by
  have s1 := r3neg_c hb
  have n1 := ha.n1
  have n2 := hb.n1
  have p1 := nlen_pz' z d
  have p2 := nlen_pz' y f
  have q1 := nlen_pd' d
  have q2 := nlen_pd' f
  have e1 := Eqv.norm (-pz y f) (pd_pos f)
  have r1 := nlen_rn (-pz y f) (pd f)
  have r2 := nlen_rd (-pz y f) (pd f)
  rw [Int.natAbs_neg] at r1
  generalize rn (-pz y f) (pd f) = u at *
  generalize rd (-pz y f) (pd f) = v at *
  have s2 := r3add_c ha (dR u v (by omega) (by omega))
  rw [pz_pos u e1.dp, pd_id e1.dp] at s2
  have e2 := Eqv.norm (pz z d * (v : Int) + u * (pd d : Int)) (Nat.mul_pos (pd_pos d) e1.dp)
  have e3 := (Eqv.refl (pz z d) (pd_pos d)).add e1
  have e4 := e2.trans e3
  have m1 := nlen_mulZ (pz z d) v
  have m2 := nlen_mulZ u (pd d)
  have m3 := nlen_mul (pd d) v
  have m4 : nlen (pz z d * (v : Int) + u * (pd d : Int)).natAbs ≤ max (nlen (pz z d * (v : Int)).natAbs) (nlen (u * (pd d : Int)).natAbs) + 1 := Nat.le_trans (nlen_mono (Int.natAbs_add_le _ _)) (nlen_add _ _)
  have r3 := nlen_rn (pz z d * (v : Int) + u * (pd d : Int)) (pd d * v)
  have r4 := nlen_rd (pz z d * (v : Int) + u * (pd d : Int)) (pd d * v)
  refine ⟨_, _, ?_, by rw [Int.neg_mul, ← Int.sub_eq_add_neg] at e4; exact e4, by omega, by omega⟩
  obtain ⟨_, _, _, rfl, _⟩ := ha
  obtain ⟨_, _, _, rfl, _⟩ := hb
  refine ACalls.of 5 (fn := Tryz.f47) Tryz.func47 rfl rfl rfl (by kernel_rfl) (by kernel_rfl) (Nat.le_of_ble_eq_true rfl) ?_
  simp -implicitDefEqProofs only [go_sem, awp_seq, Nat.reduceBNe, Nat.reduceBEq, Nat.reduceAdd, Nat.reduceSub, Nat.reduceMul, Nat.reduceLeDiff, Nat.reduceLT, Nat.reduceEqDiff, Nat.reduceBneDiff]
  refine callA_tt s1 ?_
  simp -implicitDefEqProofs only [go_sem, awp_seq, Nat.reduceBNe, Nat.reduceBEq, Nat.reduceAdd, Nat.reduceSub, Nat.reduceMul, Nat.reduceLeDiff, Nat.reduceLT, Nat.reduceEqDiff, Nat.reduceBneDiff]
  refine callA_tt s2 ?_
  simp -implicitDefEqProofs only [go_sem, awp_seq, Nat.reduceBNe, Nat.reduceBEq, Nat.reduceAdd, Nat.reduceSub, Nat.reduceMul, Nat.reduceLeDiff, Nat.reduceLT, Nat.reduceEqDiff, Nat.reduceBneDiff]
end Go.Proofs.YtnifjdhjimjihaaGreatDoor
