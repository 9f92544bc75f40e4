import Derived.Test.YtnifjdhjimjihaaGreatDoorWr5
/- The document's integers (examboardref02), by the engine. -/
set_option linter.unusedSimpArgs false
set_option linter.unusedVariables false
namespace Go.Proofs.YtnifjdhjimjihaaGreatDoor
open Go.RowKit Lim

/-- An argument that stands for a number, in limbs, not too long. -/
def DN (a : AV) (n : Nat) : Prop := ∃ l, a = .nat l ∧ Dig l ∧ val l = n ∧ l.length < 1000000000
def DI (a : AV) (z : Int) : Prop := ∃ t l, a = intA t l ∧ Dig l ∧ sg t (val l) = z ∧ l.length < 1000000000
theorem dN (n : Nat) (h : nlen n < 1000000000) : DN (natN n) n := ⟨_, rfl, dig_limbs n, val_limbs n, h⟩
theorem dI (z : Int) (h : nlen z.natAbs < 1000000000) : DI (intN z) z := ⟨_, _, rfl, dig_limbs _, by rw [val_limbs]; exact sg_norm z, h⟩
theorem sg_natAbs (t : Bool) (n : Nat) : (sg t n).natAbs = n := by unfold sg; cases t <;> simp
theorem sg_neg (t : Bool) (n : Nat) : decide (sg t n < 0) = (t && decide (0 < n)) := by unfold sg; cases t <;> simp <;> omega
theorem limbs_len_pos (n : Nat) : decide ((0 : Int) < ((limbs n).length : Nat)) = decide (0 < n) := by
  by_cases h : n = 0
  · subst h; rw [limbs_zero]; rfl
  · have : 0 < (limbs n).length := by
      cases he : limbs n with
      | nil => have := limbs_eq_nil.1 he; omega
      | cons => simp
    have h1 : 0 < n := by omega
    simp [h1]; omega
theorem r2norm_c {a : AV} {z : Int} (ha : DI a z) : AT 44 [a] (intN z) := by
  obtain ⟨t, l, rfl, hd, rfl, hl⟩ := ha
  refine ACalls.of 4 (fn := Tryz.f44) Tryz.func44 rfl rfl rfl (by kernel_rfl) (by kernel_rfl) (Nat.le_of_ble_eq_true rfl) ?_
  simp -implicitDefEqProofs only [go_sem, awp_seq, Nat.reduceBNe, Nat.reduceBEq, Nat.reduceAdd, Nat.reduceSub, Nat.reduceMul, Nat.reduceLeDiff, Nat.reduceLT, Nat.reduceEqDiff, Nat.reduceBneDiff]
  refine callA_tt (r1norm_c l hd (by omega)) ?_
  cases t with
  | false => simp -implicitDefEqProofs only [natN, intN, sg_natAbs, sg_neg, Bool.false_and, go_sem, awp_seq, Nat.reduceBNe, Nat.reduceBEq, Nat.reduceAdd, Nat.reduceSub, Nat.reduceMul, Nat.reduceLeDiff, Nat.reduceLT, Nat.reduceEqDiff, Nat.reduceBneDiff]
  | true => simp -implicitDefEqProofs only [natN, intN, limbs_len_pos, sg_natAbs, sg_neg, Bool.true_and, go_sem, awp_seq, Nat.reduceBNe, Nat.reduceBEq, Nat.reduceAdd, Nat.reduceSub, Nat.reduceMul, Nat.reduceLeDiff, Nat.reduceLT, Nat.reduceEqDiff, Nat.reduceBneDiff]
theorem r2make_c (t : Bool) {a : AV} {n : Nat} (ha : DN a n) : AT 81 [boo t, a] (intN (sg t n)) := by
  obtain ⟨l, rfl, hd, rfl, hl⟩ := ha
  refine ACalls.of 5 (fn := Tryz.f81) Tryz.func81 rfl rfl rfl (by kernel_rfl) (by kernel_rfl) (Nat.le_of_ble_eq_true rfl) ?_
  simp -implicitDefEqProofs only [go_sem, awp_seq, Nat.reduceBNe, Nat.reduceBEq, Nat.reduceAdd, Nat.reduceSub, Nat.reduceMul, Nat.reduceLeDiff, Nat.reduceLT, Nat.reduceEqDiff, Nat.reduceBneDiff]
  refine callA_tt (r2norm_c ⟨t, l, rfl, hd, rfl, hl⟩) ?_
  simp -implicitDefEqProofs only [go_sem, awp_seq, Nat.reduceBNe, Nat.reduceBEq, Nat.reduceAdd, Nat.reduceSub, Nat.reduceMul, Nat.reduceLeDiff, Nat.reduceLT, Nat.reduceEqDiff, Nat.reduceBneDiff]
theorem r2neg_c {a : AV} {z : Int} (ha : DI a z) : AT 120 [a] (intN (-z)) := by
  obtain ⟨t, l, rfl, hd, rfl, hl⟩ := ha
  have e : sg (!t) (val l) = -(sg t (val l)) := by unfold sg; cases t <;> simp
  refine ACalls.of 3 (fn := Tryz.f120) Tryz.func120 rfl rfl rfl (by kernel_rfl) (by kernel_rfl) (Nat.le_of_ble_eq_true rfl) ?_
  simp -implicitDefEqProofs only [go_sem, awp_seq, Nat.reduceBNe, Nat.reduceBEq, Nat.reduceAdd, Nat.reduceSub, Nat.reduceMul, Nat.reduceLeDiff, Nat.reduceLT, Nat.reduceEqDiff, Nat.reduceBneDiff]
  refine callA_tt (r2make_c (!t) ⟨l, rfl, hd, rfl, hl⟩) ?_
  simp -implicitDefEqProofs only [e, go_sem, awp_seq, Nat.reduceBNe, Nat.reduceBEq, Nat.reduceAdd, Nat.reduceSub, Nat.reduceMul, Nat.reduceLeDiff, Nat.reduceLT, Nat.reduceEqDiff, Nat.reduceBneDiff]
theorem r2mul_c {a b : AV} {z y : Int} (ha : DI a z) (hb : DI b y) (hl : nlen z.natAbs + nlen y.natAbs < 1000000000) : AT 74 [a, b] (intN (z * y)) := by
  obtain ⟨t, l, rfl, hd, rfl, hl1⟩ := ha
  obtain ⟨s, m, rfl, hd2, rfl, hl2⟩ := hb
  have e : sg (!(t == s)) (val l * val m) = sg t (val l) * sg s (val m) := by unfold sg; cases t <;> cases s <;> simp [Int.neg_mul, Int.mul_neg]
  rw [sg_natAbs, sg_natAbs] at hl
  have h1 := nlen_mul (val l) (val m)
  refine ACalls.of 5 (fn := Tryz.f74) Tryz.func74 rfl rfl rfl (by kernel_rfl) (by kernel_rfl) (Nat.le_of_ble_eq_true rfl) ?_
  simp -implicitDefEqProofs only [go_sem, awp_seq, Nat.reduceBNe, Nat.reduceBEq, Nat.reduceAdd, Nat.reduceSub, Nat.reduceMul, Nat.reduceLeDiff, Nat.reduceLT, Nat.reduceEqDiff, Nat.reduceBneDiff]
  refine callA_tt (r1mul_c l m hd hd2 (by omega)) ?_
  simp -implicitDefEqProofs only [go_sem, awp_seq, Nat.reduceBNe, Nat.reduceBEq, Nat.reduceAdd, Nat.reduceSub, Nat.reduceMul, Nat.reduceLeDiff, Nat.reduceLT, Nat.reduceEqDiff, Nat.reduceBneDiff]
  refine callA_tt (r2make_c _ (dN _ (by omega))) ?_
  simp -implicitDefEqProofs only [e, go_sem, awp_seq, Nat.reduceBNe, Nat.reduceBEq, Nat.reduceAdd, Nat.reduceSub, Nat.reduceMul, Nat.reduceLeDiff, Nat.reduceLT, Nat.reduceEqDiff, Nat.reduceBneDiff]
theorem sgn_sg (t : Bool) (n : Nat) : sgnI (sg t n) = if n = 0 then 0 else if t then -1 else 1 := by
  unfold sgnI sg
  cases t <;> simp <;> split <;> (try split) <;> omega
theorem r2sign_c {a : AV} {z : Int} (ha : DI a z) : AT 118 [a] (i64 (sgnI z)) := by
  have hn := r2norm_c ha
  obtain ⟨t, l, rfl, hd, rfl, hl⟩ := ha
  generalize sg t (val l) = z at *
  refine ACalls.of 4 (fn := Tryz.f118) Tryz.func118 rfl rfl rfl (by kernel_rfl) (by kernel_rfl) (Nat.le_of_ble_eq_true rfl) ?_
  simp -implicitDefEqProofs only [go_sem, awp_seq, Nat.reduceBNe, Nat.reduceBEq, Nat.reduceAdd, Nat.reduceSub, Nat.reduceMul, Nat.reduceLeDiff, Nat.reduceLT, Nat.reduceEqDiff, Nat.reduceBneDiff]
  refine callA_tt hn ?_
  by_cases h0 : z = 0
  · subst h0
    have f1 : (((limbs (0 : Int).natAbs).length : Int) == 0) = true := by rw [show (0 : Int).natAbs = 0 from rfl, limbs_zero]; rfl
    have e : sgnI 0 = 0 := rfl
    simp -implicitDefEqProofs only [intN, f1, e, go_sem, awp_seq, Nat.reduceBNe, Nat.reduceBEq, Nat.reduceAdd, Nat.reduceSub, Nat.reduceMul, Nat.reduceLeDiff, Nat.reduceLT, Nat.reduceEqDiff, Nat.reduceBneDiff]
  · have f1 : (((limbs z.natAbs).length : Int) == 0) = false := by
      rw [beq_eq_false_iff_ne]
      intro hc
      have h1 : nlen z.natAbs = 0 := by have : ((nlen z.natAbs : Nat) : Int) = 0 := hc; omega
      have := nlen_eq_zero.1 h1
      omega
    by_cases h1 : z < 0
    · have e : sgnI z = -1 := by unfold sgnI; rw [if_pos h1]
      simp -implicitDefEqProofs only [intN, f1, e, h1, decide_true, go_sem, awp_seq, Nat.reduceBNe, Nat.reduceBEq, Nat.reduceAdd, Nat.reduceSub, Nat.reduceMul, Nat.reduceLeDiff, Nat.reduceLT, Nat.reduceEqDiff, Nat.reduceBneDiff]
    · have e : sgnI z = 1 := by unfold sgnI; rw [if_neg h1, if_pos (by omega)]
      simp -implicitDefEqProofs only [intN, f1, e, h1, decide_false, go_sem, awp_seq, Nat.reduceBNe, Nat.reduceBEq, Nat.reduceAdd, Nat.reduceSub, Nat.reduceMul, Nat.reduceLeDiff, Nat.reduceLT, Nat.reduceEqDiff, Nat.reduceBneDiff]
theorem r2add_c {a b : AV} {z y : Int} (ha : DI a z) (hb : DI b y) (hl : nlen z.natAbs + nlen y.natAbs + 1 < 1000000000) : AT 48 [a, b] (intN (z + y)) := by
  obtain ⟨t, l, rfl, hd, rfl, hl1⟩ := ha
  obtain ⟨s, m, rfl, hd2, rfl, hl2⟩ := hb
  rw [sg_natAbs, sg_natAbs] at hl
  have h1 := nlen_add (val l) (val m)
  by_cases hts : t = s
  · subst hts
    have f1 : (t == t) = true := by simp
    have e : sg t (val l + val m) = sg t (val l) + sg t (val m) := by unfold sg; cases t <;> simp <;> omega
    refine ACalls.of 9 (fn := Tryz.f48) Tryz.func48 rfl rfl rfl (by kernel_rfl) (by kernel_rfl) (Nat.le_of_ble_eq_true rfl) ?_
    simp -implicitDefEqProofs only [f1, go_sem, awp_seq, Nat.reduceBNe, Nat.reduceBEq, Nat.reduceAdd, Nat.reduceSub, Nat.reduceMul, Nat.reduceLeDiff, Nat.reduceLT, Nat.reduceEqDiff, Nat.reduceBneDiff]
    refine callA_tt (r1add_c l m hd hd2 (by omega) (by omega)) ?_
    simp -implicitDefEqProofs only [go_sem, awp_seq, Nat.reduceBNe, Nat.reduceBEq, Nat.reduceAdd, Nat.reduceSub, Nat.reduceMul, Nat.reduceLeDiff, Nat.reduceLT, Nat.reduceEqDiff, Nat.reduceBneDiff]
    refine callA_tt (r2make_c _ (dN _ (by omega))) ?_
    simp -implicitDefEqProofs only [e, go_sem, awp_seq, Nat.reduceBNe, Nat.reduceBEq, Nat.reduceAdd, Nat.reduceSub, Nat.reduceMul, Nat.reduceLeDiff, Nat.reduceLT, Nat.reduceEqDiff, Nat.reduceBneDiff]
  · have f1 : (t == s) = false := by simpa using hts
    by_cases hle : val m ≤ val l
    · have e : sg t (val l - val m) = sg t (val l) + sg s (val m) := by unfold sg; cases t <;> cases s <;> simp at hts ⊢ <;> omega
      have h2 := nlen_mono (Nat.sub_le (val l) (val m))
      refine ACalls.of 9 (fn := Tryz.f48) Tryz.func48 rfl rfl rfl (by kernel_rfl) (by kernel_rfl) (Nat.le_of_ble_eq_true rfl) ?_
      simp -implicitDefEqProofs only [f1, go_sem, awp_seq, Nat.reduceBNe, Nat.reduceBEq, Nat.reduceAdd, Nat.reduceSub, Nat.reduceMul, Nat.reduceLeDiff, Nat.reduceLT, Nat.reduceEqDiff, Nat.reduceBneDiff]
      refine callA_tt (r1sub_yes l m hd hd2 (by omega) (by omega) hle) ?_
      simp -implicitDefEqProofs only [go_sem, awp_seq, Nat.reduceBNe, Nat.reduceBEq, Nat.reduceAdd, Nat.reduceSub, Nat.reduceMul, Nat.reduceLeDiff, Nat.reduceLT, Nat.reduceEqDiff, Nat.reduceBneDiff]
      refine callA_tt (r2make_c _ (dN _ (by omega))) ?_
      simp -implicitDefEqProofs only [e, go_sem, awp_seq, Nat.reduceBNe, Nat.reduceBEq, Nat.reduceAdd, Nat.reduceSub, Nat.reduceMul, Nat.reduceLeDiff, Nat.reduceLT, Nat.reduceEqDiff, Nat.reduceBneDiff]
    · have e : sg s (val m - val l) = sg t (val l) + sg s (val m) := by unfold sg; cases t <;> cases s <;> simp at hts ⊢ <;> omega
      have h2 := nlen_mono (Nat.sub_le (val m) (val l))
      refine ACalls.of 9 (fn := Tryz.f48) Tryz.func48 rfl rfl rfl (by kernel_rfl) (by kernel_rfl) (Nat.le_of_ble_eq_true rfl) ?_
      simp -implicitDefEqProofs only [f1, go_sem, awp_seq, Nat.reduceBNe, Nat.reduceBEq, Nat.reduceAdd, Nat.reduceSub, Nat.reduceMul, Nat.reduceLeDiff, Nat.reduceLT, Nat.reduceEqDiff, Nat.reduceBneDiff]
      refine callA_tt (r1sub_no l m hd hd2 (by omega) (by omega) (by omega)) ?_
      simp -implicitDefEqProofs only [go_sem, awp_seq, Nat.reduceBNe, Nat.reduceBEq, Nat.reduceAdd, Nat.reduceSub, Nat.reduceMul, Nat.reduceLeDiff, Nat.reduceLT, Nat.reduceEqDiff, Nat.reduceBneDiff]
      refine callA_tt (r1sub_yes m l hd2 hd (by omega) (by omega) (by omega)) ?_
      simp -implicitDefEqProofs only [go_sem, awp_seq, Nat.reduceBNe, Nat.reduceBEq, Nat.reduceAdd, Nat.reduceSub, Nat.reduceMul, Nat.reduceLeDiff, Nat.reduceLT, Nat.reduceEqDiff, Nat.reduceBneDiff]
      refine callA_tt (r2make_c _ (dN _ (by omega))) ?_
      simp -implicitDefEqProofs only [e, go_sem, awp_seq, Nat.reduceBNe, Nat.reduceBEq, Nat.reduceAdd, Nat.reduceSub, Nat.reduceMul, Nat.reduceLeDiff, Nat.reduceLT, Nat.reduceEqDiff, Nat.reduceBneDiff]
theorem r2sub_c {a b : AV} {z y : Int} (ha : DI a z) (hb : DI b y) (hl : nlen z.natAbs + nlen y.natAbs + 1 < 1000000000) : AT 117 [a, b] (intN (z - y)) := by
  have hn := r2neg_c hb
  have hA := r2add_c ha (dI (-y) (by rw [Int.natAbs_neg]; omega)) (by rw [Int.natAbs_neg]; exact hl)
  obtain ⟨t, l, rfl, hd, hz, hl1⟩ := ha
  obtain ⟨s, m, rfl, hd2, hy, hl2⟩ := hb
  refine ACalls.of 5 (fn := Tryz.f117) Tryz.func117 rfl rfl rfl (by kernel_rfl) (by kernel_rfl) (Nat.le_of_ble_eq_true rfl) ?_
  simp -implicitDefEqProofs only [go_sem, awp_seq, Nat.reduceBNe, Nat.reduceBEq, Nat.reduceAdd, Nat.reduceSub, Nat.reduceMul, Nat.reduceLeDiff, Nat.reduceLT, Nat.reduceEqDiff, Nat.reduceBneDiff]
  refine callA_tt hn ?_
  simp -implicitDefEqProofs only [go_sem, awp_seq, Nat.reduceBNe, Nat.reduceBEq, Nat.reduceAdd, Nat.reduceSub, Nat.reduceMul, Nat.reduceLeDiff, Nat.reduceLT, Nat.reduceEqDiff, Nat.reduceBneDiff]
  refine callA_tt hA ?_
  simp -implicitDefEqProofs only [← Int.sub_eq_add_neg, go_sem, awp_seq, Nat.reduceBNe, Nat.reduceBEq, Nat.reduceAdd, Nat.reduceSub, Nat.reduceMul, Nat.reduceLeDiff, Nat.reduceLT, Nat.reduceEqDiff, Nat.reduceBneDiff]
theorem r2of_c (z : Int) (h1 : -9223372036854775808 ≤ z) (h2 : z ≤ 9223372036854775807) : AT 115 [i64 z] (intN z) := by
  have hl : nlen z.natAbs < 1000000000 := by
    have : nlen z.natAbs ≤ 2 := nlen_le (by rw [show pw 2 = 18446744073709551616 from rfl]; omega)
    omega
  by_cases h : z < 0
  · have f1 : decide (z < 0) = true := by simp [h]
    have n1 : IntKind.i64.wrap (z + 1) = z + 1 := IntWalk.i64_in _ (by omega)
    have n2 : IntKind.i64.wrap (0 - (z + 1)) = 0 - (z + 1) := IntWalk.i64_in _ (by omega)
    have n3 : IntKind.u64.wrap (0 - (z + 1)) = 0 - (z + 1) := IntWalk.u64_in _ (by omega)
    have n4 : IntKind.u64.wrap (0 - (z + 1) + 1) = ((z.natAbs : Nat) : Int) := by rw [IntWalk.u64_in _ (by omega)]; omega
    have e : sg true z.natAbs = z := by unfold sg; simp; omega
    refine ACalls.of 3 (fn := Tryz.f115) Tryz.func115 rfl rfl rfl (by kernel_rfl) (by kernel_rfl) (Nat.le_of_ble_eq_true rfl) ?_
    simp -implicitDefEqProofs only [f1, n1, n2, n3, n4, go_sem, awp_seq, Nat.reduceBNe, Nat.reduceBEq, Nat.reduceAdd, Nat.reduceSub, Nat.reduceMul, Nat.reduceLeDiff, Nat.reduceLT, Nat.reduceEqDiff, Nat.reduceBneDiff]
    refine callA_tt (r1of_c _ (by omega)) ?_
    simp -implicitDefEqProofs only [go_sem, awp_seq, Nat.reduceBNe, Nat.reduceBEq, Nat.reduceAdd, Nat.reduceSub, Nat.reduceMul, Nat.reduceLeDiff, Nat.reduceLT, Nat.reduceEqDiff, Nat.reduceBneDiff]
    refine callA_tt (r2make_c true (dN _ hl)) ?_
    simp -implicitDefEqProofs only [e, go_sem, awp_seq, Nat.reduceBNe, Nat.reduceBEq, Nat.reduceAdd, Nat.reduceSub, Nat.reduceMul, Nat.reduceLeDiff, Nat.reduceLT, Nat.reduceEqDiff, Nat.reduceBneDiff]
  · have f1 : decide (z < 0) = false := by simp; omega
    have n1 : IntKind.u64.wrap z = ((z.natAbs : Nat) : Int) := by rw [IntWalk.u64_in _ (by omega)]; omega
    have e : sg false z.natAbs = z := by unfold sg; simp; omega
    refine ACalls.of 3 (fn := Tryz.f115) Tryz.func115 rfl rfl rfl (by kernel_rfl) (by kernel_rfl) (Nat.le_of_ble_eq_true rfl) ?_
    simp -implicitDefEqProofs only [f1, n1, go_sem, awp_seq, Nat.reduceBNe, Nat.reduceBEq, Nat.reduceAdd, Nat.reduceSub, Nat.reduceMul, Nat.reduceLeDiff, Nat.reduceLT, Nat.reduceEqDiff, Nat.reduceBneDiff]
    refine callA_tt (r1of_c _ (by omega)) ?_
    simp -implicitDefEqProofs only [go_sem, awp_seq, Nat.reduceBNe, Nat.reduceBEq, Nat.reduceAdd, Nat.reduceSub, Nat.reduceMul, Nat.reduceLeDiff, Nat.reduceLT, Nat.reduceEqDiff, Nat.reduceBneDiff]
    refine callA_tt (r2make_c false (dN _ hl)) ?_
    simp -implicitDefEqProofs only [e, go_sem, awp_seq, Nat.reduceBNe, Nat.reduceBEq, Nat.reduceAdd, Nat.reduceSub, Nat.reduceMul, Nat.reduceLeDiff, Nat.reduceLT, Nat.reduceEqDiff, Nat.reduceBneDiff]
theorem r2cmp_c {a b : AV} {z y : Int} (ha : DI a z) (hb : DI b y) : AT 119 [a, b] (i64 (cmpZ z y)) := by
  have s1 := r2sign_c ha
  have s2 := r2sign_c hb
  obtain ⟨t, l, rfl, hd, hz, hl1⟩ := ha
  obtain ⟨s, m, rfl, hd2, hy, hl2⟩ := hb
  have az : z.natAbs = val l := by rw [← hz, sg_natAbs]
  have ay : y.natAbs = val m := by rw [← hy, sg_natAbs]
  refine ACalls.of 7 (fn := Tryz.f119) Tryz.func119 rfl rfl rfl (by kernel_rfl) (by kernel_rfl) (Nat.le_of_ble_eq_true rfl) ?_
  simp -implicitDefEqProofs only [go_sem, awp_seq, Nat.reduceBNe, Nat.reduceBEq, Nat.reduceAdd, Nat.reduceSub, Nat.reduceMul, Nat.reduceLeDiff, Nat.reduceLT, Nat.reduceEqDiff, Nat.reduceBneDiff]
  refine callA_tt s1 ?_
  simp -implicitDefEqProofs only [go_sem, awp_seq, Nat.reduceBNe, Nat.reduceBEq, Nat.reduceAdd, Nat.reduceSub, Nat.reduceMul, Nat.reduceLeDiff, Nat.reduceLT, Nat.reduceEqDiff, Nat.reduceBneDiff]
  refine callA_tt s2 ?_
  rcases Int.lt_trichotomy (sgnI z) (sgnI y) with h | h | h
  · have f1 : decide (sgnI z < sgnI y) = true := by simp [h]
    simp -implicitDefEqProofs only [f1, cmpZ_lt h, go_sem, awp_seq, Nat.reduceBNe, Nat.reduceBEq, Nat.reduceAdd, Nat.reduceSub, Nat.reduceMul, Nat.reduceLeDiff, Nat.reduceLT, Nat.reduceEqDiff, Nat.reduceBneDiff]
  · have f1 : decide (sgnI z < sgnI y) = false := by simp; omega
    have f2 : decide (sgnI y < sgnI z) = false := by simp; omega
    have hc := cmpZ_eq h
    rw [az, ay] at hc
    by_cases h0 : sgnI z < 0
    · have f3 : decide (sgnI z < 0) = true := by simp [h0]
      have e : cmpI (val m) (val l) = cmpZ z y := by
        have h1 : sgnI z = -1 := by unfold sgnI at h0 ⊢; split at h0 <;> (try split at h0) <;> simp_all
        rw [← hc, h1]
        unfold cmpI
        split <;> split <;> (try split) <;> omega
      simp -implicitDefEqProofs only [f1, f2, f3, go_sem, awp_seq, Nat.reduceBNe, Nat.reduceBEq, Nat.reduceAdd, Nat.reduceSub, Nat.reduceMul, Nat.reduceLeDiff, Nat.reduceLT, Nat.reduceEqDiff, Nat.reduceBneDiff]
      refine callA_tt (r1cmp_c m l hd2 hd (by omega) (by omega)) ?_
      simp -implicitDefEqProofs only [e, go_sem, awp_seq, Nat.reduceBNe, Nat.reduceBEq, Nat.reduceAdd, Nat.reduceSub, Nat.reduceMul, Nat.reduceLeDiff, Nat.reduceLT, Nat.reduceEqDiff, Nat.reduceBneDiff]
    · have f3 : decide (sgnI z < 0) = false := by simp; omega
      have e : cmpI (val l) (val m) = cmpZ z y := by
        by_cases h1 : sgnI z = 0
        · have hz0 : z = 0 := by unfold sgnI at h1; split at h1 <;> (try split at h1) <;> omega
          have hy0 : y = 0 := by rw [h] at h1; unfold sgnI at h1; split at h1 <;> (try split at h1) <;> omega
          rw [← az, ← ay, hz0, hy0]; rfl
        · have h2 : sgnI z = 1 := by unfold sgnI at h0 h1 ⊢; split at h0 <;> (try split at h0) <;> simp_all
          rw [← hc, h2, Int.one_mul]
      simp -implicitDefEqProofs only [f1, f2, f3, go_sem, awp_seq, Nat.reduceBNe, Nat.reduceBEq, Nat.reduceAdd, Nat.reduceSub, Nat.reduceMul, Nat.reduceLeDiff, Nat.reduceLT, Nat.reduceEqDiff, Nat.reduceBneDiff]
      refine callA_tt (r1cmp_c l m hd hd2 (by omega) (by omega)) ?_
      simp -implicitDefEqProofs only [e, go_sem, awp_seq, Nat.reduceBNe, Nat.reduceBEq, Nat.reduceAdd, Nat.reduceSub, Nat.reduceMul, Nat.reduceLeDiff, Nat.reduceLT, Nat.reduceEqDiff, Nat.reduceBneDiff]
  · have f1 : decide (sgnI z < sgnI y) = false := by simp; omega
    have f2 : decide (sgnI y < sgnI z) = true := by simp [h]
    simp -implicitDefEqProofs only [f1, f2, cmpZ_gt h, go_sem, awp_seq, Nat.reduceBNe, Nat.reduceBEq, Nat.reduceAdd, Nat.reduceSub, Nat.reduceMul, Nat.reduceLeDiff, Nat.reduceLT, Nat.reduceEqDiff, Nat.reduceBneDiff]
end Go.Proofs.YtnifjdhjimjihaaGreatDoor
