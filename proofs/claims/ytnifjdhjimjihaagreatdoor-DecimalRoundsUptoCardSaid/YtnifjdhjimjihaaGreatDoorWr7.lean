import Derived.Test.YtnifjdhjimjihaaGreatDoorWr6
/- The document's integers, continued: DivMod. -/
set_option linter.unusedSimpArgs false
set_option linter.unusedVariables false
namespace Go.Proofs.YtnifjdhjimjihaaGreatDoor
open Go.RowKit Lim

theorem nlen_div (n k : Nat) : nlen (n / k) ≤ nlen n := nlen_mono (Nat.div_le_self n k)
theorem divz_pos {z : Int} {d : Nat} (hd : 0 < d) (h : ¬ z < 0) : sg false (z.natAbs / d) = z / (d : Int) := by
  obtain ⟨n, rfl⟩ := Int.eq_ofNat_of_zero_le (show 0 ≤ z by omega)
  simp [sg]
theorem divz_uni {z q r : Int} {d : Nat} (hd : 0 < d) (h1 : r + (d : Int) * q = z) (h2 : 0 ≤ r) (h3 : r < d) : z / (d : Int) = q :=
  ((Int.ediv_emod_unique (by omega)).2 ⟨h1, h2, h3⟩).1
theorem divz_neg {z : Int} {d : Nat} (hd : 0 < d) (h : z < 0) : sg true (z.natAbs / d) = (if z.natAbs % d = 0 then z / (d : Int) else z / (d : Int) + 1) := by
  have h1 := Nat.div_add_mod z.natAbs d
  have h2 := Nat.mod_lt z.natAbs hd
  have hz : z = -((z.natAbs : Nat) : Int) := by omega
  have e1 : ((d * (z.natAbs / d) : Nat) : Int) = (d : Int) * ((z.natAbs / d : Nat) : Int) := by simp
  generalize z.natAbs / d = q at *
  generalize z.natAbs % d = r at *
  split
  · rw [divz_uni (q := -(q : Int)) (r := 0) hd (by rw [Int.mul_neg]; omega) (by omega) (by omega)]; simp [sg]
  · rw [divz_uni (q := -(q : Int) - 1) (r := (d : Int) - r) hd (by rw [Int.mul_sub, Int.mul_neg]; omega) (by omega) (by omega)]; simp [sg]
/-- Where the divisor is above 0. -/
theorem r2divmod_c {a b : AV} {z : Int} {d : Nat} (ha : DI a z) (hb : DI b (d : Int)) (hd0 : 0 < d) (hl : nlen z.natAbs + nlen d + 8 < 100000000) : AT 80 [a, b] (.tup [intN (z / d), intN (z % d), boo true]) := by
  have s1 := r2norm_c ha
  have s2 := r2norm_c hb
  obtain ⟨t, l, rfl, hd, hz, hl1⟩ := ha
  obtain ⟨s, m, rfl, hd2, hy, hl2⟩ := hb
  have hdn : decide ((d : Int) < 0) = false := by simp
  have hda : ((d : Int)).natAbs = d := Int.natAbs_natCast d
  have hq := nlen_div z.natAbs d
  have hm := nlen_mono (Nat.le_of_lt (Nat.mod_lt z.natAbs hd0))
  have hn1 : nlen 1 = 1 := nlen_one
  refine ACalls.of 13 (fn := Tryz.f80) Tryz.func80 rfl rfl rfl (by kernel_rfl) (by kernel_rfl) (Nat.le_of_ble_eq_true rfl) ?_
  simp -implicitDefEqProofs only [go_sem, awp_seq, Nat.reduceBNe, Nat.reduceBEq, Nat.reduceAdd, Nat.reduceSub, Nat.reduceMul, Nat.reduceLeDiff, Nat.reduceLT, Nat.reduceEqDiff, Nat.reduceBneDiff]
  refine callA_tt s1 ?_
  simp -implicitDefEqProofs only [go_sem, awp_seq, Nat.reduceBNe, Nat.reduceBEq, Nat.reduceAdd, Nat.reduceSub, Nat.reduceMul, Nat.reduceLeDiff, Nat.reduceLT, Nat.reduceEqDiff, Nat.reduceBneDiff]
  refine callA_tt s2 ?_
  simp -implicitDefEqProofs only [intN, hdn, hda, go_sem, awp_seq, Nat.reduceBNe, Nat.reduceBEq, Nat.reduceAdd, Nat.reduceSub, Nat.reduceMul, Nat.reduceLeDiff, Nat.reduceLT, Nat.reduceEqDiff, Nat.reduceBneDiff]
  refine callA_tt (r1div_c _ _ (dig_limbs z.natAbs) (dig_limbs d) (by show nlen _ < _; omega) (by show nlen _ < _; omega) (by rw [val_limbs]; exact hd0)) ?_
  simp -implicitDefEqProofs only [val_limbs, natN, go_sem, awp_seq, Nat.reduceBNe, Nat.reduceBEq, Nat.reduceAdd, Nat.reduceSub, Nat.reduceMul, Nat.reduceLeDiff, Nat.reduceLT, Nat.reduceEqDiff, Nat.reduceBneDiff]
  have hqd : nlen (z / (d : Int)).natAbs ≤ nlen z.natAbs + 1 := by
    have h1 : (z / (d : Int)).natAbs ≤ z.natAbs + 1 := by
      by_cases hneg : z < 0
      · have h2 := divz_neg hd0 hneg
        have h3 := Nat.div_le_self z.natAbs d
        have h4 := sg_natAbs true (z.natAbs / d)
        rw [h2] at h4
        generalize z.natAbs / d = q at *
        generalize z / (d : Int) = w at *
        split at h4 <;> omega
      · have h2 := divz_pos hd0 hneg
        have h3 := Nat.div_le_self z.natAbs d
        have h4 := sg_natAbs false (z.natAbs / d)
        rw [h2] at h4
        rw [h4]
        omega
    have h2 := nlen_mono h1
    have h3 := nlen_add z.natAbs 1
    by_cases hz0 : z.natAbs = 0
    · rw [hz0] at h2 h3 ⊢; simp only [Nat.zero_add] at h2; rw [nlen_one] at h2; omega
    · have h4 : 1 ≤ nlen z.natAbs := by
        rcases Nat.eq_zero_or_pos (nlen z.natAbs) with h5 | h5
        · exact absurd (nlen_eq_zero.1 h5) hz0
        · exact h5
      rw [nlen_one] at h3
      omega
  have hmul : nlen ((d : Int) * (z / (d : Int))).natAbs ≤ nlen d + nlen z.natAbs + 1 := by
    rw [Int.natAbs_mul, Int.natAbs_natCast]
    have := nlen_mul d (z / (d : Int)).natAbs
    omega
  have hrest : z - (d : Int) * (z / (d : Int)) = z % (d : Int) := by have := Int.mul_ediv_add_emod z (d : Int); omega
  have iD : DI (.agg [boo false, .nat (limbs d)]) (d : Int) := ⟨false, limbs d, rfl, dig_limbs d, by simp [sg, val_limbs], by show nlen d < _; omega⟩
  by_cases hneg : z < 0
  · have f2 : decide (z < 0) = true := by simp [hneg]
    have f1 : (true == false) = false := rfl
    have iZ : DI (.agg [boo true, .nat (limbs z.natAbs)]) z := ⟨true, limbs z.natAbs, rfl, dig_limbs _, by simp [sg, val_limbs]; omega, by show nlen z.natAbs < _; omega⟩
    have e1 := divz_neg hd0 hneg
    simp -implicitDefEqProofs only [f2, f1, Bool.not_false, go_sem, awp_seq, Nat.reduceBNe, Nat.reduceBEq, Nat.reduceAdd, Nat.reduceSub, Nat.reduceMul, Nat.reduceLeDiff, Nat.reduceLT, Nat.reduceEqDiff, Nat.reduceBneDiff]
    refine callA_tt (r2make_c true (dN _ (by omega))) ?_
    by_cases hr : z.natAbs % d = 0
    · rw [if_pos hr] at e1
      have g1 : decide ((0 : Int) < ((limbs 0).length : Nat)) = false := by rw [limbs_zero]; rfl
      simp -implicitDefEqProofs only [e1, hr, intN, f1, Bool.not_false, go_sem, awp_seq, Nat.reduceBNe, Nat.reduceBEq, Nat.reduceAdd, Nat.reduceSub, Nat.reduceMul, Nat.reduceLeDiff, Nat.reduceLT, Nat.reduceEqDiff, Nat.reduceBneDiff]
      refine callA_tt (r1norm_c _ (dig_limbs 0) (by rw [limbs_zero]; simp)) ?_
      simp -implicitDefEqProofs only [natN, val_limbs, g1, go_sem, awp_seq, Nat.reduceBNe, Nat.reduceBEq, Nat.reduceAdd, Nat.reduceSub, Nat.reduceMul, Nat.reduceLeDiff, Nat.reduceLT, Nat.reduceEqDiff, Nat.reduceBneDiff]
      refine callA_tt (r2mul_c iD (dI (z / (d : Int)) (by omega)) (by rw [hda]; omega)) ?_
      simp -implicitDefEqProofs only [intN, go_sem, awp_seq, Nat.reduceBNe, Nat.reduceBEq, Nat.reduceAdd, Nat.reduceSub, Nat.reduceMul, Nat.reduceLeDiff, Nat.reduceLT, Nat.reduceEqDiff, Nat.reduceBneDiff]
      refine callA_tt (r2sub_c iZ (dI _ (by omega)) (by omega)) ?_
      simp -implicitDefEqProofs only [hrest, intN, go_sem, awp_seq, Nat.reduceBNe, Nat.reduceBEq, Nat.reduceAdd, Nat.reduceSub, Nat.reduceMul, Nat.reduceLeDiff, Nat.reduceLT, Nat.reduceEqDiff, Nat.reduceBneDiff]
    · rw [if_neg hr] at e1
      have g1 : decide ((0 : Int) < ((limbs (z.natAbs % d)).length : Nat)) = true := by rw [limbs_len_pos]; simp; omega
      have e2 : z / (d : Int) + 1 - 1 = z / (d : Int) := by omega
      have hq1 : nlen (z / (d : Int) + 1).natAbs < 100000000 := by rw [← e1, sg_natAbs]; omega
      simp -implicitDefEqProofs only [e1, intN, f1, Bool.not_false, go_sem, awp_seq, Nat.reduceBNe, Nat.reduceBEq, Nat.reduceAdd, Nat.reduceSub, Nat.reduceMul, Nat.reduceLeDiff, Nat.reduceLT, Nat.reduceEqDiff, Nat.reduceBneDiff]
      refine callA_tt (r1norm_c _ (dig_limbs (z.natAbs % d)) (by show nlen _ < _; omega)) ?_
      simp -implicitDefEqProofs only [natN, val_limbs, g1, go_sem, awp_seq, Nat.reduceBNe, Nat.reduceBEq, Nat.reduceAdd, Nat.reduceSub, Nat.reduceMul, Nat.reduceLeDiff, Nat.reduceLT, Nat.reduceEqDiff, Nat.reduceBneDiff]
      refine callA_tt (r2of_c 1 (by omega) (by omega)) ?_
      simp -implicitDefEqProofs only [intN, go_sem, awp_seq, Nat.reduceBNe, Nat.reduceBEq, Nat.reduceAdd, Nat.reduceSub, Nat.reduceMul, Nat.reduceLeDiff, Nat.reduceLT, Nat.reduceEqDiff, Nat.reduceBneDiff]
      refine callA_tt (r2sub_c (dI (z / (d : Int) + 1) (by omega)) (dI 1 (by rw [show (1 : Int).natAbs = 1 from rfl, nlen_one]; omega)) (by rw [show (1 : Int).natAbs = 1 from rfl, nlen_one]; omega)) ?_
      simp -implicitDefEqProofs only [e2, intN, go_sem, awp_seq, Nat.reduceBNe, Nat.reduceBEq, Nat.reduceAdd, Nat.reduceSub, Nat.reduceMul, Nat.reduceLeDiff, Nat.reduceLT, Nat.reduceEqDiff, Nat.reduceBneDiff]
      refine callA_tt (r2mul_c iD (dI (z / (d : Int)) (by omega)) (by rw [hda]; omega)) ?_
      simp -implicitDefEqProofs only [intN, go_sem, awp_seq, Nat.reduceBNe, Nat.reduceBEq, Nat.reduceAdd, Nat.reduceSub, Nat.reduceMul, Nat.reduceLeDiff, Nat.reduceLT, Nat.reduceEqDiff, Nat.reduceBneDiff]
      refine callA_tt (r2sub_c iZ (dI _ (by omega)) (by omega)) ?_
      simp -implicitDefEqProofs only [hrest, intN, go_sem, awp_seq, Nat.reduceBNe, Nat.reduceBEq, Nat.reduceAdd, Nat.reduceSub, Nat.reduceMul, Nat.reduceLeDiff, Nat.reduceLT, Nat.reduceEqDiff, Nat.reduceBneDiff]
  · have f2 : decide (z < 0) = false := by simp; omega
    have e1 := divz_pos hd0 hneg
    have iZ : DI (.agg [boo false, .nat (limbs z.natAbs)]) z := ⟨false, limbs z.natAbs, rfl, dig_limbs _, by simp [sg, val_limbs]; omega, by show nlen z.natAbs < _; omega⟩
    simp -implicitDefEqProofs only [f2, BEq.rfl, Bool.not_true, go_sem, awp_seq, Nat.reduceBNe, Nat.reduceBEq, Nat.reduceAdd, Nat.reduceSub, Nat.reduceMul, Nat.reduceLeDiff, Nat.reduceLT, Nat.reduceEqDiff, Nat.reduceBneDiff]
    refine callA_tt (r2make_c false (dN _ (by omega))) ?_
    simp -implicitDefEqProofs only [e1, f2, intN, BEq.rfl, Bool.not_true, go_sem, awp_seq, Nat.reduceBNe, Nat.reduceBEq, Nat.reduceAdd, Nat.reduceSub, Nat.reduceMul, Nat.reduceLeDiff, Nat.reduceLT, Nat.reduceEqDiff, Nat.reduceBneDiff]
    refine callA_tt (r2mul_c iD (dI (z / (d : Int)) (by omega)) (by rw [hda]; omega)) ?_
    simp -implicitDefEqProofs only [intN, go_sem, awp_seq, Nat.reduceBNe, Nat.reduceBEq, Nat.reduceAdd, Nat.reduceSub, Nat.reduceMul, Nat.reduceLeDiff, Nat.reduceLT, Nat.reduceEqDiff, Nat.reduceBneDiff]
    refine callA_tt (r2sub_c iZ (dI _ (by omega)) (by omega)) ?_
    simp -implicitDefEqProofs only [hrest, intN, go_sem, awp_seq, Nat.reduceBNe, Nat.reduceBEq, Nat.reduceAdd, Nat.reduceSub, Nat.reduceMul, Nat.reduceLeDiff, Nat.reduceLT, Nat.reduceEqDiff, Nat.reduceBneDiff]
end Go.Proofs.YtnifjdhjimjihaaGreatDoor
