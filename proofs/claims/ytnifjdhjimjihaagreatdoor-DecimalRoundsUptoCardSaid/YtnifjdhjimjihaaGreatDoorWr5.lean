import Derived.Test.YtnifjdhjimjihaaGreatDoorWr4
/- The document's natural numbers, continued: DivMod, Gcd. -/
set_option linter.unusedSimpArgs false
set_option linter.unusedVariables false
namespace Go.Proofs.YtnifjdhjimjihaaGreatDoor
open Go.RowKit Lim

theorem limbs_single {n : Nat} (h0 : 0 < n) (h : n < 4294967296) : limbs n = [n] := by
  rw [limbs_pos (by omega), Nat.mod_eq_of_lt h, Nat.div_eq_of_lt h, limbs_zero]
theorem nlen_single {n : Nat} (h : nlen n = 1) : 0 < n ∧ n < 4294967296 := by
  refine ⟨?_, ?_⟩
  · rcases Nat.eq_zero_or_pos n with h0 | h0
    · subst h0; rw [nlen_zero] at h; omega
    · exact h0
  · have := lt_nlen n
    rw [h, pw_succ, pw_zero] at this
    omega
theorem limb_val {r : List Nat} (hr : Dig r) (j : Nat) : r.getD j 0 = val r / pw j % 4294967296 := by
  by_cases hj : j ≤ r.length
  · have h1 := val_take_drop r j hj
    have h2 := val_take_lt hr hj
    have h3 : val r / pw j = val (r.drop j) := by rw [h1, Nat.add_mul_div_left _ _ (pw_pos j), Nat.div_eq_of_lt h2]; omega
    rw [h3, val_head _ (dig_drop hr j)]
    simp
  · have h1 := val_lt hr
    have h2 := pw_mono (show r.length ≤ j by omega)
    rw [Nat.div_eq_of_lt (by omega)]
    simp [List.getElem?_eq_none (show r.length ≤ j by omega)]
/-- A bit is put where none was. -/
theorem bit_put {r : List Nat} (hr : Dig r) {i m : Nat} (hm : val r = 2 ^ (i + 1) * m) : ∃ q, r.getD (i / 32) 0 = 2 ^ (i % 32 + 1) * q ∧ 2 ^ (i % 32) + 2 ^ (i % 32 + 1) * q < 4294967296 := by
  have hi : i + 1 = 32 * (i / 32) + (i % 32 + 1) := by omega
  have e1 : r.getD (i / 32) 0 = 2 ^ (i % 32 + 1) * m % 4294967296 := by
    rw [limb_val hr, hm, hi, Nat.pow_add, pw_two, Nat.mul_assoc, Nat.mul_div_cancel_left _ (Nat.two_pow_pos _)]
  have hB : 4294967296 = 2 ^ (i % 32 + 1) * 2 ^ (31 - i % 32) := by rw [← Nat.pow_add, show i % 32 + 1 + (31 - i % 32) = 32 by omega]
  refine ⟨m % 2 ^ (31 - i % 32), ?_, ?_⟩
  · rw [e1, hB, Nat.mul_mod_mul_left]
  · have h1 : m % 2 ^ (31 - i % 32) < 2 ^ (31 - i % 32) := Nat.mod_lt _ (Nat.two_pow_pos _)
    have h2 : 2 ^ (i % 32 + 1) * (m % 2 ^ (31 - i % 32) + 1) ≤ 2 ^ (i % 32 + 1) * 2 ^ (31 - i % 32) := Nat.mul_le_mul_left _ h1
    rw [← hB, Nat.mul_add] at h2
    have h3 : 2 ^ (i % 32 + 1) = 2 * 2 ^ (i % 32) := by rw [Nat.pow_succ]; omega
    have h4 := Nat.two_pow_pos (i % 32)
    omega
theorem pw_bit (i : Nat) : pw (i / 32) * 2 ^ (i % 32) = 2 ^ i := by rw [pw_two, ← Nat.pow_add]; congr 1; omega
theorem r1div_no (a b : List Nat) (ha : Dig a) (hb : Dig b) (hla : a.length < 10000000000) (hlb : b.length < 10000000000) (h : val b = 0) : AT 114 [.nat a, .nat b] (.tup [.nat [], .nat [], boo false]) := by
  have f1 : (((limbs (val b)).length : Int) == 0) = true := by rw [h, limbs_zero]; rfl
  refine ACalls.of 13 (fn := Tryz.f114) Tryz.func114 rfl rfl rfl (by kernel_rfl) (by kernel_rfl) (Nat.le_of_ble_eq_true rfl) ?_
  simp -implicitDefEqProofs only [go_sem, awp_seq, Nat.reduceBNe, Nat.reduceBEq, Nat.reduceAdd, Nat.reduceSub, Nat.reduceMul, Nat.reduceLeDiff, Nat.reduceLT, Nat.reduceEqDiff, Nat.reduceBneDiff]
  refine callA_tt (r1norm_c a ha (by omega)) ?_
  simp -implicitDefEqProofs only [go_sem, awp_seq, Nat.reduceBNe, Nat.reduceBEq, Nat.reduceAdd, Nat.reduceSub, Nat.reduceMul, Nat.reduceLeDiff, Nat.reduceLT, Nat.reduceEqDiff, Nat.reduceBneDiff]
  refine callA_tt (r1norm_c b hb (by omega)) ?_
  simp -implicitDefEqProofs only [f1, go_sem, awp_seq, Nat.reduceBNe, Nat.reduceBEq, Nat.reduceAdd, Nat.reduceSub, Nat.reduceMul, Nat.reduceLeDiff, Nat.reduceLT, Nat.reduceEqDiff, Nat.reduceBneDiff]
theorem r1div_one (a b : List Nat) (ha : Dig a) (hb : Dig b) (hla : a.length < 10000000000) (hlb : b.length < 10000000000) (h : nlen (val b) = 1) : AT 114 [.nat a, .nat b] (.tup [natN (val a / val b), natN (val a % val b), boo true]) := by
  obtain ⟨h0, h1⟩ := nlen_single h
  have hL := limbs_single h0 h1
  have hna := nlen_val ha
  have hlt := Nat.mod_lt (val a) h0
  generalize hd : val b = d at *
  have f1 : (((1 : Nat) : Int) == 0) = false := rfl
  have f2 : (((1 : Nat) : Int) == 1) = true := rfl
  have n1 : IntKind.u64.wrap (d : Int) = (d : Int) := IntWalk.u64_in _ (by omega)
  refine ACalls.of 13 (fn := Tryz.f114) Tryz.func114 rfl rfl rfl (by kernel_rfl) (by kernel_rfl) (Nat.le_of_ble_eq_true rfl) ?_
  simp -implicitDefEqProofs only [go_sem, awp_seq, Nat.reduceBNe, Nat.reduceBEq, Nat.reduceAdd, Nat.reduceSub, Nat.reduceMul, Nat.reduceLeDiff, Nat.reduceLT, Nat.reduceEqDiff, Nat.reduceBneDiff]
  refine callA_tt (r1norm_c a ha (by omega)) ?_
  simp -implicitDefEqProofs only [go_sem, awp_seq, Nat.reduceBNe, Nat.reduceBEq, Nat.reduceAdd, Nat.reduceSub, Nat.reduceMul, Nat.reduceLeDiff, Nat.reduceLT, Nat.reduceEqDiff, Nat.reduceBneDiff]
  refine callA_tt (r1norm_c b hb (by omega)) ?_
  simp -implicitDefEqProofs only [natN, hd, hL, n1, f1, f2, Int.toNat_zero, Int.le_refl, go_sem, awp_seq, Nat.reduceBNe, Nat.reduceBEq, Nat.reduceAdd, Nat.reduceSub, Nat.reduceMul, Nat.reduceLeDiff, Nat.reduceLT, Nat.reduceEqDiff, Nat.reduceBneDiff]
  refine callA_tt (r1short_c _ d (dig_limbs _) (by show nlen _ < _; omega) h0 h1) ?_
  simp -implicitDefEqProofs only [natN, val_limbs, go_sem, awp_seq, Nat.reduceBNe, Nat.reduceBEq, Nat.reduceAdd, Nat.reduceSub, Nat.reduceMul, Nat.reduceLeDiff, Nat.reduceLT, Nat.reduceEqDiff, Nat.reduceBneDiff]
  refine callA_tt (r1of_c _ (by omega)) ?_
  simp -implicitDefEqProofs only [natN, go_sem, awp_seq, Nat.reduceBNe, Nat.reduceBEq, Nat.reduceAdd, Nat.reduceSub, Nat.reduceMul, Nat.reduceLeDiff, Nat.reduceLT, Nat.reduceEqDiff, Nat.reduceBneDiff]
set_option maxHeartbeats 4000000 in
theorem r1div_long (a b : List Nat) (ha : Dig a) (hb : Dig b) (hla : a.length < 10000000000) (hlb : b.length < 10000000000) (h : 2 ≤ nlen (val b)) : AT 114 [.nat a, .nat b] (.tup [natN (val a / val b), natN (val a % val b), boo true]) := by
  have hna := nlen_val ha
  have hnb := nlen_val hb
  generalize hA : val a = A at *
  generalize hB : val b = B at *
  have f1 : (((limbs B).length : Int) == 0) = false := by rw [beq_eq_false_iff_ne]; show ((nlen B : Nat) : Int) ≠ 0; omega
  have f2 : (((limbs B).length : Int) == 1) = false := by rw [beq_eq_false_iff_ne]; show ((nlen B : Nat) : Int) ≠ 1; omega
  have hB0 : 0 < B := by rcases Nat.eq_zero_or_pos B with h0 | h0; · subst h0; rw [nlen_zero] at h; omega
                         · exact h0
  have bA : bitsN A ≤ 32 * nlen A := bitsN_small (by rw [← pw_two]; exact lt_nlen A)
  have bB : bitsN B ≤ 32 * nlen B := bitsN_small (by rw [← pw_two]; exact lt_nlen B)
  have w0 : IntKind.i64.wrap ((bitsN A : Int) - (bitsN B : Int)) = (bitsN A : Int) - (bitsN B : Int) := IntWalk.i64_in _ (by omega)
  refine ACalls.of 13 (fn := Tryz.f114) Tryz.func114 rfl rfl rfl (by kernel_rfl) (by kernel_rfl) (Nat.le_of_ble_eq_true rfl) ?_
  simp -implicitDefEqProofs only [go_sem, awp_seq, Nat.reduceBNe, Nat.reduceBEq, Nat.reduceAdd, Nat.reduceSub, Nat.reduceMul, Nat.reduceLeDiff, Nat.reduceLT, Nat.reduceEqDiff, Nat.reduceBneDiff]
  refine callA_tt (r1norm_c a ha (by omega)) ?_
  simp -implicitDefEqProofs only [go_sem, awp_seq, Nat.reduceBNe, Nat.reduceBEq, Nat.reduceAdd, Nat.reduceSub, Nat.reduceMul, Nat.reduceLeDiff, Nat.reduceLT, Nat.reduceEqDiff, Nat.reduceBneDiff]
  refine callA_tt (r1norm_c b hb (by omega)) ?_
  simp -implicitDefEqProofs only [natN, hA, hB, f1, f2, go_sem, awp_seq, Nat.reduceBNe, Nat.reduceBEq, Nat.reduceAdd, Nat.reduceSub, Nat.reduceMul, Nat.reduceLeDiff, Nat.reduceLT, Nat.reduceEqDiff, Nat.reduceBneDiff]
  refine callA_tt (r1bits_c _ (dig_limbs A) (by show nlen _ < _; omega)) ?_
  simp -implicitDefEqProofs only [go_sem, awp_seq, Nat.reduceBNe, Nat.reduceBEq, Nat.reduceAdd, Nat.reduceSub, Nat.reduceMul, Nat.reduceLeDiff, Nat.reduceLT, Nat.reduceEqDiff, Nat.reduceBneDiff]
  refine callA_tt (r1bits_c _ (dig_limbs B) (by show nlen _ < _; omega)) ?_
  by_cases hlt : bitsN A < bitsN B
  · have g1 : decide ((bitsN A : Int) - (bitsN B : Int) < 0) = true := by simp; omega
    have hAB : A < B := by
      have h1 := bitsN_lt A
      have h2 := bitsN_le hB0
      have h3 : 2 ^ bitsN A ≤ 2 ^ (bitsN B - 1) := Nat.pow_le_pow_right (by omega) (by omega)
      omega
    simp -implicitDefEqProofs only [val_limbs, w0, g1, natN, Nat.div_eq_of_lt hAB, Nat.mod_eq_of_lt hAB, limbs_zero, go_sem, awp_seq, Nat.reduceBNe, Nat.reduceBEq, Nat.reduceAdd, Nat.reduceSub, Nat.reduceMul, Nat.reduceLeDiff, Nat.reduceLT, Nat.reduceEqDiff, Nat.reduceBneDiff]
  · obtain ⟨n, hn⟩ : ∃ n, bitsN A = bitsN B + n := ⟨bitsN A - bitsN B, by omega⟩
    have e0 : (bitsN A : Int) - (bitsN B : Int) = (n : Int) := by omega
    have g1 : decide ((n : Int) < 0) = false := by simp
    have d1 : ∀ i : Nat, i ≤ n → IntKind.i64.wrap ((i : Int).tdiv 32) = ((i / 32 : Nat) : Int) := fun i hi => by rw [Int.tdiv_eq_ediv_of_nonneg (by omega), IntWalk.i64_in _ (by omega)]; omega
    have d2 : ∀ i : Nat, (i : Int).tmod 32 = ((i % 32 : Nat) : Int) := fun i => by rw [Int.tmod_eq_emod_of_nonneg (by omega)]; omega
    have d3 : ∀ i : Nat, IntKind.u64.wrap ((i % 32 : Nat) : Int) = ((i % 32 : Nat) : Int) := fun i => IntWalk.u64_in _ (by omega)
    have d5 : ¬ ((32 : Int) = 0) := by omega
    have w1 : IntKind.i64.wrap (((n / 32 : Nat) : Int) + 1) = ((n / 32 + 1 : Nat) : Int) := by rw [IntWalk.i64_in _ (by omega)]; omega
    have m1 : ((n / 32 + 1 : Nat) : Int) * ((4 : Nat) : Int) ≤ 140737488355328 := by omega
    have m2 : ((n / 32 + 1 : Nat) : Int) ≤ 9223372036854775807 := by omega
    have w2 : IntKind.i64.wrap (n : Int) = (n : Int) := w63 (by omega)
    simp -implicitDefEqProofs only [val_limbs, w2, e0, g1, d1 n (Nat.le_refl _), d5, w1, Int.toNat_natCast, Int.natCast_nonneg, Int.le_refl, m1, m2, go_sem, awp_seq, Nat.reduceBNe, Nat.reduceBEq, Nat.reduceAdd, Nat.reduceSub, Nat.reduceMul, Nat.reduceLeDiff, Nat.reduceLT, Nat.reduceEqDiff, Nat.reduceBneDiff]
    refine callA_tt (r1shift_c _ n (dig_limbs B) (by show nlen _ < _; omega) (by omega)) ?_
    simp -implicitDefEqProofs only [val_limbs, natN, go_sem, awp_seq, Nat.reduceBNe, Nat.reduceBEq, Nat.reduceAdd, Nat.reduceSub, Nat.reduceMul, Nat.reduceLeDiff, Nat.reduceLT, Nat.reduceEqDiff, Nat.reduceBneDiff]
    have hA2 : A < B * 2 ^ (n + 1) := by
      have h1 := bitsN_lt A
      have h2 := bitsN_le hB0
      have h4 := bitsN_pos hB0
      have h3 : 2 ^ bitsN A = 2 ^ (bitsN B - 1) * 2 ^ (n + 1) := by rw [← Nat.pow_add]; congr 1; omega
      have h5 := Nat.mul_le_mul_right (2 ^ (n + 1)) h2
      omega
    have hDn : ∀ k, k ≤ n + 1 → nlen (B * 2 ^ k / 2) ≤ nlen A := fun k hk => by
      refine nlen_le ?_
      have h1 := bitsN_lt B
      have h2 : B * 2 ^ k ≤ B * 2 ^ (n + 1) := Nat.mul_le_mul_left _ (Nat.pow_le_pow_right (by omega) hk)
      have h3 : B * 2 ^ (n + 1) < 2 ^ bitsN B * 2 ^ (n + 1) := Nat.mul_lt_mul_of_pos_right h1 (Nat.two_pow_pos _)
      have h4 : 2 ^ bitsN B * 2 ^ (n + 1) = 2 * 2 ^ bitsN A := by rw [← Nat.pow_add, hn, ← Nat.add_assoc, Nat.pow_succ]; omega
      have h5 : 2 ^ bitsN A ≤ pw (nlen A) := by rw [pw_two]; exact Nat.pow_le_pow_right (by omega) bA
      omega
    refine loop_mk (α := {x : Nat × List Nat × Nat // x.1 ≤ n + 1 ∧ x.2.1.length = n / 32 + 1 ∧ Dig x.2.1 ∧ A = val x.2.1 * B + x.2.2 ∧ x.2.2 < B * 2 ^ x.1 ∧ ∃ m, val x.2.1 = 2 ^ x.1 * m}) (fun x => [(0, some (.av (.nat (limbs x.1.2.2)))), (10, some (.osl 46 1 0 (n / 32 + 1))), (11, some (.av (.nat (limbs (B * 2 ^ x.1.1 / 2))))), (12, some (.av (i64 ((x.1.1 : Int) - 1))))]) (fun _ => []) (fun x => [(46, .limb 55 x.1.2.1)]) (fun x => x.1.1) ⟨(n + 1, List.replicate (n / 32 + 1) 0, A), Nat.le_refl _, by simp, dig_replicate _, by simp [val_replicate], hA2, 0, by simp [val_replicate]⟩ ?_ ?_
    · have e3 : B * 2 ^ (n + 1) / 2 = B * 2 ^ n := by rw [Nat.pow_succ, ← Nat.mul_assoc, Nat.mul_div_cancel _ (by omega)]
      have e4 : ((n + 1 : Nat) : Int) - 1 = (n : Int) := by omega
      simp -implicitDefEqProofs only [e3, e4, go_sem, awp_seq, Nat.reduceBNe, Nat.reduceBEq, Nat.reduceAdd, Nat.reduceSub, Nat.reduceMul, Nat.reduceLeDiff, Nat.reduceLT, Nat.reduceEqDiff, Nat.reduceBneDiff]
    · rintro ⟨⟨k, r, R⟩, hk, hr, hdr, hAe, hR, m, hm⟩
      dsimp only at hk hr hdr hAe hR hm
      cases k with
      | zero =>
        have g2 : decide ((0 : Int) ≤ ((0 : Nat) : Int) - 1) = false := by simp
        rw [Nat.pow_zero, Nat.mul_one] at hR
        have hq : val r = A / B := by rw [hAe, Nat.mul_comm, Nat.mul_add_div hB0, Nat.div_eq_of_lt hR]; omega
        have hrem : R = A % B := by rw [hAe, Nat.mul_comm, Nat.mul_add_mod, Nat.mod_eq_of_lt hR]
        have htake : r.take (n / 32 + 1) = r := by rw [← hr, List.take_length]
        simp -implicitDefEqProofs only [g2, htake, hr, Nat.le_refl, go_sem, awp_seq, Nat.reduceBNe, Nat.reduceBEq, Nat.reduceAdd, Nat.reduceSub, Nat.reduceMul, Nat.reduceLeDiff, Nat.reduceLT, Nat.reduceEqDiff, Nat.reduceBneDiff]
        refine callA_rowTT (r1norm_c r hdr (by omega)) ?_ ?_ <;> simp -implicitDefEqProofs only [natN, hq, ← hrem, htake, hr, go_sem, awp_seq, Nat.reduceBNe, Nat.reduceBEq, Nat.reduceAdd, Nat.reduceSub, Nat.reduceMul, Nat.reduceLeDiff, Nat.reduceLT, Nat.reduceEqDiff, Nat.reduceBneDiff]
      | succ i =>
        have g2 : decide ((0 : Int) ≤ (i : Nat)) = true := by simp
        have e2 : ((i + 1 : Nat) : Int) - 1 = (i : Int) := by omega
        have hD : B * 2 ^ (i + 1) / 2 = B * 2 ^ i := by rw [Nat.pow_succ, ← Nat.mul_assoc, Nat.mul_div_cancel _ (by omega)]
        have hDl := hDn (i + 1) hk
        have q1 : IntKind.i64.wrap ((i : Int) - 1) = (i : Int) - 1 := IntWalk.i64_in _ (by omega)
        have hRA : R ≤ A := by omega
        have hRl := nlen_mono hRA
        rw [hD] at hDl
        simp -implicitDefEqProofs only [e2, hD, decide_true, Int.natCast_nonneg, go_sem, awp_seq, Nat.reduceBNe, Nat.reduceBEq, Nat.reduceAdd, Nat.reduceSub, Nat.reduceMul, Nat.reduceLeDiff, Nat.reduceLT, Nat.reduceEqDiff, Nat.reduceBneDiff]
        refine callA_tt (r1cmp_c _ _ (dig_limbs R) (dig_limbs _) (by show nlen _ < _; omega) (by show nlen _ < _; omega)) ?_
        simp -implicitDefEqProofs only [val_limbs, go_sem, awp_seq, Nat.reduceBNe, Nat.reduceBEq, Nat.reduceAdd, Nat.reduceSub, Nat.reduceMul, Nat.reduceLeDiff, Nat.reduceLT, Nat.reduceEqDiff, Nat.reduceBneDiff]
        rw [Nat.pow_succ, show B * (2 ^ i * 2) = 2 * (B * 2 ^ i) by grind] at hR
        by_cases hge : B * 2 ^ i ≤ R
        · have c1 : decide ((0 : Int) ≤ cmpI R (B * 2 ^ i)) = true := by
            rcases Nat.lt_or_eq_of_le hge with h1 | h1
            · rw [cmpI_gt h1]; rfl
            · rw [← h1, cmpI_eq]; rfl
          simp -implicitDefEqProofs only [c1, go_sem, awp_seq, Nat.reduceBNe, Nat.reduceBEq, Nat.reduceAdd, Nat.reduceSub, Nat.reduceMul, Nat.reduceLeDiff, Nat.reduceLT, Nat.reduceEqDiff, Nat.reduceBneDiff]
          refine callA_tt (r1sub_yes _ _ (dig_limbs R) (dig_limbs _) (by show nlen _ < _; omega) (by show nlen _ < _; omega) (by rw [val_limbs, val_limbs]; exact hge)) ?_
          have hil : i / 32 < r.length := by omega
          have hil2 : i / 32 < n / 32 + 1 := by omega
          obtain ⟨bq, hb1, hb2⟩ := bit_put hdr hm
          have hgr := getD_some hil
          have hset := val_set r (i / 32) (2 ^ (i % 32) + r.getD (i / 32) 0) hil
          have hrl : r[i / 32] = r.getD (i / 32) 0 := by rw [List.getD_eq_getElem?_getD, List.getElem?_eq_getElem hil]; rfl
          rw [hrl, Nat.mul_add, pw_bit] at hset
          obtain ⟨L, hL⟩ : ∃ L, r.getD (i / 32) 0 = L := ⟨_, rfl⟩
          rw [hL] at hb1 hgr hset
          rw [← hb1] at hb2
          have hor := or32' (sh := i % 32 + 1) (show 2 ^ (i % 32) < 2 ^ (i % 32 + 1) from Nat.pow_lt_pow_right (by omega) (by omega)) hb1 hb2
          have hmin : min (i % 32) 32 = i % 32 := by omega
          have s1 : IntKind.u32.wrap (1 * 2 ^ (i % 32)) = ((2 ^ (i % 32) : Nat) : Int) := by
            rw [show (1 : Int) * 2 ^ (i % 32) = ((2 ^ (i % 32) : Nat) : Int) by simp]
            have hle : 2 ^ (i % 32) ≤ 4294967295 := by omega
            exact IntWalk.u32_in _ ⟨Int.natCast_nonneg _, Int.ofNat_le.2 hle⟩
          have m3 : ((2 ^ (i % 32) + L : Nat) : Int) < 4294967296 := by omega
          simp -implicitDefEqProofs only [val_limbs, natN, d1 i (by omega), d2, d3, d5, s1, hmin, binK_or32, hor, hgr, Int.toNat_natCast, Int.natCast_nonneg, hil, hil2, m3, go_sem, awp_seq, Nat.reduceBNe, Nat.reduceBEq, Nat.reduceAdd, Nat.reduceSub, Nat.reduceMul, Nat.reduceLeDiff, Nat.reduceLT, Nat.reduceEqDiff, Nat.reduceBneDiff]
          refine callA_tt (r1half_c _ (dig_limbs _) (by show nlen _ < _; omega)) ?_
          simp -implicitDefEqProofs only [val_limbs, natN, q1, go_sem, awp_seq, Nat.reduceBNe, Nat.reduceBEq, Nat.reduceAdd, Nat.reduceSub, Nat.reduceMul, Nat.reduceLeDiff, Nat.reduceLT, Nat.reduceEqDiff, Nat.reduceBneDiff]
          refine roundK_mk ⟨(i, r.set (i / 32) (2 ^ (i % 32) + L), R - B * 2 ^ i), by omega, by simp [hr], dig_set hdr _ hb2, ?_, by show R - B * 2 ^ i < B * 2 ^ i; omega, 2 * m + 1, ?_⟩ ?_ (by show i < i + 1; omega)
          · show A = val (r.set (i / 32) (2 ^ (i % 32) + L)) * B + (R - B * 2 ^ i)
            have e5 : val (r.set (i / 32) (2 ^ (i % 32) + L)) = val r + 2 ^ i := by omega
            rw [e5, Nat.add_mul, Nat.mul_comm (2 ^ i) B]
            omega
          · show val (r.set (i / 32) (2 ^ (i % 32) + L)) = 2 ^ i * (2 * m + 1)
            have e5 : val (r.set (i / 32) (2 ^ (i % 32) + L)) = val r + 2 ^ i := by omega
            rw [e5, hm, Nat.pow_succ]
            grind
          · simp -implicitDefEqProofs only [go_sem, awp_seq, Nat.reduceBNe, Nat.reduceBEq, Nat.reduceAdd, Nat.reduceSub, Nat.reduceMul, Nat.reduceLeDiff, Nat.reduceLT, Nat.reduceEqDiff, Nat.reduceBneDiff]
        · have c1 : decide ((0 : Int) ≤ cmpI R (B * 2 ^ i)) = false := by rw [cmpI_lt (by omega)]; rfl
          simp -implicitDefEqProofs only [c1, go_sem, awp_seq, Nat.reduceBNe, Nat.reduceBEq, Nat.reduceAdd, Nat.reduceSub, Nat.reduceMul, Nat.reduceLeDiff, Nat.reduceLT, Nat.reduceEqDiff, Nat.reduceBneDiff]
          refine callA_tt (r1half_c _ (dig_limbs _) (by show nlen _ < _; omega)) ?_
          simp -implicitDefEqProofs only [val_limbs, natN, q1, go_sem, awp_seq, Nat.reduceBNe, Nat.reduceBEq, Nat.reduceAdd, Nat.reduceSub, Nat.reduceMul, Nat.reduceLeDiff, Nat.reduceLT, Nat.reduceEqDiff, Nat.reduceBneDiff]
          refine roundK_mk ⟨(i, r, R), by omega, hr, hdr, hAe, by show R < B * 2 ^ i; omega, 2 * m, by show val r = _; rw [hm, Nat.pow_succ]; grind⟩ ?_ (by show i < i + 1; omega)
          simp -implicitDefEqProofs only [go_sem, awp_seq, Nat.reduceBNe, Nat.reduceBEq, Nat.reduceAdd, Nat.reduceSub, Nat.reduceMul, Nat.reduceLeDiff, Nat.reduceLT, Nat.reduceEqDiff, Nat.reduceBneDiff]
theorem r1div_c (a b : List Nat) (ha : Dig a) (hb : Dig b) (hla : a.length < 10000000000) (hlb : b.length < 10000000000) (h : 0 < val b) : AT 114 [.nat a, .nat b] (.tup [natN (val a / val b), natN (val a % val b), boo true]) := by
  have h1 : nlen (val b) ≠ 0 := fun h2 => by have := nlen_eq_zero.1 h2; omega
  by_cases h2 : nlen (val b) = 1
  · exact r1div_one a b ha hb hla hlb h2
  · exact r1div_long a b ha hb hla hlb (by omega)
set_option maxHeartbeats 2000000 in
theorem r1gcd_c (a b : List Nat) (ha : Dig a) (hb : Dig b) (hla : a.length < 10000000000) (hlb : b.length < 10000000000) : AT 113 [.nat a, .nat b] (natN (Nat.gcd (val a) (val b))) := by
  have hna := nlen_val ha
  have hnb := nlen_val hb
  refine ACalls.of 8 (fn := Tryz.f113) Tryz.func113 rfl rfl rfl (by kernel_rfl) (by kernel_rfl) (Nat.le_of_ble_eq_true rfl) ?_
  simp -implicitDefEqProofs only [go_sem, awp_seq, Nat.reduceBNe, Nat.reduceBEq, Nat.reduceAdd, Nat.reduceSub, Nat.reduceMul, Nat.reduceLeDiff, Nat.reduceLT, Nat.reduceEqDiff, Nat.reduceBneDiff]
  refine callA_tt (r1norm_c a ha (by omega)) ?_
  simp -implicitDefEqProofs only [go_sem, awp_seq, Nat.reduceBNe, Nat.reduceBEq, Nat.reduceAdd, Nat.reduceSub, Nat.reduceMul, Nat.reduceLeDiff, Nat.reduceLT, Nat.reduceEqDiff, Nat.reduceBneDiff]
  refine callA_tt (r1norm_c b hb (by omega)) ?_
  simp -implicitDefEqProofs only [go_sem, awp_seq, Nat.reduceBNe, Nat.reduceBEq, Nat.reduceAdd, Nat.reduceSub, Nat.reduceMul, Nat.reduceLeDiff, Nat.reduceLT, Nat.reduceEqDiff, Nat.reduceBneDiff]
  refine loop_mk (α := {x : Nat × Nat // nlen x.1 < 10000000000 ∧ nlen x.2 < 10000000000 ∧ Nat.gcd x.1 x.2 = Nat.gcd (val a) (val b)}) (fun x => [(0, some (.av (natN x.1.1))), (1, some (.av (natN x.1.2)))]) (fun _ => []) (fun _ => []) (fun x => x.1.2) ⟨(val a, val b), by show nlen (val a) < _; omega, by show nlen (val b) < _; omega, rfl⟩ ?_ ?_
  · simp -implicitDefEqProofs only [go_sem, awp_seq, Nat.reduceBNe, Nat.reduceBEq, Nat.reduceAdd, Nat.reduceSub, Nat.reduceMul, Nat.reduceLeDiff, Nat.reduceLT, Nat.reduceEqDiff, Nat.reduceBneDiff]
  · rintro ⟨⟨x, y⟩, hx, hy, hg⟩
    dsimp only at hx hy hg
    by_cases h0 : y = 0
    · subst h0
      have f1 : decide ((0 : Int) < ((limbs 0).length : Nat)) = false := by rw [limbs_zero]; rfl
      rw [Nat.gcd_zero_right] at hg
      simp -implicitDefEqProofs only [natN, f1, hg, go_sem, awp_seq, Nat.reduceBNe, Nat.reduceBEq, Nat.reduceAdd, Nat.reduceSub, Nat.reduceMul, Nat.reduceLeDiff, Nat.reduceLT, Nat.reduceEqDiff, Nat.reduceBneDiff]
    · have hy0 : 0 < (limbs y).length := by
        cases he : limbs y with
        | nil => have := limbs_eq_nil.1 he; omega
        | cons => simp
      have f1 : decide ((0 : Int) < ((limbs y).length : Nat)) = true := by simp; omega
      simp -implicitDefEqProofs only [natN, f1, go_sem, awp_seq, Nat.reduceBNe, Nat.reduceBEq, Nat.reduceAdd, Nat.reduceSub, Nat.reduceMul, Nat.reduceLeDiff, Nat.reduceLT, Nat.reduceEqDiff, Nat.reduceBneDiff]
      refine callA_tt (r1div_c _ _ (dig_limbs x) (dig_limbs y) hx hy (by rw [val_limbs]; omega)) ?_
      simp -implicitDefEqProofs only [natN, val_limbs, go_sem, awp_seq, Nat.reduceBNe, Nat.reduceBEq, Nat.reduceAdd, Nat.reduceSub, Nat.reduceMul, Nat.reduceLeDiff, Nat.reduceLT, Nat.reduceEqDiff, Nat.reduceBneDiff]
      have hlt := Nat.mod_lt x (show 0 < y by omega)
      refine roundK_mk ⟨(y, x % y), hy, by show nlen (x % y) < _; have := nlen_mono (Nat.le_of_lt hlt); omega, by show Nat.gcd y (x % y) = _; rw [← hg, Nat.gcd_comm x y, Nat.gcd_rec y x, Nat.gcd_comm]⟩ ?_ hlt
      simp -implicitDefEqProofs only [natN, go_sem, awp_seq, Nat.reduceBNe, Nat.reduceBEq, Nat.reduceAdd, Nat.reduceSub, Nat.reduceMul, Nat.reduceLeDiff, Nat.reduceLT, Nat.reduceEqDiff, Nat.reduceBneDiff]
end Go.Proofs.YtnifjdhjimjihaaGreatDoor
