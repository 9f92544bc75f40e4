import Derived.Test.YtnifjdhjimjihaaGreatDoorWr1
/- The document's natural numbers, continued: half, Bits, Mul, Shift. -/
set_option linter.unusedSimpArgs false
set_option linter.unusedVariables false
namespace Go.Proofs.YtnifjdhjimjihaaGreatDoor
open Go.RowKit Lim

theorem half_next {a s : List Nat} {x y u : Nat} (hx : a.getD s.length 0 = x) (hu : 2 * u + x % 2 = x + 4294967296 * (y % 2)) (h : 2 * val s + a.getD 0 0 % 2 = val (a.take s.length) + pw s.length * (x % 2)) :
    2 * val (s ++ [u]) + a.getD 0 0 % 2 = val (a.take (s.length + 1)) + pw (s.length + 1) * (y % 2) := by
  rw [take_getD, hx, val_snoc, pw_succ]
  have e : pw s.length * (2 * u) + pw s.length * (x % 2) = pw s.length * x + 4294967296 * pw s.length * (y % 2) := by
    rw [← Nat.mul_add, hu, Nat.mul_add]; grind
  have e2 : 2 * (pw s.length * u) = pw s.length * (2 * u) := by grind
  omega
theorem two1 : (2 : Int) ^ min (Int.toNat 1) 64 = 2 := rfl
theorem le1 : (0 : Int) ≤ 1 := by omega
theorem fdiv2 (n : Nat) : (n : Int).fdiv 2 = ((n / 2 : Nat) : Int) := by
  rw [Int.fdiv_eq_ediv_of_nonneg _ (by omega)]; omega
set_option maxHeartbeats 2000000 in
theorem r1half_c (a : List Nat) (ha : Dig a) (hla : a.length < 1000000000000) : AT 143 [.nat a] (natN (val a / 2)) := by
  have m1 : (a.length : Int) * ((4 : Nat) : Int) ≤ 140737488355328 := by omega
  have m2 : (a.length : Int) ≤ 9223372036854775807 := by omega
  refine ACalls.of 5 (fn := Tryz.f143) Tryz.func143 rfl rfl rfl (by kernel_rfl) (by kernel_rfl) (Nat.le_of_ble_eq_true rfl) ?_
  simp -implicitDefEqProofs only [Int.toNat_natCast, Int.natCast_nonneg, Int.le_refl, m1, m2, go_sem, awp_seq, Nat.reduceBNe, Nat.reduceBEq, Nat.reduceAdd, Nat.reduceSub, Nat.reduceMul, Nat.reduceLeDiff, Nat.reduceLT, Nat.reduceEqDiff, Nat.reduceBneDiff]
  refine loop_mk (α := {s : List Nat // s.length ≤ a.length ∧ Dig s ∧ 2 * val s + a.getD 0 0 % 2 = val (a.take s.length) + pw s.length * (a.getD s.length 0 % 2)}) (fun x => [(0, some (.av (.nat a))), (3, some (.osl 7 1 0 a.length)), (4, some (.av (i64 (x.1.length : Nat))))]) (fun _ => []) (fun x => [(7, .limb 55 (x.1 ++ List.replicate (a.length - x.1.length) 0))]) (fun x => a.length - x.1.length) ⟨[], by simp, dig_nil, by simp [val, pw_zero]⟩ ?_ ?_
  · simp -implicitDefEqProofs only [go_sem, awp_seq, Nat.reduceBNe, Nat.reduceBEq, Nat.reduceAdd, Nat.reduceSub, Nat.reduceMul, Nat.reduceLeDiff, Nat.reduceLT, Nat.reduceEqDiff, Nat.reduceBneDiff]
    exact ⟨rfl, rfl⟩
  · rintro ⟨s, hs, hds, hv⟩
    by_cases hlt : s.length < a.length
    · have f1 : decide ((s.length : Int) < (a.length : Nat)) = true := by simp; omega
      have n3 : IntKind.i64.wrap ((s.length : Int) + 1) = ((s.length + 1 : Nat) : Int) := by rw [IntWalk.i64_in _ (by omega)]; omega
      simp -implicitDefEqProofs only [f1, n3, go_sem, awp_seq, Nat.reduceBNe, Nat.reduceBEq, Nat.reduceAdd, Nat.reduceSub, Nat.reduceMul, Nat.reduceLeDiff, Nat.reduceLT, Nat.reduceEqDiff, Nat.reduceBneDiff]
      refine callA_tt (r1limb_c a ha (s.length + 1)) ?_
      have dx := dig_getD ha s.length
      have dy := dig_getD ha (s.length + 1)
      have hget := getD_some hlt
      obtain ⟨x, hx⟩ : ∃ x, a.getD s.length 0 = x := ⟨_, rfl⟩
      obtain ⟨y, hy⟩ : ∃ y, a.getD (s.length + 1) 0 = y := ⟨_, rfl⟩
      rw [hx] at dx hget
      rw [hy] at dy
      have n1 : IntKind.u64.wrap ((y : Int) * 4294967296) = ((y * 4294967296 : Nat) : Int) := by rw [IntWalk.u64_in _ (by omega)]; omega
      have n2 : IntKind.u64.wrap (x : Int) = (x : Int) := IntWalk.u64_in _ (by omega)
      have n4 : IntKind.u64.wrap (((y * 4294967296 : Nat) : Int) + x) = ((y * 4294967296 + x : Nat) : Int) := by rw [IntWalk.u64_in _ (by omega)]; omega
      have m3 : (((y * 4294967296 + x) / 2 % 4294967296 : Nat) : Int) < 4294967296 := by omega
      simp -implicitDefEqProofs only [hy, n1, n2, n3, n4, two32, two1, le1, le32, fdiv2, w32, Int.toNat_natCast, Int.natCast_nonneg, hget, hlt, m3, fill_len s a.length hs, set_fill s a.length _ hlt, go_sem, awp_seq, Nat.reduceBNe, Nat.reduceBEq, Nat.reduceAdd, Nat.reduceSub, Nat.reduceMul, Nat.reduceLeDiff, Nat.reduceLT, Nat.reduceEqDiff, Nat.reduceBneDiff]
      refine roundK_mk ⟨s ++ [(y * 4294967296 + x) / 2 % 4294967296], ?_⟩ ?_ ?_
      · simp only [List.length_append, List.length_cons, List.length_nil, Nat.zero_add]
        refine ⟨by omega, dig_snoc hds (by omega), ?_⟩
        rw [hy]
        rw [hx] at hv
        exact half_next hx (by omega) hv
      · simp -implicitDefEqProofs only [go_sem, awp_seq, Nat.reduceBNe, Nat.reduceBEq, Nat.reduceAdd, Nat.reduceSub, Nat.reduceMul, Nat.reduceLeDiff, Nat.reduceLT, Nat.reduceEqDiff, Nat.reduceBneDiff]
      · simp; omega
    · have f1 : decide ((a.length : Int) < (a.length : Nat)) = false := by simp
      have hl : s.length = a.length := by omega
      rw [hl, List.take_length, show a.getD a.length 0 = 0 by simp] at hv
      have hend : val s = val a / 2 := by omega
      have hfill : s ++ List.replicate (a.length - a.length) 0 = s := by rw [Nat.sub_self]; simp
      have htake : s.take a.length = s := by rw [← hl, List.take_length]
      simp -implicitDefEqProofs only [f1, hfill, htake, hl, Nat.le_refl, go_sem, awp_seq, Nat.reduceBNe, Nat.reduceBEq, Nat.reduceAdd, Nat.reduceSub, Nat.reduceMul, Nat.reduceLeDiff, Nat.reduceLT, Nat.reduceEqDiff, Nat.reduceBneDiff]
      refine callA_rowTT (r1norm_c s hds (by omega)) ?_ ?_ <;> simp -implicitDefEqProofs only [hend, hfill, htake, hl, go_sem, awp_seq, Nat.reduceBNe, Nat.reduceBEq, Nat.reduceAdd, Nat.reduceSub, Nat.reduceMul, Nat.reduceLeDiff, Nat.reduceLT, Nat.reduceEqDiff, Nat.reduceBneDiff]
/-- How many binary digits a number has. -/
def bitsN (n : Nat) : Nat := if h : n = 0 then 0 else bitsN (n / 2) + 1
termination_by n
decreasing_by omega
theorem bitsN_zero : bitsN 0 = 0 := by unfold bitsN; simp
theorem bitsN_pos {n : Nat} (h : 0 < n) : bitsN n = bitsN (n / 2) + 1 := by rw [bitsN, dif_neg (by omega)]
theorem bitsN_shift (j : Nat) : ∀ (m r : Nat), 0 < m → r < 2 ^ j → bitsN (r + 2 ^ j * m) = j + bitsN m := by
  induction j with
  | zero => intro m r hm hr; simp at hr; subst hr; simp
  | succ j ih =>
    intro m r hm hr
    rw [Nat.pow_succ] at hr ⊢
    have hp : 0 < 2 ^ j := Nat.two_pow_pos j
    have h1 : 0 < 2 ^ j * 2 * m := Nat.mul_pos (Nat.mul_pos hp (by omega)) hm
    rw [bitsN_pos (by omega)]
    have h2 : (r + 2 ^ j * 2 * m) / 2 = r / 2 + 2 ^ j * m := by
      rw [show 2 ^ j * 2 * m = 2 * (2 ^ j * m) by grind]; omega
    rw [h2, ih m (r / 2) hm (by omega)]
    omega
theorem bitsN_lt (n : Nat) : n < 2 ^ bitsN n := by
  induction n using Nat.strongRecOn with
  | _ n ih =>
    by_cases h : n = 0
    · subst h; simp [bitsN_zero]
    · rw [bitsN_pos (by omega), Nat.pow_succ]
      have := ih (n / 2) (by omega)
      omega
theorem bitsN_le {n : Nat} (h : 0 < n) : 2 ^ (bitsN n - 1) ≤ n := by
  induction n using Nat.strongRecOn with
  | _ n ih =>
    rw [bitsN_pos h]
    by_cases h1 : n / 2 = 0
    · rw [h1, bitsN_zero]; simp; omega
    · have := ih (n / 2) (by omega) (by omega)
      have h2 := bitsN_pos (show 0 < n / 2 by omega)
      rw [show bitsN (n / 2) + 1 - 1 = (bitsN (n / 2) - 1) + 1 by omega, Nat.pow_succ]
      omega
theorem pw_two (k : Nat) : pw k = 2 ^ (32 * k) := by unfold pw; rw [show 4294967296 = 2 ^ 32 from rfl, ← Nat.pow_mul]
theorem limbs_last {n : Nat} (h : 0 < n) : ∃ lo top, n = lo + pw ((limbs n).length - 1) * top ∧ lo < pw ((limbs n).length - 1) ∧ (limbs n)[(limbs n).length - 1]? = some top ∧ 0 < top ∧ top < 4294967296 := by
  have hl : 0 < (limbs n).length := by
    cases he : limbs n with
    | nil => have := limbs_eq_nil.1 he; omega
    | cons => simp
  have hlt : (limbs n).length - 1 < (limbs n).length := by omega
  refine ⟨val ((limbs n).take ((limbs n).length - 1)), (limbs n)[(limbs n).length - 1], ?_, ?_, List.getElem?_eq_getElem hlt, ?_, dig_get (dig_limbs n) hlt⟩
  · have h1 := val_take_succ (limbs n) _ hlt
    rw [show (limbs n).length - 1 + 1 = (limbs n).length by omega, List.take_length, val_limbs] at h1
    exact h1
  · exact take_lt (dig_limbs n) _
  · have := nrm_limbs n hl; omega
theorem bitsN_small {n j : Nat} (h : n < 2 ^ j) : bitsN n ≤ j := by
  by_cases h0 : n = 0
  · subst h0; rw [bitsN_zero]; omega
  · have h1 := bitsN_le (show 0 < n by omega)
    have h2 := Nat.lt_of_le_of_lt h1 h
    have h3 := (Nat.pow_lt_pow_iff_right (by omega : 1 < 2)).1 h2
    omega
theorem bitsN_top {n : Nat} (h : 0 < n) {top : Nat} (ht : (limbs n)[(limbs n).length - 1]? = some top) : bitsN n = 32 * ((limbs n).length - 1) + bitsN top := by
  obtain ⟨lo, t, h1, h2, h3, h4, _⟩ := limbs_last h
  rw [ht] at h3
  cases h3
  rw [pw_two] at h1 h2
  conv => lhs; rw [h1]
  exact bitsN_shift _ _ _ h4 h2
set_option maxHeartbeats 2000000 in
theorem r1bits_c (a : List Nat) (ha : Dig a) (hla : a.length < 1000000000000) : AT 111 [.nat a] (i64 (bitsN (val a) : Nat)) := by
  have hnl := nlen_val ha
  refine ACalls.of 5 (fn := Tryz.f111) Tryz.func111 rfl rfl rfl (by kernel_rfl) (by kernel_rfl) (Nat.le_of_ble_eq_true rfl) ?_
  simp -implicitDefEqProofs only [go_sem, awp_seq, Nat.reduceBNe, Nat.reduceBEq, Nat.reduceAdd, Nat.reduceSub, Nat.reduceMul, Nat.reduceLeDiff, Nat.reduceLT, Nat.reduceEqDiff, Nat.reduceBneDiff]
  refine callA_tt (r1norm_c a ha (by omega)) ?_
  generalize val a = n at *
  by_cases h0 : n = 0
  · subst h0
    have f1 : (((limbs 0).length : Int) == 0) = true := by rw [limbs_zero]; rfl
    simp -implicitDefEqProofs only [f1, bitsN_zero, go_sem, awp_seq, Nat.reduceBNe, Nat.reduceBEq, Nat.reduceAdd, Nat.reduceSub, Nat.reduceMul, Nat.reduceLeDiff, Nat.reduceLT, Nat.reduceEqDiff, Nat.reduceBneDiff]
    rfl
  · obtain ⟨lo, top, _, _, h3, h4, h5⟩ := limbs_last (show 0 < n by omega)
    have hb := bitsN_top (by omega) h3
    have hl : 0 < (limbs n).length := by
      cases he : limbs n with
      | nil => have := limbs_eq_nil.1 he; omega
      | cons => simp
    have hl2 : (limbs n).length = nlen n := rfl
    generalize hL : limbs n = L at *
    have f1 : ((L.length : Int) == 0) = false := by rw [beq_eq_false_iff_ne]; omega
    have n1 : IntKind.i64.wrap ((L.length : Int) - 1) = ((L.length - 1 : Nat) : Int) := by rw [IntWalk.i64_in _ (by omega)]; omega
    have n2 : IntKind.i64.wrap (32 * ((L.length - 1 : Nat) : Int)) = ((32 * (L.length - 1) : Nat) : Int) := by rw [IntWalk.i64_in _ (by omega)]; omega
    have hB : bitsN n < 33000000000000 := by have := bitsN_small (j := 32) h5; omega
    simp -implicitDefEqProofs only [natN, hL, f1, n1, n2, h3, Int.toNat_natCast, Int.natCast_nonneg, go_sem, awp_seq, Nat.reduceBNe, Nat.reduceBEq, Nat.reduceAdd, Nat.reduceSub, Nat.reduceMul, Nat.reduceLeDiff, Nat.reduceLT, Nat.reduceEqDiff, Nat.reduceBneDiff]
    refine loop_mk (α := {x : Nat × Nat // x.1 < 4294967296 ∧ x.2 + bitsN x.1 = bitsN n}) (fun x => [(3, some (.av (i64 (x.1.2 : Nat)))), (4, some (.av (.lit (.int .u32 (x.1.1 : Nat)))))]) (fun _ => []) (fun _ => []) (fun x => x.1.1) ⟨(top, 32 * (L.length - 1)), h5, hb.symm⟩ ?_ ?_
    · simp -implicitDefEqProofs only [go_sem, awp_seq, Nat.reduceBNe, Nat.reduceBEq, Nat.reduceAdd, Nat.reduceSub, Nat.reduceMul, Nat.reduceLeDiff, Nat.reduceLT, Nat.reduceEqDiff, Nat.reduceBneDiff]
    · rintro ⟨⟨x, k⟩, hx, hk⟩
      dsimp only at hx hk
      by_cases hx0 : x = 0
      · subst hx0
        have g1 : decide ((0 : Int) < ((0 : Nat) : Int)) = false := by simp
        rw [bitsN_zero, Nat.add_zero] at hk
        simp -implicitDefEqProofs only [g1, hk, go_sem, awp_seq, Nat.reduceBNe, Nat.reduceBEq, Nat.reduceAdd, Nat.reduceSub, Nat.reduceMul, Nat.reduceLeDiff, Nat.reduceLT, Nat.reduceEqDiff, Nat.reduceBneDiff]
      · have g1 : decide ((0 : Int) < (x : Nat)) = true := by simp; omega
        have hbp := bitsN_pos (show 0 < x by omega)
        have p1 : IntKind.i64.wrap ((k : Int) + 1) = ((k + 1 : Nat) : Int) := by rw [IntWalk.i64_in _ (by omega)]; omega
        have p2 : IntKind.u32.wrap ((x : Int).tdiv 2) = ((x / 2 : Nat) : Int) := by rw [IntWalk.u32_quo _ _ (by omega)]; omega
        have p3 : ¬ ((2 : Int) = 0) := by omega
        simp -implicitDefEqProofs only [g1, p1, p2, p3, go_sem, awp_seq, Nat.reduceBNe, Nat.reduceBEq, Nat.reduceAdd, Nat.reduceSub, Nat.reduceMul, Nat.reduceLeDiff, Nat.reduceLT, Nat.reduceEqDiff, Nat.reduceBneDiff]
        refine roundK_mk ⟨(x / 2, k + 1), by show x / 2 < _; omega, ?_⟩ ?_ (by show x / 2 < x; omega)
        · show k + 1 + bitsN (x / 2) = _
          rw [← hk, bitsN_pos (show 0 < x by omega)]
          omega
        · simp -implicitDefEqProofs only [go_sem, awp_seq, Nat.reduceBNe, Nat.reduceBEq, Nat.reduceAdd, Nat.reduceSub, Nat.reduceMul, Nat.reduceLeDiff, Nat.reduceLT, Nat.reduceEqDiff, Nat.reduceBneDiff]
end Go.Proofs.YtnifjdhjimjihaaGreatDoor
