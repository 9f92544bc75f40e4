import Derived.Test.YtcggnmddcbhchaaGreatDoorQWa
/- Texts merged: Wr1 Wr2 Wr3 Wr4 Wr5 Wr6 Wr7 WLaw4 WLawM WMono WNear Wr8. -/
set_option linter.unusedSimpArgs false
set_option linter.unusedVariables false
namespace Go.Proofs.YtcggnmddcbhchaaGreatDoor
open Go.RowKit Lim
theorem getD_some {l : List Nat} {i : Nat} (h : i < l.length) : l[i]? = some (l.getD i 0) := by rw [List.getElem?_eq_getElem h, List.getD_eq_getElem?_getD, List.getElem?_eq_getElem h]; rfl
theorem r1limb_c (l : List Nat) (hd : Dig l) (i : Nat) : AT 136 [.nat l, i64 (i : Nat)] (u64 (l.getD i 0 : Nat)) := by
  refine ACalls.of ⟨5, [], []⟩ (fn := Tryz.f136) Tryz.func136 rfl rfl rfl (by kernel_rfl) (by kernel_rfl) (Nat.le_of_ble_eq_true rfl) ?_
  by_cases h : i < l.length
  · have e1 : decide ((i : Int) < (l.length : Nat)) = true := by simp; omega
    have hx := dig_getD hd i
    have w1 : IntKind.u64.wrap ((l.getD i 0 : Nat) : Int) = ((l.getD i 0 : Nat) : Int) := IntWalk.u64_in _ (by omega)
    simp (maxSteps := 1000000) -implicitDefEqProofs only [e1, Int.toNat_natCast, getD_some h, w1, Int.natCast_nonneg, go_sem, awp_seq, Nat.reduceBNe, Nat.reduceBEq, Nat.reduceAdd, Nat.reduceSub, Nat.reduceMul, Nat.reduceLeDiff, Nat.reduceLT, Nat.reduceEqDiff, Nat.reduceBneDiff]
  · have e1 : decide ((i : Int) < (l.length : Nat)) = false := by simp; omega
    have e2 : l.getD i 0 = 0 := by simp [List.getElem?_eq_none (show l.length ≤ i by omega)]
    simp (maxSteps := 1000000) -implicitDefEqProofs only [e1, e2, go_sem, awp_seq, Nat.reduceBNe, Nat.reduceBEq, Nat.reduceAdd, Nat.reduceSub, Nat.reduceMul, Nat.reduceLeDiff, Nat.reduceLT, Nat.reduceEqDiff, Nat.reduceBneDiff]
    rfl
theorem norm_end {l : List Nat} (hd : Dig l) {k : Nat} (hk : k ≤ l.length) (hz : val (l.drop k) = 0) (hn : k = 0 ∨ l.getD (k - 1) 0 ≠ 0) : limbs (val l) = l.take k :=
  limbs_take hd hk hz fun h0 => by
    rcases hn with h | h
    · omega
    · rw [List.getD_eq_getElem?_getD, List.getElem?_eq_getElem (show k - 1 < l.length by omega)] at h
      simpa using h
theorem norm_fin {l : List Nat} (hd : Dig l) {k : Nat} (hk : k ≤ l.length) (hz : val (l.drop k) = 0) (hn : k = 0 ∨ l.getD (k - 1) 0 ≠ 0) : k ≤ k + ((List.replicate k 0).drop k).length ∧ AV.nat ((l.take k ++ (List.replicate k 0).drop k).take k) = natN (val l) := by
  refine ⟨by omega, ?_⟩
  rw [List.drop_eq_nil_of_le (by simp), List.append_nil, List.take_take, Nat.min_self, ← norm_end hd hk hz hn]
set_option maxHeartbeats 1000000 in
theorem r1norm_c (l : List Nat) (hd : Dig l) (hl : l.length < 1099511627776) : AT 133 [.nat l] (natN (val l)) := by
  refine ACalls.of ⟨5, [], []⟩ (fn := Tryz.f133) Tryz.func133 rfl rfl rfl (by kernel_rfl) (by kernel_rfl) (Nat.le_of_ble_eq_true rfl) ?_
  simp (maxSteps := 1000000) -implicitDefEqProofs only [go_sem, awp_seq, Nat.reduceBNe, Nat.reduceBEq, Nat.reduceAdd, Nat.reduceSub, Nat.reduceMul, Nat.reduceLeDiff, Nat.reduceLT, Nat.reduceEqDiff, Nat.reduceBneDiff]
  refine loop_mk (α := {k : Nat // k ≤ l.length ∧ val (l.drop k) = 0}) (fun k => [(0, some (.av (.nat l))), (3, some (.av (i64 (k.1 : Nat))))]) (fun _ => []) (fun _ => []) (fun k => k.1) ⟨l.length, Nat.le_refl _, by simp [val]⟩ ?_ ?_
  · simp (maxSteps := 1000000) -implicitDefEqProofs only [go_sem, awp_seq, Nat.reduceBNe, Nat.reduceBEq, Nat.reduceAdd, Nat.reduceSub, Nat.reduceMul, Nat.reduceLeDiff, Nat.reduceLT, Nat.reduceEqDiff, Nat.reduceBneDiff]
  · rintro ⟨k, hk, hz⟩
    have w1 : 0 < k → IntKind.i64.wrap ((k : Int) - 1) = ((k - 1 : Nat) : Int) := fun h => by rw [IntWalk.i64_in _ (by omega)]; omega
    have m1 : (k : Int) * ((4 : Nat) : Int) ≤ 140737488355328 := by omega
    have m2 : (k : Int) ≤ 9223372036854775807 := by omega
    have hmin : min k l.length = k := Nat.min_eq_left hk
    by_cases h0 : 0 < k
    · have e1 : decide ((0 : Int) < (k : Nat)) = true := by simp; omega
      by_cases hx : l.getD (k - 1) 0 = 0
      · have e2 : (((l.getD (k - 1) 0 : Nat) : Int) == 0) = true := by rw [hx]; rfl
        simp (maxSteps := 1000000) -implicitDefEqProofs only [e1, w1 h0, e2, Int.toNat_natCast, getD_some (show k - 1 < l.length by omega), Int.natCast_nonneg, go_sem, awp_seq, Nat.reduceBNe, Nat.reduceBEq, Nat.reduceAdd, Nat.reduceSub, Nat.reduceMul, Nat.reduceLeDiff, Nat.reduceLT, Nat.reduceEqDiff, Nat.reduceBneDiff]
        refine roundK_mk ⟨k - 1, by omega, ?_⟩ ?_ (by show k - 1 < k; omega)
        · rw [val_drop_cons l (k - 1) (by omega), show k - 1 + 1 = k by omega, hz]
          rw [List.getD_eq_getElem?_getD, List.getElem?_eq_getElem (show k - 1 < l.length by omega)] at hx
          simpa using hx
        · simp (maxSteps := 1000000) -implicitDefEqProofs only [go_sem, awp_seq, Nat.reduceBNe, Nat.reduceBEq, Nat.reduceAdd, Nat.reduceSub, Nat.reduceMul, Nat.reduceLeDiff, Nat.reduceLT, Nat.reduceEqDiff, Nat.reduceBneDiff]
      · have e2 : (((l.getD (k - 1) 0 : Nat) : Int) == 0) = false := by rw [beq_eq_false_iff_ne]; omega
        simp (maxSteps := 1000000) -implicitDefEqProofs only [e1, w1 h0, e2, Int.toNat_natCast, getD_some (show k - 1 < l.length by omega), Int.natCast_nonneg, Int.le_refl, m1, m2, List.length_take, hmin, go_sem, awp_seq, Nat.reduceBNe, Nat.reduceBEq, Nat.reduceAdd, Nat.reduceSub, Nat.reduceMul, Nat.reduceLeDiff, Nat.reduceLT, Nat.reduceEqDiff, Nat.reduceBneDiff]
        exact norm_fin hd hk hz (.inr hx)
    · have e1 : decide ((0 : Int) < (k : Nat)) = false := by simp; omega
      simp (maxSteps := 1000000) -implicitDefEqProofs only [e1, Int.toNat_natCast, Int.natCast_nonneg, Int.le_refl, m1, m2, List.length_take, hmin, go_sem, awp_seq, Nat.reduceBNe, Nat.reduceBEq, Nat.reduceAdd, Nat.reduceSub, Nat.reduceMul, Nat.reduceLeDiff, Nat.reduceLT, Nat.reduceEqDiff, Nat.reduceBneDiff]
      exact norm_fin hd hk hz (.inl (by omega))
theorem callA_rowTT {C : Ctx} {ops : Array Oper} {os : List Oper} {l : LT} {m : LM} {q : LQ} {K : AS → Prop} {t : Nat} {f : FuncId} {args : List AV} {us : List Nat} {r : AV} (h : ACalls C.t f args r) (hk1 : arun C.t false ops os ⟨ofT (setT (frzL q us l) t (.av r)), ofL m, ofL (delsL us q)⟩ K) (hk2 : arun C.t false ops os ⟨ofT (setT l t (.av r)), ofL m, ofL q⟩ K) : callA C.t false ops os l m q (some t) f args us K := by
  cases hf : r.flat with
  | true => exact callA_flatTT h hf hk2
  | false => exact callA_frzTT h hf hk1
theorem set_fill (s : List Nat) (N x : Nat) (h : s.length < N) : (s ++ List.replicate (N - s.length) 0).set s.length x = s ++ [x] ++ List.replicate (N - (s.length + 1)) 0 := by
  rw [List.set_append_right _ _ (Nat.le_refl _), Nat.sub_self, show N - s.length = (N - (s.length + 1)) + 1 by omega, List.replicate_succ]
  simp
theorem fill_len (s : List Nat) (N : Nat) (h : s.length ≤ N) : s.length + (N - s.length) = N := by omega
theorem two32 : (2 : Int) ^ min (Int.toNat 32) 64 = 4294967296 := rfl
theorem shr32 (n : Nat) : (n : Int).fdiv 4294967296 = ((n / 4294967296 : Nat) : Int) := by
  rw [Int.fdiv_eq_ediv_of_nonneg _ (by omega)]; omega
theorem w32 (n : Nat) : IntKind.u32.wrap (n : Int) = ((n % 4294967296 : Nat) : Int) := by rw [IntKind.wrap_u32]; omega
theorem wr64 {n : Nat} (h : n < 18446744073709551616) : IntKind.u64.wrap (n : Int) = (n : Int) := IntWalk.u64_in _ (by omega)
theorem w63 {n : Nat} (h : n < 9223372036854775808) : IntKind.i64.wrap (n : Int) = (n : Int) := IntWalk.i64_in _ (by omega)
theorem le32 : (0 : Int) ≤ 32 := by omega
theorem r1of_c (n : Nat) (hn : n < 18446744073709551616) : AT 72 [u64 (n : Nat)] (natN n) := by
  have m1 : ((n % 4294967296 : Nat) : Int) < 4294967296 := by omega
  have m2 : ((n / 4294967296 % 4294967296 : Nat) : Int) < 4294967296 := by omega
  have hv : val [n % 4294967296, n / 4294967296 % 4294967296] = n := by simp only [val]; omega
  refine ACalls.of ⟨3, [], []⟩ (fn := Tryz.f72) Tryz.func72 rfl rfl rfl (by kernel_rfl) (by kernel_rfl) (Nat.le_of_ble_eq_true rfl) ?_
  simp (maxSteps := 1000000) -implicitDefEqProofs only [two32, shr32, w32, le32, Int.toNat_natCast, Int.natCast_nonneg, m1, m2, go_sem, awp_seq, Nat.reduceBNe, Nat.reduceBEq, Nat.reduceAdd, Nat.reduceSub, Nat.reduceMul, Nat.reduceLeDiff, Nat.reduceLT, Nat.reduceEqDiff, Nat.reduceBneDiff]
  refine callA_tt (r1norm_c _ (dig_cons.2 ⟨by omega, dig_cons.2 ⟨by omega, dig_nil⟩⟩) (by simp)) ?_
  simp (maxSteps := 1000000) -implicitDefEqProofs only [hv, go_sem, awp_seq, Nat.reduceBNe, Nat.reduceBEq, Nat.reduceAdd, Nat.reduceSub, Nat.reduceMul, Nat.reduceLeDiff, Nat.reduceLT, Nat.reduceEqDiff, Nat.reduceBneDiff]
theorem take_getD (l : List Nat) (k : Nat) : val (l.take (k + 1)) = val (l.take k) + pw k * l.getD k 0 := val_take_succ' l k
theorem val_take_cmp {a b : List Nat} (ha : Dig a) (hb : Dig b) (k : Nat) (h : val (a.take k) < val (b.take k)) (hk : ∀ j, k ≤ j → a.getD j 0 = b.getD j 0) : val a < val b := by
  have key : ∀ n, val (a.take (k + n)) < val (b.take (k + n)) := fun n => by
    induction n with
    | zero => exact h
    | succ n ih => rw [← Nat.add_assoc, take_getD, take_getD, hk (k + n) (by omega)]; omega
  have := key (a.length + b.length)
  rwa [List.take_of_length_le (by omega), List.take_of_length_le (by omega)] at this
theorem take_lt {a : List Nat} (ha : Dig a) (k : Nat) : val (a.take k) < pw k := by
  have h := val_lt (dig_take ha k)
  exact Nat.lt_of_lt_of_le h (pw_mono (by simp; omega))
theorem cmp_lt {a b : List Nat} (ha : Dig a) (hb : Dig b) (k : Nat) (h : a.getD k 0 < b.getD k 0) (hk : ∀ j, k + 1 ≤ j → a.getD j 0 = b.getD j 0) : val a < val b := by
  refine val_take_cmp ha hb (k + 1) ?_ hk
  rw [take_getD, take_getD]
  have h1 := take_lt ha k
  have h2 : pw k * (a.getD k 0 + 1) ≤ pw k * b.getD k 0 := Nat.mul_le_mul_left _ h
  rw [Nat.mul_add] at h2
  omega
theorem cmp_eq {a b : List Nat} (hk : ∀ j, a.getD j 0 = b.getD j 0) : val a = val b := by
  have key : ∀ n, val (a.take n) = val (b.take n) := fun n => by
    induction n with
    | zero => simp
    | succ n ih => rw [take_getD, take_getD, hk n, ih]
  have := key (a.length + b.length)
  rwa [List.take_of_length_le (by omega), List.take_of_length_le (by omega)] at this
set_option maxHeartbeats 1000000 in
theorem r1cmp_c (a b : List Nat) (ha : Dig a) (hb : Dig b) (hla : a.length < 1000000000000) (hlb : b.length < 1000000000000) : AT 71 [.nat a, .nat b] (i64 (cmpI (val a) (val b))) := by
  have m0 : (if ((b.length : Nat) : Int) > (a.length : Nat) then ((b.length : Nat) : Int) else (a.length : Nat)) = ((max a.length b.length : Nat) : Int) := by split <;> omega
  generalize hN : max a.length b.length = N at *
  have w0 : ∀ k : Nat, k ≤ N → IntKind.i64.wrap ((k : Int) - 1) = ((k : Int) - 1) := fun k hk => IntWalk.i64_in _ (by omega)
  refine ACalls.of ⟨8, [], []⟩ (fn := Tryz.f71) Tryz.func71 rfl rfl rfl (by kernel_rfl) (by kernel_rfl) (Nat.le_of_ble_eq_true rfl) ?_
  simp (maxSteps := 1000000) -implicitDefEqProofs only [m0, w0 N (Nat.le_refl _), go_sem, awp_seq, Nat.reduceBNe, Nat.reduceBEq, Nat.reduceAdd, Nat.reduceSub, Nat.reduceMul, Nat.reduceLeDiff, Nat.reduceLT, Nat.reduceEqDiff, Nat.reduceBneDiff]
  refine loop_mk (α := {k : Nat // k ≤ N ∧ ∀ j, k ≤ j → a.getD j 0 = b.getD j 0}) (fun k => [(0, some (.av (.nat a))), (1, some (.av (.nat b))), (5, some (.av (i64 ((k.1 : Int) - 1))))]) (fun _ => []) (fun _ => []) (fun k => k.1) ⟨N, Nat.le_refl _, fun j hj => by simp [List.getElem?_eq_none (show a.length ≤ j by omega), List.getElem?_eq_none (show b.length ≤ j by omega)]⟩ ?_ ?_
  · simp (maxSteps := 1000000) -implicitDefEqProofs only [go_sem, awp_seq, Nat.reduceBNe, Nat.reduceBEq, Nat.reduceAdd, Nat.reduceSub, Nat.reduceMul, Nat.reduceLeDiff, Nat.reduceLT, Nat.reduceEqDiff, Nat.reduceBneDiff]
  · rintro ⟨k, hk, hj⟩
    cases k with
    | zero =>
      have e0 : cmpI (val a) (val b) = 0 := by rw [cmp_eq fun j => hj j (Nat.zero_le _)]; exact cmpI_self _
      have e1 : decide ((0 : Int) ≤ ((0 : Nat) : Int) - 1) = false := by simp
      simp (maxSteps := 1000000) -implicitDefEqProofs only [e0, e1, go_sem, awp_seq, Nat.reduceBNe, Nat.reduceBEq, Nat.reduceAdd, Nat.reduceSub, Nat.reduceMul, Nat.reduceLeDiff, Nat.reduceLT, Nat.reduceEqDiff, Nat.reduceBneDiff]
    | succ k =>
      have e1 : decide ((0 : Int) ≤ (k : Nat)) = true := by simp
      have e2 : ((k + 1 : Nat) : Int) - 1 = (k : Int) := by omega
      simp (maxSteps := 1000000) -implicitDefEqProofs only [e1, e2, w0 k (by omega), go_sem, awp_seq, Nat.reduceBNe, Nat.reduceBEq, Nat.reduceAdd, Nat.reduceSub, Nat.reduceMul, Nat.reduceLeDiff, Nat.reduceLT, Nat.reduceEqDiff, Nat.reduceBneDiff]
      refine callA_tt (r1limb_c a ha k) ?_
      simp (maxSteps := 1000000) -implicitDefEqProofs only [go_sem, awp_seq, Nat.reduceBNe, Nat.reduceBEq, Nat.reduceAdd, Nat.reduceSub, Nat.reduceMul, Nat.reduceLeDiff, Nat.reduceLT, Nat.reduceEqDiff, Nat.reduceBneDiff]
      refine callA_tt (r1limb_c b hb k) ?_
      rcases Nat.lt_trichotomy (a.getD k 0) (b.getD k 0) with h | h | h
      · have d1 : decide (((a.getD k 0 : Nat) : Int) < (b.getD k 0 : Nat)) = true := by rw [decide_eq_true_eq]; omega
        have e3 : cmpI (val a) (val b) = -1 := cmpI_lt (cmp_lt ha hb k h hj)
        simp (maxSteps := 1000000) -implicitDefEqProofs only [d1, e3, go_sem, awp_seq, Nat.reduceBNe, Nat.reduceBEq, Nat.reduceAdd, Nat.reduceSub, Nat.reduceMul, Nat.reduceLeDiff, Nat.reduceLT, Nat.reduceEqDiff, Nat.reduceBneDiff]
      · have d1 : decide (((a.getD k 0 : Nat) : Int) < (b.getD k 0 : Nat)) = false := by rw [decide_eq_false_iff_not]; omega
        have d2 : decide (((b.getD k 0 : Nat) : Int) < (a.getD k 0 : Nat)) = false := by rw [decide_eq_false_iff_not]; omega
        simp (maxSteps := 1000000) -implicitDefEqProofs only [d1, d2, w0 k (by omega), go_sem, awp_seq, Nat.reduceBNe, Nat.reduceBEq, Nat.reduceAdd, Nat.reduceSub, Nat.reduceMul, Nat.reduceLeDiff, Nat.reduceLT, Nat.reduceEqDiff, Nat.reduceBneDiff]
        refine roundK_mk ⟨k, by omega, fun j hjj => ?_⟩ ?_ (by show k < k + 1; omega)
        · rcases Nat.lt_or_eq_of_le hjj with h1 | h1
          · exact hj j h1
          · subst h1; exact h
        · simp (maxSteps := 1000000) -implicitDefEqProofs only [go_sem, awp_seq, Nat.reduceBNe, Nat.reduceBEq, Nat.reduceAdd, Nat.reduceSub, Nat.reduceMul, Nat.reduceLeDiff, Nat.reduceLT, Nat.reduceEqDiff, Nat.reduceBneDiff]
      · have d1 : decide (((a.getD k 0 : Nat) : Int) < (b.getD k 0 : Nat)) = false := by rw [decide_eq_false_iff_not]; omega
        have d2 : decide (((b.getD k 0 : Nat) : Int) < (a.getD k 0 : Nat)) = true := by rw [decide_eq_true_eq]; omega
        have e3 : cmpI (val a) (val b) = 1 := cmpI_gt (cmp_lt hb ha k h (fun j hjj => (hj j hjj).symm))
        simp (maxSteps := 1000000) -implicitDefEqProofs only [d1, d2, e3, go_sem, awp_seq, Nat.reduceBNe, Nat.reduceBEq, Nat.reduceAdd, Nat.reduceSub, Nat.reduceMul, Nat.reduceLeDiff, Nat.reduceLT, Nat.reduceEqDiff, Nat.reduceBneDiff]
theorem sub_next {a b s : List Nat} {c x y : Nat} (hx : a.getD s.length 0 = x) (hy : b.getD s.length 0 = y) (h : val s + val (b.take s.length) = val (a.take s.length) + pw s.length * c) (u c' : Nat) (hu : u + (y + c) = x + 4294967296 * c') :
    val (s ++ [u]) + val (b.take (s.length + 1)) = val (a.take (s.length + 1)) + pw (s.length + 1) * c' := by
  rw [take_getD, take_getD, hx, hy, val_snoc, pw_succ]
  have e : pw s.length * u + (pw s.length * y + pw s.length * c) = pw s.length * x + 4294967296 * pw s.length * c' := by
    rw [← Nat.mul_add, ← Nat.mul_add, hu, Nat.mul_add]; grind
  omega
theorem sub_end {a b s : List Nat} {c : Nat} (ha : Dig a) (hb : Dig b) (hs : Dig s) (hle : val b ≤ val a) (hl : s.length = a.length) (h : val s + val (b.take a.length) = val a + pw a.length * c) : val s = val a - val b := by
  have h1 := val_lt hs
  rw [hl] at h1
  have h2 : val (b.take a.length) ≤ val b := by
    by_cases hk : a.length ≤ b.length
    · have := val_take_drop b a.length hk; omega
    · rw [List.take_of_length_le (by omega)]; omega
  cases c with
  | zero =>
    have h3 : val (b.take a.length) = val b := by
      by_cases hk : a.length ≤ b.length
      · have h4 := val_take_drop b a.length hk
        by_cases h5 : val (b.drop a.length) = 0
        · rw [h4, h5]; omega
        · have h6 := val_lt ha
          have h7 : pw a.length * 1 ≤ pw a.length * val (b.drop a.length) := Nat.mul_le_mul_left _ (by omega)
          omega
      · rw [List.take_of_length_le (by omega)]
    omega
  | succ c =>
    have : pw a.length * 1 ≤ pw a.length * (c + 1) := Nat.mul_le_mul_left _ (by omega)
    omega
set_option maxHeartbeats 2000000 in
theorem r1sub_yes (a b : List Nat) (ha : Dig a) (hb : Dig b) (hla : a.length < 1000000000000) (hlb : b.length < 1000000000000) (h : val b ≤ val a) : AT 172 [.nat a, .nat b] (.tup [natN (val a - val b), boo true]) := by
  have e0 : decide (cmpI (val a) (val b) < 0) = false := by
    rcases Nat.lt_or_eq_of_le h with h | h
    · rw [cmpI_gt h]; rfl
    · rw [h, cmpI_eq]; rfl
  have m1 : (a.length : Int) * ((4 : Nat) : Int) ≤ 140737488355328 := by omega
  have m2 : (a.length : Int) ≤ 9223372036854775807 := by omega
  refine ACalls.of ⟨11, [], []⟩ (fn := Tryz.f172) Tryz.func172 rfl rfl rfl (by kernel_rfl) (by kernel_rfl) (Nat.le_of_ble_eq_true rfl) ?_
  simp (maxSteps := 1000000) -implicitDefEqProofs only [go_sem, awp_seq, Nat.reduceBNe, Nat.reduceBEq, Nat.reduceAdd, Nat.reduceSub, Nat.reduceMul, Nat.reduceLeDiff, Nat.reduceLT, Nat.reduceEqDiff, Nat.reduceBneDiff]
  refine callA_tt (r1cmp_c a b ha hb hla hlb) ?_
  simp (maxSteps := 1000000) -implicitDefEqProofs only [e0, Int.toNat_natCast, Int.natCast_nonneg, Int.le_refl, m1, m2, go_sem, awp_seq, Nat.reduceBNe, Nat.reduceBEq, Nat.reduceAdd, Nat.reduceSub, Nat.reduceMul, Nat.reduceLeDiff, Nat.reduceLT, Nat.reduceEqDiff, Nat.reduceBneDiff]
  refine loop_mk (α := {x : List Nat × Nat // x.1.length ≤ a.length ∧ Dig x.1 ∧ x.2 ≤ 1 ∧ val x.1 + val (b.take x.1.length) = val (a.take x.1.length) + pw x.1.length * x.2}) (fun x => [(0, some (.av (.nat a))), (1, some (.av (.nat b))), (6, some (.osl 17 1 0 a.length)), (7, some (.av (u64 (x.1.2 : Nat)))), (8, some (.av (i64 (x.1.1.length : Nat))))]) (fun _ => []) (fun x => [(17, .limb 133 (x.1.1 ++ List.replicate (a.length - x.1.1.length) 0))]) (fun x => a.length - x.1.1.length) ⟨([], 0), by simp, dig_nil, by simp, by simp [val]⟩ ?_ ?_
  · simp (maxSteps := 1000000) -implicitDefEqProofs only [go_sem, awp_seq, Nat.reduceBNe, Nat.reduceBEq, Nat.reduceAdd, Nat.reduceSub, Nat.reduceMul, Nat.reduceLeDiff, Nat.reduceLT, Nat.reduceEqDiff, Nat.reduceBneDiff]
    exact ⟨rfl, rfl, rfl⟩
  · rintro ⟨⟨s, c⟩, hs, hds, hc, hv⟩
    dsimp only at hs hds hc hv
    by_cases hlt : s.length < a.length
    · have f1 : decide ((s.length : Int) < (a.length : Nat)) = true := by simp; omega
      simp (maxSteps := 1000000) -implicitDefEqProofs only [f1, go_sem, awp_seq, Nat.reduceBNe, Nat.reduceBEq, Nat.reduceAdd, Nat.reduceSub, Nat.reduceMul, Nat.reduceLeDiff, Nat.reduceLT, Nat.reduceEqDiff, Nat.reduceBneDiff]
      refine callA_tt (r1limb_c a ha s.length) ?_
      simp (maxSteps := 1000000) -implicitDefEqProofs only [go_sem, awp_seq, Nat.reduceBNe, Nat.reduceBEq, Nat.reduceAdd, Nat.reduceSub, Nat.reduceMul, Nat.reduceLeDiff, Nat.reduceLT, Nat.reduceEqDiff, Nat.reduceBneDiff]
      refine callA_tt (r1limb_c b hb s.length) ?_
      have dx := dig_getD ha s.length
      have dy := dig_getD hb s.length
      generalize hx : a.getD s.length 0 = x at *
      generalize hy : b.getD s.length 0 = y at *
      have n1 : IntKind.u64.wrap ((y : Int) + c) = ((y + c : Nat) : Int) := by rw [IntWalk.u64_in _ (by omega)]; omega
      have n3 : IntKind.i64.wrap ((s.length : Int) + 1) = ((s.length + 1 : Nat) : Int) := by rw [IntWalk.i64_in _ (by omega)]; omega
      by_cases hb2 : x < y + c
      · have d1 : decide ((x : Int) < ((y + c : Nat) : Int)) = true := by rw [decide_eq_true_eq]; omega
        have n2 : IntKind.u64.wrap ((x : Int) + 4294967296) = ((x + 4294967296 : Nat) : Int) := by rw [IntWalk.u64_in _ (by omega)]; omega
        have n4 : IntKind.u64.wrap (((x + 4294967296 : Nat) : Int) - ((y + c : Nat) : Int)) = ((x + 4294967296 - (y + c) : Nat) : Int) := by rw [IntWalk.u64_in _ (by omega)]; omega
        have n5 : IntKind.u32.wrap ((x + 4294967296 - (y + c) : Nat) : Int) = ((x + 4294967296 - (y + c) : Nat) : Int) := IntWalk.u32_in _ (by omega)
        have m3 : ((x + 4294967296 - (y + c) : Nat) : Int) < 4294967296 := by omega
        simp (maxSteps := 1000000) -implicitDefEqProofs only [n1, n2, n3, n4, n5, d1, Int.toNat_natCast, Int.natCast_nonneg, hlt, m3, fill_len s a.length hs, set_fill s a.length _ hlt, go_sem, awp_seq, Nat.reduceBNe, Nat.reduceBEq, Nat.reduceAdd, Nat.reduceSub, Nat.reduceMul, Nat.reduceLeDiff, Nat.reduceLT, Nat.reduceEqDiff, Nat.reduceBneDiff]
        refine roundK_mk ⟨(s ++ [x + 4294967296 - (y + c)], 1), ?_⟩ ?_ ?_
        · simp only [List.length_append, List.length_cons, List.length_nil, Nat.zero_add]
          exact ⟨by omega, dig_snoc hds (by omega), by omega, sub_next hx hy hv _ _ (by omega)⟩
        · simp (maxSteps := 1000000) -implicitDefEqProofs only [go_sem, awp_seq, Nat.reduceBNe, Nat.reduceBEq, Nat.reduceAdd, Nat.reduceSub, Nat.reduceMul, Nat.reduceLeDiff, Nat.reduceLT, Nat.reduceEqDiff, Nat.reduceBneDiff]
          exact rfl
        · simp; omega
      · have d1 : decide ((x : Int) < ((y + c : Nat) : Int)) = false := by rw [decide_eq_false_iff_not]; omega
        have n4 : IntKind.u64.wrap ((x : Int) - ((y + c : Nat) : Int)) = ((x - (y + c) : Nat) : Int) := by rw [IntWalk.u64_in _ (by omega)]; omega
        have n5 : IntKind.u32.wrap ((x - (y + c) : Nat) : Int) = ((x - (y + c) : Nat) : Int) := IntWalk.u32_in _ (by omega)
        have m3 : ((x - (y + c) : Nat) : Int) < 4294967296 := by omega
        simp (maxSteps := 1000000) -implicitDefEqProofs only [n1, n3, n4, n5, d1, Int.toNat_natCast, Int.natCast_nonneg, hlt, m3, fill_len s a.length hs, set_fill s a.length _ hlt, go_sem, awp_seq, Nat.reduceBNe, Nat.reduceBEq, Nat.reduceAdd, Nat.reduceSub, Nat.reduceMul, Nat.reduceLeDiff, Nat.reduceLT, Nat.reduceEqDiff, Nat.reduceBneDiff]
        refine roundK_mk ⟨(s ++ [x - (y + c)], 0), ?_⟩ ?_ ?_
        · simp only [List.length_append, List.length_cons, List.length_nil, Nat.zero_add]
          exact ⟨by omega, dig_snoc hds (by omega), by omega, sub_next hx hy hv _ _ (by omega)⟩
        · simp (maxSteps := 1000000) -implicitDefEqProofs only [go_sem, awp_seq, Nat.reduceBNe, Nat.reduceBEq, Nat.reduceAdd, Nat.reduceSub, Nat.reduceMul, Nat.reduceLeDiff, Nat.reduceLT, Nat.reduceEqDiff, Nat.reduceBneDiff]
          exact rfl
        · simp; omega
    · have f1 : decide ((a.length : Int) < (a.length : Nat)) = false := by simp
      have hl : s.length = a.length := by omega
      rw [hl, List.take_length] at hv
      have hend : val s = val a - val b := sub_end ha hb hds h hl hv
      have hfill : s ++ List.replicate (a.length - a.length) 0 = s := by rw [Nat.sub_self]; simp
      have htake : s.take a.length = s := by rw [← hl, List.take_length]
      simp (maxSteps := 1000000) -implicitDefEqProofs only [f1, hfill, htake, hl, Nat.le_refl, go_sem, awp_seq, Nat.reduceBNe, Nat.reduceBEq, Nat.reduceAdd, Nat.reduceSub, Nat.reduceMul, Nat.reduceLeDiff, Nat.reduceLT, Nat.reduceEqDiff, Nat.reduceBneDiff]
      refine callA_rowTT (r1norm_c s hds (by omega)) ?_ ?_ <;> simp (maxSteps := 1000000) -implicitDefEqProofs only [hend, hfill, htake, hl, go_sem, awp_seq, Nat.reduceBNe, Nat.reduceBEq, Nat.reduceAdd, Nat.reduceSub, Nat.reduceMul, Nat.reduceLeDiff, Nat.reduceLT, Nat.reduceEqDiff, Nat.reduceBneDiff]
def zrow (k : Nat) (s : List Nat) : List Nat := List.replicate k 0 ++ s
theorem zrow_nil (k : Nat) : List.replicate k 0 = zrow k [] := by simp [zrow]
theorem zrow_zero (s : List Nat) : zrow 0 s = s := by simp [zrow]
theorem zrow_len (k : Nat) (s : List Nat) : (zrow k s).length = k + s.length := by simp [zrow]
theorem zrow_set (s : List Nat) (k x : Nat) : (zrow (k + 1) s).set k x = zrow k (x :: s) := by
  unfold zrow
  rw [List.set_append_left _ _ (by simp), List.replicate_succ', List.set_append_right _ _ (by simp)]
  simp
theorem short_next {a s : List Nat} {d k r : Nat} (hk : k < a.length) (hd : 0 < d) (h : val (a.drop (k + 1)) = val s * d + r) :
    val (a.drop k) = val ((r * 4294967296 + a.getD k 0) / d :: s) * d + (r * 4294967296 + a.getD k 0) % d := by
  rw [val_drop_cons a k hk, h, val_cons]
  have e : a[k] = a.getD k 0 := by rw [List.getD_eq_getElem?_getD, List.getElem?_eq_getElem hk]; rfl
  rw [e]
  generalize a.getD k 0 = x
  have := Nat.div_add_mod (r * 4294967296 + x) d
  generalize (r * 4294967296 + x) / d = u at *
  generalize (r * 4294967296 + x) % d = v at *
  grind
set_option maxHeartbeats 2000000 in
theorem r1short_c (a : List Nat) (d : Nat) (ha : Dig a) (hla : a.length < 1000000000000) (hd0 : 0 < d) (hd : d < 4294967296) : AT 134 [.nat a, u64 (d : Nat)] (.tup [natN (val a / d), u64 (val a % d : Nat)]) := by
  have m1 : (a.length : Int) * ((4 : Nat) : Int) ≤ 140737488355328 := by omega
  have m2 : (a.length : Int) ≤ 9223372036854775807 := by omega
  have w0 : ∀ k : Nat, k ≤ a.length → IntKind.i64.wrap ((k : Int) - 1) = ((k : Int) - 1) := fun k hk => IntWalk.i64_in _ (by omega)
  refine ACalls.of ⟨10, [], []⟩ (fn := Tryz.f134) Tryz.func134 rfl rfl rfl (by kernel_rfl) (by kernel_rfl) (Nat.le_of_ble_eq_true rfl) ?_
  simp (maxSteps := 1000000) -implicitDefEqProofs only [w0 _ (Nat.le_refl _), Int.toNat_natCast, Int.natCast_nonneg, Int.le_refl, m1, m2, go_sem, awp_seq, Nat.reduceBNe, Nat.reduceBEq, Nat.reduceAdd, Nat.reduceSub, Nat.reduceMul, Nat.reduceLeDiff, Nat.reduceLT, Nat.reduceEqDiff, Nat.reduceBneDiff]
  refine loop_mk (α := {x : Nat × List Nat × Nat // x.1 + x.2.1.length = a.length ∧ Dig x.2.1 ∧ x.2.2 < d ∧ val (a.drop x.1) = val x.2.1 * d + x.2.2}) (fun x => [(0, some (.av (.nat a))), (1, some (.av (u64 (d : Nat)))), (6, some (.osl 12 1 0 a.length)), (7, some (.av (u64 (x.1.2.2 : Nat)))), (8, some (.av (i64 ((x.1.1 : Int) - 1))))]) (fun _ => []) (fun x => [(12, .limb 133 (zrow x.1.1 x.1.2.1))]) (fun x => x.1.1) ⟨(a.length, [], 0), by simp, dig_nil, hd0, by simp [val]⟩ ?_ ?_
  · simp (maxSteps := 1000000) -implicitDefEqProofs only [zrow_nil, go_sem, awp_seq, Nat.reduceBNe, Nat.reduceBEq, Nat.reduceAdd, Nat.reduceSub, Nat.reduceMul, Nat.reduceLeDiff, Nat.reduceLT, Nat.reduceEqDiff, Nat.reduceBneDiff]
    exact rfl
  · rintro ⟨⟨k, s, r⟩, hs, hds, hr, hv⟩
    dsimp only at hs hds hr hv
    cases k with
    | zero =>
      have f1 : decide ((0 : Int) ≤ ((0 : Nat) : Int) - 1) = false := by simp
      have hl : s.length = a.length := by omega
      have hq : val s = val a / d := by
        rw [List.drop_zero] at hv
        rw [hv, Nat.mul_comm, Nat.mul_add_div hd0, Nat.div_eq_of_lt hr]; omega
      have hm : r = val a % d := by
        rw [List.drop_zero] at hv
        rw [hv, Nat.mul_comm, Nat.mul_add_mod, Nat.mod_eq_of_lt hr]
      have htake : s.take a.length = s := by rw [← hl, List.take_length]
      simp (maxSteps := 1000000) -implicitDefEqProofs only [f1, htake, hl, zrow_zero, Nat.le_refl, go_sem, awp_seq, Nat.reduceBNe, Nat.reduceBEq, Nat.reduceAdd, Nat.reduceSub, Nat.reduceMul, Nat.reduceLeDiff, Nat.reduceLT, Nat.reduceEqDiff, Nat.reduceBneDiff]
      refine callA_rowTT (r1norm_c s hds (by omega)) ?_ ?_ <;> simp (maxSteps := 1000000) -implicitDefEqProofs only [hq, ← hm, htake, hl, zrow_zero, go_sem, awp_seq, Nat.reduceBNe, Nat.reduceBEq, Nat.reduceAdd, Nat.reduceSub, Nat.reduceMul, Nat.reduceLeDiff, Nat.reduceLT, Nat.reduceEqDiff, Nat.reduceBneDiff]
    | succ k =>
      have f1 : decide ((0 : Int) ≤ (k : Nat)) = true := by simp
      have e2 : ((k + 1 : Nat) : Int) - 1 = (k : Int) := by omega
      have hk : k < a.length := by omega
      have dx := dig_getD ha k
      have hnext := short_next hk hd0 hv
      have hget := getD_some hk
      generalize a.getD k 0 = x at *
      have n1 : IntKind.u64.wrap ((r : Int) * 4294967296) = ((r * 4294967296 : Nat) : Int) := by rw [IntWalk.u64_in _ (by omega)]; omega
      have n2 : IntKind.u64.wrap (x : Int) = (x : Int) := IntWalk.u64_in _ (by omega)
      have n3 : IntKind.u64.wrap (((r * 4294967296 : Nat) : Int) + (x : Int)) = ((r * 4294967296 + x : Nat) : Int) := by rw [IntWalk.u64_in _ (by omega)]; omega
      have hlt : r * 4294967296 + x < d * 4294967296 := by
        have : (r + 1) * 4294967296 ≤ d * 4294967296 := Nat.mul_le_mul_right _ hr
        omega
      have hX : r * 4294967296 + x < 18446744073709551616 := by omega
      generalize hX2 : r * 4294967296 + x = X at *
      have hq : X / d < 4294967296 := Nat.div_lt_of_lt_mul hlt
      have hmod : X % d < d := Nat.mod_lt _ hd0
      have n4 : IntKind.u64.wrap ((X : Int).tdiv (d : Int)) = ((X / d : Nat) : Int) := by rw [IntWalk.u64_quo _ _ ⟨by omega, by omega, by omega⟩]; simp
      have n5 : (X : Int).tmod (d : Int) = ((X % d : Nat) : Int) := by rw [Int.tmod_eq_emod_of_nonneg (by omega)]; simp
      generalize X / d = q at *
      generalize X % d = u at *
      have n6 : IntKind.u32.wrap (q : Int) = (q : Int) := IntWalk.u32_in _ ⟨by omega, by omega⟩
      have hd1 : ¬ ((d : Int) = 0) := by omega
      have m3 : (q : Int) < 4294967296 := by omega
      have m4 : k < k + 1 + s.length := by omega
      simp (maxSteps := 1000000) -implicitDefEqProofs only [decide_true, e2, n1, n2, n3, n4, n5, n6, hd1, two32, le32, w0 k (by omega), Int.toNat_natCast, Int.natCast_nonneg, hget, m3, hk, zrow_len, zrow_set, m4, go_sem, awp_seq, Nat.reduceBNe, Nat.reduceBEq, Nat.reduceAdd, Nat.reduceSub, Nat.reduceMul, Nat.reduceLeDiff, Nat.reduceLT, Nat.reduceEqDiff, Nat.reduceBneDiff]
      refine roundK_mk ⟨(k, q :: s, u), ?_⟩ ?_ (by show k < k + 1; omega)
      · exact ⟨by simp; omega, dig_cons.2 ⟨hq, hds⟩, hmod, hnext⟩
      · simp (maxSteps := 1000000) -implicitDefEqProofs only [go_sem, awp_seq, Nat.reduceBNe, Nat.reduceBEq, Nat.reduceAdd, Nat.reduceSub, Nat.reduceMul, Nat.reduceLeDiff, Nat.reduceLT, Nat.reduceEqDiff, Nat.reduceBneDiff]
end Go.Proofs.YtcggnmddcbhchaaGreatDoor
set_option linter.unusedSimpArgs false
set_option linter.unusedVariables false
namespace Go.Proofs.YtcggnmddcbhchaaGreatDoor
open Go.RowKit Lim
theorem half_next {a s : List Nat} {x y u : Nat} (hx : a.getD s.length 0 = x) (hu : 2 * u + x % 2 = x + 4294967296 * (y % 2)) (h : 2 * val s + a.getD 0 0 % 2 = val (a.take s.length) + pw s.length * (x % 2)) :
    2 * val (s ++ [u]) + a.getD 0 0 % 2 = val (a.take (s.length + 1)) + pw (s.length + 1) * (y % 2) := by
  rw [take_getD, hx, val_snoc, pw_succ]
  have e : pw s.length * (2 * u) + pw s.length * (x % 2) = pw s.length * x + 4294967296 * pw s.length * (y % 2) := by
    rw [← Nat.mul_add, hu, Nat.mul_add]; grind
  have e2 : 2 * (pw s.length * u) = pw s.length * (2 * u) := by grind
  omega
theorem two1 : (2 : Int) ^ min (Int.toNat 1) 64 = 2 := rfl
theorem le1 : (0 : Int) ≤ 1 := by omega
theorem fdiv2 (n : Nat) : (n : Int).fdiv 2 = ((n / 2 : Nat) : Int) := by
  rw [Int.fdiv_eq_ediv_of_nonneg _ (by omega)]; omega
set_option maxHeartbeats 2000000 in
theorem r1half_c (a : List Nat) (ha : Dig a) (hla : a.length < 1000000000000) : AT 222 [.nat a] (natN (val a / 2)) := by
  have m1 : (a.length : Int) * ((4 : Nat) : Int) ≤ 140737488355328 := by omega
  have m2 : (a.length : Int) ≤ 9223372036854775807 := by omega
  refine ACalls.of ⟨5, [], []⟩ (fn := Tryz.f222) Tryz.func222 rfl rfl rfl (by kernel_rfl) (by kernel_rfl) (Nat.le_of_ble_eq_true rfl) ?_
  simp (maxSteps := 1000000) -implicitDefEqProofs only [Int.toNat_natCast, Int.natCast_nonneg, Int.le_refl, m1, m2, go_sem, awp_seq, Nat.reduceBNe, Nat.reduceBEq, Nat.reduceAdd, Nat.reduceSub, Nat.reduceMul, Nat.reduceLeDiff, Nat.reduceLT, Nat.reduceEqDiff, Nat.reduceBneDiff]
  refine loop_mk (α := {s : List Nat // s.length ≤ a.length ∧ Dig s ∧ 2 * val s + a.getD 0 0 % 2 = val (a.take s.length) + pw s.length * (a.getD s.length 0 % 2)}) (fun x => [(0, some (.av (.nat a))), (3, some (.osl 7 1 0 a.length)), (4, some (.av (i64 (x.1.length : Nat))))]) (fun _ => []) (fun x => [(7, .limb 133 (x.1 ++ List.replicate (a.length - x.1.length) 0))]) (fun x => a.length - x.1.length) ⟨[], by simp, dig_nil, by simp [val, pw_zero]⟩ ?_ ?_
  · simp (maxSteps := 1000000) -implicitDefEqProofs only [go_sem, awp_seq, Nat.reduceBNe, Nat.reduceBEq, Nat.reduceAdd, Nat.reduceSub, Nat.reduceMul, Nat.reduceLeDiff, Nat.reduceLT, Nat.reduceEqDiff, Nat.reduceBneDiff]
    exact ⟨rfl, rfl⟩
  · rintro ⟨s, hs, hds, hv⟩
    by_cases hlt : s.length < a.length
    · have f1 : decide ((s.length : Int) < (a.length : Nat)) = true := by simp; omega
      have n3 : IntKind.i64.wrap ((s.length : Int) + 1) = ((s.length + 1 : Nat) : Int) := by rw [IntWalk.i64_in _ (by omega)]; omega
      simp (maxSteps := 1000000) -implicitDefEqProofs only [f1, n3, go_sem, awp_seq, Nat.reduceBNe, Nat.reduceBEq, Nat.reduceAdd, Nat.reduceSub, Nat.reduceMul, Nat.reduceLeDiff, Nat.reduceLT, Nat.reduceEqDiff, Nat.reduceBneDiff]
      refine callA_tt (r1limb_c a ha (s.length + 1)) ?_
      have dx := dig_getD ha s.length
      have dy := dig_getD ha (s.length + 1)
      have hget := getD_some hlt
      obtain ⟨x, hx⟩ : ∃ x, a.getD s.length 0 = x := ⟨_, rfl⟩
      obtain ⟨y, hy⟩ : ∃ y, a.getD (s.length + 1) 0 = y := ⟨_, rfl⟩
      rw [hx] at dx hget
      rw [hy] at dy
      have n1 : IntKind.u64.wrap ((y : Int) * 4294967296) = ((y * 4294967296 : Nat) : Int) := by rw [IntWalk.u64_in _ (by omega)]; omega
      have n2 : IntKind.u64.wrap (x : Int) = (x : Int) := IntWalk.u64_in _ (by omega)
      have n4 : IntKind.u64.wrap (((y * 4294967296 : Nat) : Int) + x) = ((y * 4294967296 + x : Nat) : Int) := by rw [IntWalk.u64_in _ (by omega)]; omega
      have m3 : (((y * 4294967296 + x) / 2 % 4294967296 : Nat) : Int) < 4294967296 := by omega
      simp (maxSteps := 1000000) -implicitDefEqProofs only [hy, n1, n2, n3, n4, two32, two1, le1, le32, fdiv2, w32, Int.toNat_natCast, Int.natCast_nonneg, hget, hlt, m3, fill_len s a.length hs, set_fill s a.length _ hlt, go_sem, awp_seq, Nat.reduceBNe, Nat.reduceBEq, Nat.reduceAdd, Nat.reduceSub, Nat.reduceMul, Nat.reduceLeDiff, Nat.reduceLT, Nat.reduceEqDiff, Nat.reduceBneDiff]
      refine roundK_mk ⟨s ++ [(y * 4294967296 + x) / 2 % 4294967296], ?_⟩ ?_ ?_
      · simp only [List.length_append, List.length_cons, List.length_nil, Nat.zero_add]
        refine ⟨by omega, dig_snoc hds (by omega), ?_⟩
        rw [hy]
        rw [hx] at hv
        exact half_next hx (by omega) hv
      · simp (maxSteps := 1000000) -implicitDefEqProofs only [go_sem, awp_seq, Nat.reduceBNe, Nat.reduceBEq, Nat.reduceAdd, Nat.reduceSub, Nat.reduceMul, Nat.reduceLeDiff, Nat.reduceLT, Nat.reduceEqDiff, Nat.reduceBneDiff]
      · simp; omega
    · have f1 : decide ((a.length : Int) < (a.length : Nat)) = false := by simp
      have hl : s.length = a.length := by omega
      rw [hl, List.take_length, show a.getD a.length 0 = 0 by simp] at hv
      have hend : val s = val a / 2 := by omega
      have hfill : s ++ List.replicate (a.length - a.length) 0 = s := by rw [Nat.sub_self]; simp
      have htake : s.take a.length = s := by rw [← hl, List.take_length]
      simp (maxSteps := 1000000) -implicitDefEqProofs only [f1, hfill, htake, hl, Nat.le_refl, go_sem, awp_seq, Nat.reduceBNe, Nat.reduceBEq, Nat.reduceAdd, Nat.reduceSub, Nat.reduceMul, Nat.reduceLeDiff, Nat.reduceLT, Nat.reduceEqDiff, Nat.reduceBneDiff]
      refine callA_rowTT (r1norm_c s hds (by omega)) ?_ ?_ <;> simp (maxSteps := 1000000) -implicitDefEqProofs only [hend, hfill, htake, hl, go_sem, awp_seq, Nat.reduceBNe, Nat.reduceBEq, Nat.reduceAdd, Nat.reduceSub, Nat.reduceMul, Nat.reduceLeDiff, Nat.reduceLT, Nat.reduceEqDiff, Nat.reduceBneDiff]
def bitsN (n : Nat) : Nat := if h : n = 0 then 0 else bitsN (n / 2) + 1 termination_by n decreasing_by omega
theorem bitsN_zero : bitsN 0 = 0 := by unfold bitsN; simp
theorem bitsN_pos {n : Nat} (h : 0 < n) : bitsN n = bitsN (n / 2) + 1 := by rw [bitsN, dif_neg (by omega)]
theorem bitsN_shift (j : Nat) : ∀ (m r : Nat), 0 < m → r < 2 ^ j → bitsN (r + 2 ^ j * m) = j + bitsN m := by
  induction j with
  | zero => intro m r hm hr; simp at hr; subst hr; simp
  | succ j ih =>
    intro m r hm hr
    rw [Nat.pow_succ] at hr ⊢
    have hp : 0 < 2 ^ j := Nat.two_pow_pos j
    have h1 : 0 < 2 ^ j * 2 * m := Nat.mul_pos (Nat.mul_pos hp (by omega)) hm
    rw [bitsN_pos (by omega)]
    have h2 : (r + 2 ^ j * 2 * m) / 2 = r / 2 + 2 ^ j * m := by
      rw [show 2 ^ j * 2 * m = 2 * (2 ^ j * m) by grind]; omega
    rw [h2, ih m (r / 2) hm (by omega)]
    omega
theorem bitsN_lt (n : Nat) : n < 2 ^ bitsN n := by
  induction n using Nat.strongRecOn with
  | _ n ih =>
    by_cases h : n = 0
    · subst h; simp [bitsN_zero]
    · rw [bitsN_pos (by omega), Nat.pow_succ]
      have := ih (n / 2) (by omega)
      omega
theorem bitsN_le {n : Nat} (h : 0 < n) : 2 ^ (bitsN n - 1) ≤ n := by
  induction n using Nat.strongRecOn with
  | _ n ih =>
    rw [bitsN_pos h]
    by_cases h1 : n / 2 = 0
    · rw [h1, bitsN_zero]; simp; omega
    · have := ih (n / 2) (by omega) (by omega)
      have h2 := bitsN_pos (show 0 < n / 2 by omega)
      rw [show bitsN (n / 2) + 1 - 1 = (bitsN (n / 2) - 1) + 1 by omega, Nat.pow_succ]
      omega
theorem pw_two (k : Nat) : pw k = 2 ^ (32 * k) := by unfold pw; rw [show 4294967296 = 2 ^ 32 from rfl, ← Nat.pow_mul]
theorem limbs_last {n : Nat} (h : 0 < n) : ∃ lo top, n = lo + pw ((limbs n).length - 1) * top ∧ lo < pw ((limbs n).length - 1) ∧ (limbs n)[(limbs n).length - 1]? = some top ∧ 0 < top ∧ top < 4294967296 := by
  have hl : 0 < (limbs n).length := by
    cases he : limbs n with
    | nil => have := limbs_eq_nil.1 he; omega
    | cons => simp
  have hlt : (limbs n).length - 1 < (limbs n).length := by omega
  refine ⟨val ((limbs n).take ((limbs n).length - 1)), (limbs n)[(limbs n).length - 1], ?_, ?_, List.getElem?_eq_getElem hlt, ?_, dig_get (dig_limbs n) hlt⟩
  · have h1 := val_take_succ (limbs n) _ hlt
    rw [show (limbs n).length - 1 + 1 = (limbs n).length by omega, List.take_length, val_limbs] at h1
    exact h1
  · exact take_lt (dig_limbs n) _
  · have := nrm_limbs n hl; omega
theorem bitsN_small {n j : Nat} (h : n < 2 ^ j) : bitsN n ≤ j := by
  by_cases h0 : n = 0
  · subst h0; rw [bitsN_zero]; omega
  · have h1 := bitsN_le (show 0 < n by omega)
    have h2 := Nat.lt_of_le_of_lt h1 h
    have h3 := (Nat.pow_lt_pow_iff_right (by omega : 1 < 2)).1 h2
    omega
theorem bitsN_top {n : Nat} (h : 0 < n) {top : Nat} (ht : (limbs n)[(limbs n).length - 1]? = some top) : bitsN n = 32 * ((limbs n).length - 1) + bitsN top := by
  obtain ⟨lo, t, h1, h2, h3, h4, _⟩ := limbs_last h
  rw [ht] at h3
  cases h3
  rw [pw_two] at h1 h2
  conv => lhs; rw [h1]
  exact bitsN_shift _ _ _ h4 h2
set_option maxHeartbeats 2000000 in
theorem r1bits_c (a : List Nat) (ha : Dig a) (hla : a.length < 1000000000000) : AT 137 [.nat a] (i64 (bitsN (val a) : Nat)) := by
  have hnl := nlen_val ha
  refine ACalls.of ⟨5, [], []⟩ (fn := Tryz.f137) Tryz.func137 rfl rfl rfl (by kernel_rfl) (by kernel_rfl) (Nat.le_of_ble_eq_true rfl) ?_
  simp (maxSteps := 1000000) -implicitDefEqProofs only [go_sem, awp_seq, Nat.reduceBNe, Nat.reduceBEq, Nat.reduceAdd, Nat.reduceSub, Nat.reduceMul, Nat.reduceLeDiff, Nat.reduceLT, Nat.reduceEqDiff, Nat.reduceBneDiff]
  refine callA_tt (r1norm_c a ha (by omega)) ?_
  generalize val a = n at *
  by_cases h0 : n = 0
  · subst h0
    have f1 : (((limbs 0).length : Int) == 0) = true := by rw [limbs_zero]; rfl
    simp (maxSteps := 1000000) -implicitDefEqProofs only [f1, bitsN_zero, go_sem, awp_seq, Nat.reduceBNe, Nat.reduceBEq, Nat.reduceAdd, Nat.reduceSub, Nat.reduceMul, Nat.reduceLeDiff, Nat.reduceLT, Nat.reduceEqDiff, Nat.reduceBneDiff]
    rfl
  · obtain ⟨lo, top, _, _, h3, h4, h5⟩ := limbs_last (show 0 < n by omega)
    have hb := bitsN_top (by omega) h3
    have hl : 0 < (limbs n).length := by
      cases he : limbs n with
      | nil => have := limbs_eq_nil.1 he; omega
      | cons => simp
    have hl2 : (limbs n).length = nlen n := rfl
    generalize hL : limbs n = L at *
    have f1 : ((L.length : Int) == 0) = false := by rw [beq_eq_false_iff_ne]; omega
    have n1 : IntKind.i64.wrap ((L.length : Int) - 1) = ((L.length - 1 : Nat) : Int) := by rw [IntWalk.i64_in _ (by omega)]; omega
    have n2 : IntKind.i64.wrap (32 * ((L.length - 1 : Nat) : Int)) = ((32 * (L.length - 1) : Nat) : Int) := by rw [IntWalk.i64_in _ (by omega)]; omega
    have hB : bitsN n < 33000000000000 := by have := bitsN_small (j := 32) h5; omega
    simp (maxSteps := 1000000) -implicitDefEqProofs only [natN, hL, f1, n1, n2, h3, Int.toNat_natCast, Int.natCast_nonneg, go_sem, awp_seq, Nat.reduceBNe, Nat.reduceBEq, Nat.reduceAdd, Nat.reduceSub, Nat.reduceMul, Nat.reduceLeDiff, Nat.reduceLT, Nat.reduceEqDiff, Nat.reduceBneDiff]
    refine loop_mk (α := {x : Nat × Nat // x.1 < 4294967296 ∧ x.2 + bitsN x.1 = bitsN n}) (fun x => [(3, some (.av (i64 (x.1.2 : Nat)))), (4, some (.av (.lit (.int .u32 (x.1.1 : Nat)))))]) (fun _ => []) (fun _ => []) (fun x => x.1.1) ⟨(top, 32 * (L.length - 1)), h5, hb.symm⟩ ?_ ?_
    · simp (maxSteps := 1000000) -implicitDefEqProofs only [go_sem, awp_seq, Nat.reduceBNe, Nat.reduceBEq, Nat.reduceAdd, Nat.reduceSub, Nat.reduceMul, Nat.reduceLeDiff, Nat.reduceLT, Nat.reduceEqDiff, Nat.reduceBneDiff]
    · rintro ⟨⟨x, k⟩, hx, hk⟩
      dsimp only at hx hk
      by_cases hx0 : x = 0
      · subst hx0
        have g1 : decide ((0 : Int) < ((0 : Nat) : Int)) = false := by simp
        rw [bitsN_zero, Nat.add_zero] at hk
        simp (maxSteps := 1000000) -implicitDefEqProofs only [g1, hk, go_sem, awp_seq, Nat.reduceBNe, Nat.reduceBEq, Nat.reduceAdd, Nat.reduceSub, Nat.reduceMul, Nat.reduceLeDiff, Nat.reduceLT, Nat.reduceEqDiff, Nat.reduceBneDiff]
      · have g1 : decide ((0 : Int) < (x : Nat)) = true := by simp; omega
        have hbp := bitsN_pos (show 0 < x by omega)
        have p1 : IntKind.i64.wrap ((k : Int) + 1) = ((k + 1 : Nat) : Int) := by rw [IntWalk.i64_in _ (by omega)]; omega
        have p2 : IntKind.u32.wrap ((x : Int).tdiv 2) = ((x / 2 : Nat) : Int) := by rw [IntWalk.u32_quo _ _ (by omega)]; omega
        have p3 : ¬ ((2 : Int) = 0) := by omega
        simp (maxSteps := 1000000) -implicitDefEqProofs only [g1, p1, p2, p3, go_sem, awp_seq, Nat.reduceBNe, Nat.reduceBEq, Nat.reduceAdd, Nat.reduceSub, Nat.reduceMul, Nat.reduceLeDiff, Nat.reduceLT, Nat.reduceEqDiff, Nat.reduceBneDiff]
        refine roundK_mk ⟨(x / 2, k + 1), by show x / 2 < _; omega, ?_⟩ ?_ (by show x / 2 < x; omega)
        · show k + 1 + bitsN (x / 2) = _
          rw [← hk, bitsN_pos (show 0 < x by omega)]
          omega
        · simp (maxSteps := 1000000) -implicitDefEqProofs only [go_sem, awp_seq, Nat.reduceBNe, Nat.reduceBEq, Nat.reduceAdd, Nat.reduceSub, Nat.reduceMul, Nat.reduceLeDiff, Nat.reduceLT, Nat.reduceEqDiff, Nat.reduceBneDiff]
end Go.Proofs.YtcggnmddcbhchaaGreatDoor
set_option linter.unusedSimpArgs false
set_option linter.unusedVariables false
namespace Go.Proofs.YtcggnmddcbhchaaGreatDoor
open Go.RowKit Lim
theorem row_get {p : List Nat} {j N : Nat} (h : j < p.length) : (p ++ List.replicate N 0)[j]? = some (p.getD j 0) := by
  rw [List.getElem?_append_left h]; exact getD_some h
theorem row_set {p : List Nat} {j N x : Nat} (h : j < p.length) : (p ++ List.replicate (N - p.length) 0).set j x = p.set j x ++ List.replicate (N - (p.set j x).length) 0 := by
  rw [List.set_append_left _ _ h, List.length_set]
def frow (N : Nat) (p : List Nat) : List Nat := p ++ List.replicate (N - p.length) 0
theorem frow_len {N : Nat} {p : List Nat} (h : p.length ≤ N) : (frow N p).length = N := by simp [frow]; omega
theorem frow_get {N : Nat} {p : List Nat} {j : Nat} (h : j < p.length) : (frow N p)[j]? = some (p.getD j 0) := row_get h
theorem frow_set {N : Nat} {p : List Nat} {j x : Nat} (h : j < p.length) : (frow N p).set j x = frow N (p.set j x) := row_set h
theorem frow_put {N : Nat} {p : List Nat} {x j : Nat} (hj : j = p.length) (h : p.length < N) : (frow N p).set j x = frow N (p ++ [x]) := by
  subst hj; unfold frow; rw [set_fill p N x h]; simp
theorem frow_full {N : Nat} {p : List Nat} (h : p.length = N) : frow N p = p := by simp [frow, h]
theorem frow_start {N k : Nat} (h : k ≤ N) : List.replicate N 0 = frow N (List.replicate k 0) := by
  unfold frow; rw [List.replicate_append_replicate, List.length_replicate]; congr 1; omega
end Go.Proofs.YtcggnmddcbhchaaGreatDoor
set_option linter.unusedSimpArgs false
set_option linter.unusedVariables false
namespace Go.Proofs.YtcggnmddcbhchaaGreatDoor
open Go.RowKit Lim
theorem or_nat {z m sh : Nat} (hz : z < 2 ^ sh) : z ||| 2 ^ sh * m = z + 2 ^ sh * m := by
  rw [Nat.or_comm, ← Nat.two_pow_add_eq_or_of_lt hz, Nat.add_comm]
theorem binK_or32 {b : Bool} {z y : Nat} {K : Value → Prop} : binK b .or (.int .u32 (z : Int)) (.int .u32 (y : Int)) K = K (.int .u32 (((z % 4294967296 ||| y % 4294967296) % 4294967296 : Nat) : Int)) := by
  have h : (BitVec.ofInt IntKind.u32.bits (z : Int) ||| BitVec.ofInt IntKind.u32.bits (y : Int)).toNat = z % 4294967296 ||| y % 4294967296 := by
    rw [BitVec.ofInt_natCast, BitVec.ofInt_natCast, BitVec.toNat_or, BitVec.toNat_ofNat, BitVec.toNat_ofNat]
    rfl
  rw [binK_or, h, w32]
theorem or32 {z y m sh : Nat} (hz : z < 2 ^ sh) (hy : y = 2 ^ sh * m) (h : z + y < 4294967296) : (z % 4294967296 ||| y % 4294967296) % 4294967296 = z + y := by
  rw [Nat.mod_eq_of_lt (show z < 4294967296 by omega), Nat.mod_eq_of_lt (show y < 4294967296 by omega), hy, or_nat hz, ← hy, Nat.mod_eq_of_lt h]
theorem or32' {z y m sh : Nat} (hz : z < 2 ^ sh) (hy : y = 2 ^ sh * m) (h : z + y < 4294967296) : (y % 4294967296 ||| z % 4294967296) % 4294967296 = z + y := by
  rw [Nat.or_comm]; exact or32 hz hy h
theorem shift_next {a p : List Nat} {i w sh x z : Nat} (hi : a.getD i 0 = x) (hp : p.length = i + w + 1) (hz : p.getD (i + w) 0 = z) (h : val p = val (a.take i) * 2 ^ sh * pw w) :
    val (p.set (i + w) (z + x * 2 ^ sh % 4294967296) ++ [x * 2 ^ sh / 4294967296]) = val (a.take (i + 1)) * 2 ^ sh * pw w := by
  have h1 := val_set p (i + w) (z + x * 2 ^ sh % 4294967296) (by omega)
  rw [show p[i + w] = z by rw [← hz, List.getD_eq_getElem?_getD, List.getElem?_eq_getElem (show i + w < p.length by omega)]; rfl] at h1
  rw [val_snoc, List.length_set, hp, take_getD, hi, pw_succ]
  rw [pw_add] at h1 ⊢
  have e : x * 2 ^ sh = x * 2 ^ sh % 4294967296 + 4294967296 * (x * 2 ^ sh / 4294967296) := by omega
  generalize x * 2 ^ sh % 4294967296 = u at *
  generalize x * 2 ^ sh / 4294967296 = v at *
  generalize val (p.set (i + w) (z + u)) = V at *
  generalize 2 ^ sh = T at *
  generalize pw i = P at *
  generalize pw w = Q at *
  have e2 : P * Q * (x * T) = P * Q * (u + 4294967296 * v) := by rw [← e]
  grind
set_option maxHeartbeats 4000000 in
theorem r1shift_c (a : List Nat) (n : Nat) (ha : Dig a) (hla : a.length < 100000000000) (hn : n < 10000000000000) : AT 221 [.nat a, i64 (n : Nat)] (natN (val a * 2 ^ n)) := by
  obtain ⟨w, hw⟩ : ∃ w, n / 32 = w := ⟨_, rfl⟩
  obtain ⟨sh, hsh⟩ : ∃ sh, n % 32 = sh := ⟨_, rfl⟩
  have hn2 : n = 32 * w + sh := by omega
  have d1 : IntKind.i64.wrap ((n : Int).tdiv 32) = (w : Int) := by rw [Int.tdiv_eq_ediv_of_nonneg (by omega), IntWalk.i64_in _ (by omega)]; omega
  have d2 : (n : Int).tmod 32 = (sh : Int) := by rw [Int.tmod_eq_emod_of_nonneg (by omega)]; omega
  have d3 : IntKind.u64.wrap (sh : Int) = (sh : Int) := IntWalk.u64_in _ (by omega)
  have d4 : min sh 64 = sh := by omega
  have d5 : ¬ ((32 : Int) = 0) := by omega
  have w0 : IntKind.i64.wrap ((a.length : Int) + (w : Int)) = ((a.length + w : Nat) : Int) := by rw [IntWalk.i64_in _ (by omega)]; omega
  have w1 : IntKind.i64.wrap (((a.length + w : Nat) : Int) + 1) = ((a.length + w + 1 : Nat) : Int) := by rw [IntWalk.i64_in _ (by omega)]; omega
  generalize hN : a.length + w + 1 = N at *
  have m1 : (N : Int) * ((4 : Nat) : Int) ≤ 140737488355328 := by omega
  have m2 : (N : Int) ≤ 9223372036854775807 := by omega
  have hpow : 2 ^ n = 2 ^ sh * pw w := by rw [hn2, Nat.pow_add, pw_two, Nat.mul_comm]
  have hT : 2 ^ sh ≤ 2147483648 := by
    have : 2 ^ sh ≤ 2 ^ 31 := Nat.pow_le_pow_right (by omega) (by omega)
    omega
  have hB : 4294967296 = 2 ^ sh * 2 ^ (32 - sh) := by rw [← Nat.pow_add, show sh + (32 - sh) = 32 by omega]
  refine ACalls.of ⟨8, [], []⟩ (fn := Tryz.f221) Tryz.func221 rfl rfl rfl (by kernel_rfl) (by kernel_rfl) (Nat.le_of_ble_eq_true rfl) ?_
  simp (maxSteps := 1000000) -implicitDefEqProofs only [d1, d5, w0, w1, Int.toNat_natCast, Int.natCast_nonneg, Int.le_refl, m1, m2, go_sem, awp_seq, Nat.reduceBNe, Nat.reduceBEq, Nat.reduceAdd, Nat.reduceSub, Nat.reduceMul, Nat.reduceLeDiff, Nat.reduceLT, Nat.reduceEqDiff, Nat.reduceBneDiff]
  refine loop_mk (α := {x : Nat × List Nat // x.1 ≤ a.length ∧ x.2.length = x.1 + w + 1 ∧ Dig x.2 ∧ val x.2 = val (a.take x.1) * 2 ^ sh * pw w ∧ x.2.getD (x.1 + w) 0 < 2 ^ sh}) (fun x => [(0, some (.av (.nat a))), (1, some (.av (i64 (n : Nat)))), (5, some (.osl 14 1 0 N)), (6, some (.av (i64 (x.1.1 : Nat))))]) (fun _ => []) (fun x => [(14, .limb 133 (frow N x.1.2))]) (fun x => a.length - x.1.1) ⟨(0, List.replicate (w + 1) 0), by simp, by simp, dig_replicate _, by simp [val, val_replicate], by simp [Nat.two_pow_pos]⟩ ?_ ?_
  · simp (maxSteps := 1000000) -implicitDefEqProofs only [frow_start (show w + 1 ≤ N by omega), go_sem, awp_seq, Nat.reduceBNe, Nat.reduceBEq, Nat.reduceAdd, Nat.reduceSub, Nat.reduceMul, Nat.reduceLeDiff, Nat.reduceLT, Nat.reduceEqDiff, Nat.reduceBneDiff]
    exact rfl
  · rintro ⟨⟨i, p⟩, hi, hp, hdp, hv, htop⟩
    dsimp only at hi hp hdp hv htop
    by_cases hlt : i < a.length
    · have f1 : decide ((i : Int) < (a.length : Nat)) = true := by simp; omega
      have p1 : IntKind.i64.wrap ((i : Int) + 1) = ((i + 1 : Nat) : Int) := by rw [IntWalk.i64_in _ (by omega)]; omega
      have q2 : IntKind.i64.wrap ((i : Int) + (w : Int)) = ((i + w : Nat) : Int) := by rw [IntWalk.i64_in _ (by omega)]; omega
      have q3 : IntKind.i64.wrap (((i + w : Nat) : Int) + 1) = ((i + w + 1 : Nat) : Int) := by rw [IntWalk.i64_in _ (by omega)]; omega
      obtain ⟨x, hx⟩ : ∃ x, a.getD i 0 = x := ⟨_, rfl⟩
      obtain ⟨z, hz⟩ : ∃ z, p.getD (i + w) 0 = z := ⟨_, rfl⟩
      have dx := dig_getD ha i
      have hgx := getD_some hlt
      have hgz := frow_get (N := N) (show i + w < p.length by omega)
      rw [hx] at dx hgx
      rw [hz] at htop hgz
      have hnext := shift_next hx hp hz hv
      have hxT : x * 2 ^ sh < 4294967296 * 2 ^ sh := Nat.mul_lt_mul_of_pos_right dx (Nat.two_pow_pos _)
      have nx : IntKind.u64.wrap (x : Int) = (x : Int) := IntWalk.u64_in _ (by omega)
      have n1 : IntKind.u64.wrap ((x : Int) * 2 ^ sh) = ((x * 2 ^ sh : Nat) : Int) := by
        rw [show (x : Int) * 2 ^ sh = ((x * 2 ^ sh : Nat) : Int) by simp, wr64 (by omega)]
      have hmod : ∃ mm, x * 2 ^ sh % 4294967296 = 2 ^ sh * mm := by
        refine ⟨x % 2 ^ (32 - sh), ?_⟩
        rw [hB, Nat.mul_comm x, Nat.mul_mod_mul_left]
      have hdivT : x * 2 ^ sh / 4294967296 < 2 ^ sh := Nat.div_lt_of_lt_mul hxT
      obtain ⟨mm, hmm⟩ := hmod
      have hsum : z + 2 ^ sh * mm < 4294967296 := by
        have h1 : 2 ^ sh * mm < 2 ^ sh * 2 ^ (32 - sh) := by rw [← hmm, ← hB]; omega
        have h2 : mm < 2 ^ (32 - sh) := Nat.lt_of_mul_lt_mul_left h1
        have h3 : 2 ^ sh * (mm + 1) ≤ 2 ^ sh * 2 ^ (32 - sh) := Nat.mul_le_mul_left _ h2
        rw [Nat.mul_add, Nat.mul_one, ← hB] at h3
        omega
      rw [← hmm] at hsum
      have hor := or32 htop hmm hsum
      generalize x * 2 ^ sh = X at *
      have m3 : ((z + X % 4294967296 : Nat) : Int) < 4294967296 := by omega
      have n6 : (z + X % 4294967296) % 4294967296 = z + X % 4294967296 := Nat.mod_eq_of_lt hsum
      have n5 : X / 4294967296 % 4294967296 = X / 4294967296 := Nat.mod_eq_of_lt (by omega)
      have m4 : ((X / 4294967296 : Nat) : Int) < 4294967296 := by omega
      have m5 : i + w < N := by omega
      have m6 : i + w + 1 < N := by omega
      have l1 : (p.set (i + w) (z + X % 4294967296)).length = i + w + 1 := by simp [hp]
      simp (maxSteps := 1000000) -implicitDefEqProofs only [f1, d1, d2, d3, d4, d5, p1, q2, q3, nx, n1, hgx, hgz, binK_or32, hor, two32, shr32, w32, n5, n6, le32, Int.toNat_natCast, Int.natCast_nonneg, m3, m4, m5, m6, frow_len (show p.length ≤ N by omega), frow_set (show i + w < p.length by omega), frow_len (show (p.set (i + w) (z + X % 4294967296)).length ≤ N by omega), frow_put l1.symm (show (p.set (i + w) (z + X % 4294967296)).length < N by omega), go_sem, awp_seq, Nat.reduceBNe, Nat.reduceBEq, Nat.reduceAdd, Nat.reduceSub, Nat.reduceMul, Nat.reduceLeDiff, Nat.reduceLT, Nat.reduceEqDiff, Nat.reduceBneDiff]
      refine roundK_mk ⟨(i + 1, p.set (i + w) (z + X % 4294967296) ++ [X / 4294967296]), ?_⟩ ?_ (by show a.length - (i + 1) < a.length - i; omega)
      · refine ⟨hlt, by simp [hp]; omega, dig_snoc (dig_set hdp _ (by omega)) (by omega), hnext, ?_⟩
        show (p.set (i + w) (z + X % 4294967296) ++ [X / 4294967296]).getD (i + 1 + w) 0 < 2 ^ sh
        rw [List.getD_eq_getElem?_getD, List.getElem?_append_right (by omega), l1, show i + 1 + w - (i + w + 1) = 0 by omega]
        simpa using hdivT
      · simp (maxSteps := 1000000) -implicitDefEqProofs only [go_sem, awp_seq, Nat.reduceBNe, Nat.reduceBEq, Nat.reduceAdd, Nat.reduceSub, Nat.reduceMul, Nat.reduceLeDiff, Nat.reduceLT, Nat.reduceEqDiff, Nat.reduceBneDiff]
    · have f1 : decide ((a.length : Int) < (a.length : Nat)) = false := by simp
      obtain rfl : i = a.length := by omega
      rw [List.take_length, Nat.mul_assoc, ← hpow] at hv
      have hl : p.length = N := by omega
      have htake : p.take N = p := by rw [← hl, List.take_length]
      simp (maxSteps := 1000000) -implicitDefEqProofs only [f1, frow_full hl, htake, hl, Nat.le_refl, go_sem, awp_seq, Nat.reduceBNe, Nat.reduceBEq, Nat.reduceAdd, Nat.reduceSub, Nat.reduceMul, Nat.reduceLeDiff, Nat.reduceLT, Nat.reduceEqDiff, Nat.reduceBneDiff]
      refine callA_rowTT (r1norm_c p hdp (by omega)) ?_ ?_ <;> simp (maxSteps := 1000000) -implicitDefEqProofs only [hv, frow_full hl, htake, hl, go_sem, awp_seq, Nat.reduceBNe, Nat.reduceBEq, Nat.reduceAdd, Nat.reduceSub, Nat.reduceMul, Nat.reduceLeDiff, Nat.reduceLT, Nat.reduceEqDiff, Nat.reduceBneDiff]
end Go.Proofs.YtcggnmddcbhchaaGreatDoor
set_option linter.unusedSimpArgs false
set_option linter.unusedVariables false
namespace Go.Proofs.YtcggnmddcbhchaaGreatDoor
open Go.RowKit Lim
theorem limbs_single {n : Nat} (h0 : 0 < n) (h : n < 4294967296) : limbs n = [n] := by
  rw [limbs_pos (by omega), Nat.mod_eq_of_lt h, Nat.div_eq_of_lt h, limbs_zero]
theorem nlen_single {n : Nat} (h : nlen n = 1) : 0 < n ∧ n < 4294967296 := by
  refine ⟨?_, ?_⟩
  · rcases Nat.eq_zero_or_pos n with h0 | h0
    · subst h0; rw [nlen_zero] at h; omega
    · exact h0
  · have := lt_nlen n
    rw [h, pw_succ, pw_zero] at this
    omega
theorem limb_val {r : List Nat} (hr : Dig r) (j : Nat) : r.getD j 0 = val r / pw j % 4294967296 := by
  by_cases hj : j ≤ r.length
  · have h1 := val_take_drop r j hj
    have h2 := val_take_lt hr hj
    have h3 : val r / pw j = val (r.drop j) := by rw [h1, Nat.add_mul_div_left _ _ (pw_pos j), Nat.div_eq_of_lt h2]; omega
    rw [h3, val_head _ (dig_drop hr j)]
    simp
  · have h1 := val_lt hr
    have h2 := pw_mono (show r.length ≤ j by omega)
    rw [Nat.div_eq_of_lt (by omega)]
    simp [List.getElem?_eq_none (show r.length ≤ j by omega)]
theorem bit_put {r : List Nat} (hr : Dig r) {i m : Nat} (hm : val r = 2 ^ (i + 1) * m) : ∃ q, r.getD (i / 32) 0 = 2 ^ (i % 32 + 1) * q ∧ 2 ^ (i % 32) + 2 ^ (i % 32 + 1) * q < 4294967296 := by
  have hi : i + 1 = 32 * (i / 32) + (i % 32 + 1) := by omega
  have e1 : r.getD (i / 32) 0 = 2 ^ (i % 32 + 1) * m % 4294967296 := by
    rw [limb_val hr, hm, hi, Nat.pow_add, pw_two, Nat.mul_assoc, Nat.mul_div_cancel_left _ (Nat.two_pow_pos _)]
  have hB : 4294967296 = 2 ^ (i % 32 + 1) * 2 ^ (31 - i % 32) := by rw [← Nat.pow_add, show i % 32 + 1 + (31 - i % 32) = 32 by omega]
  refine ⟨m % 2 ^ (31 - i % 32), ?_, ?_⟩
  · rw [e1, hB, Nat.mul_mod_mul_left]
  · have h1 : m % 2 ^ (31 - i % 32) < 2 ^ (31 - i % 32) := Nat.mod_lt _ (Nat.two_pow_pos _)
    have h2 : 2 ^ (i % 32 + 1) * (m % 2 ^ (31 - i % 32) + 1) ≤ 2 ^ (i % 32 + 1) * 2 ^ (31 - i % 32) := Nat.mul_le_mul_left _ h1
    rw [← hB, Nat.mul_add] at h2
    have h3 : 2 ^ (i % 32 + 1) = 2 * 2 ^ (i % 32) := by rw [Nat.pow_succ]; omega
    have h4 := Nat.two_pow_pos (i % 32)
    omega
theorem pw_bit (i : Nat) : pw (i / 32) * 2 ^ (i % 32) = 2 ^ i := by rw [pw_two, ← Nat.pow_add]; congr 1; omega
theorem r1div_one (a b : List Nat) (ha : Dig a) (hb : Dig b) (hla : a.length < 10000000000) (hlb : b.length < 10000000000) (h : nlen (val b) = 1) : AT 185 [.nat a, .nat b] (.tup [natN (val a / val b), natN (val a % val b), boo true]) := by
  obtain ⟨h0, h1⟩ := nlen_single h
  have hL := limbs_single h0 h1
  have hna := nlen_val ha
  have hlt := Nat.mod_lt (val a) h0
  generalize hd : val b = d at *
  have f1 : (((1 : Nat) : Int) == 0) = false := rfl
  have f2 : (((1 : Nat) : Int) == 1) = true := rfl
  have n1 : IntKind.u64.wrap (d : Int) = (d : Int) := IntWalk.u64_in _ (by omega)
  refine ACalls.of ⟨13, [], []⟩ (fn := Tryz.f185) Tryz.func185 rfl rfl rfl (by kernel_rfl) (by kernel_rfl) (Nat.le_of_ble_eq_true rfl) ?_
  simp (maxSteps := 1000000) -implicitDefEqProofs only [go_sem, awp_seq, Nat.reduceBNe, Nat.reduceBEq, Nat.reduceAdd, Nat.reduceSub, Nat.reduceMul, Nat.reduceLeDiff, Nat.reduceLT, Nat.reduceEqDiff, Nat.reduceBneDiff]
  refine callA_tt (r1norm_c a ha (by omega)) ?_
  simp (maxSteps := 1000000) -implicitDefEqProofs only [go_sem, awp_seq, Nat.reduceBNe, Nat.reduceBEq, Nat.reduceAdd, Nat.reduceSub, Nat.reduceMul, Nat.reduceLeDiff, Nat.reduceLT, Nat.reduceEqDiff, Nat.reduceBneDiff]
  refine callA_tt (r1norm_c b hb (by omega)) ?_
  simp (maxSteps := 1000000) -implicitDefEqProofs only [natN, hd, hL, n1, f1, f2, Int.toNat_zero, Int.le_refl, go_sem, awp_seq, Nat.reduceBNe, Nat.reduceBEq, Nat.reduceAdd, Nat.reduceSub, Nat.reduceMul, Nat.reduceLeDiff, Nat.reduceLT, Nat.reduceEqDiff, Nat.reduceBneDiff]
  refine callA_tt (r1short_c _ d (dig_limbs _) (by show nlen _ < _; omega) h0 h1) ?_
  simp (maxSteps := 1000000) -implicitDefEqProofs only [natN, val_limbs, go_sem, awp_seq, Nat.reduceBNe, Nat.reduceBEq, Nat.reduceAdd, Nat.reduceSub, Nat.reduceMul, Nat.reduceLeDiff, Nat.reduceLT, Nat.reduceEqDiff, Nat.reduceBneDiff]
  refine callA_tt (r1of_c _ (by omega)) ?_
  simp (maxSteps := 1000000) -implicitDefEqProofs only [natN, go_sem, awp_seq, Nat.reduceBNe, Nat.reduceBEq, Nat.reduceAdd, Nat.reduceSub, Nat.reduceMul, Nat.reduceLeDiff, Nat.reduceLT, Nat.reduceEqDiff, Nat.reduceBneDiff]
set_option maxHeartbeats 4000000 in
theorem r1div_long (a b : List Nat) (ha : Dig a) (hb : Dig b) (hla : a.length < 10000000000) (hlb : b.length < 10000000000) (h : 2 ≤ nlen (val b)) : AT 185 [.nat a, .nat b] (.tup [natN (val a / val b), natN (val a % val b), boo true]) := by
  have hna := nlen_val ha
  have hnb := nlen_val hb
  generalize hA : val a = A at *
  generalize hB : val b = B at *
  have f1 : (((limbs B).length : Int) == 0) = false := by rw [beq_eq_false_iff_ne]; show ((nlen B : Nat) : Int) ≠ 0; omega
  have f2 : (((limbs B).length : Int) == 1) = false := by rw [beq_eq_false_iff_ne]; show ((nlen B : Nat) : Int) ≠ 1; omega
  have hB0 : 0 < B := by rcases Nat.eq_zero_or_pos B with h0 | h0; · subst h0; rw [nlen_zero] at h; omega
                         · exact h0
  have bA : bitsN A ≤ 32 * nlen A := bitsN_small (by rw [← pw_two]; exact lt_nlen A)
  have bB : bitsN B ≤ 32 * nlen B := bitsN_small (by rw [← pw_two]; exact lt_nlen B)
  have w0 : IntKind.i64.wrap ((bitsN A : Int) - (bitsN B : Int)) = (bitsN A : Int) - (bitsN B : Int) := IntWalk.i64_in _ (by omega)
  refine ACalls.of ⟨13, [], []⟩ (fn := Tryz.f185) Tryz.func185 rfl rfl rfl (by kernel_rfl) (by kernel_rfl) (Nat.le_of_ble_eq_true rfl) ?_
  simp (maxSteps := 1000000) -implicitDefEqProofs only [go_sem, awp_seq, Nat.reduceBNe, Nat.reduceBEq, Nat.reduceAdd, Nat.reduceSub, Nat.reduceMul, Nat.reduceLeDiff, Nat.reduceLT, Nat.reduceEqDiff, Nat.reduceBneDiff]
  refine callA_tt (r1norm_c a ha (by omega)) ?_
  simp (maxSteps := 1000000) -implicitDefEqProofs only [go_sem, awp_seq, Nat.reduceBNe, Nat.reduceBEq, Nat.reduceAdd, Nat.reduceSub, Nat.reduceMul, Nat.reduceLeDiff, Nat.reduceLT, Nat.reduceEqDiff, Nat.reduceBneDiff]
  refine callA_tt (r1norm_c b hb (by omega)) ?_
  simp (maxSteps := 1000000) -implicitDefEqProofs only [natN, hA, hB, f1, f2, go_sem, awp_seq, Nat.reduceBNe, Nat.reduceBEq, Nat.reduceAdd, Nat.reduceSub, Nat.reduceMul, Nat.reduceLeDiff, Nat.reduceLT, Nat.reduceEqDiff, Nat.reduceBneDiff]
  refine callA_tt (r1bits_c _ (dig_limbs A) (by show nlen _ < _; omega)) ?_
  simp (maxSteps := 1000000) -implicitDefEqProofs only [go_sem, awp_seq, Nat.reduceBNe, Nat.reduceBEq, Nat.reduceAdd, Nat.reduceSub, Nat.reduceMul, Nat.reduceLeDiff, Nat.reduceLT, Nat.reduceEqDiff, Nat.reduceBneDiff]
  refine callA_tt (r1bits_c _ (dig_limbs B) (by show nlen _ < _; omega)) ?_
  by_cases hlt : bitsN A < bitsN B
  · have g1 : decide ((bitsN A : Int) - (bitsN B : Int) < 0) = true := by simp; omega
    have hAB : A < B := by
      have h1 := bitsN_lt A
      have h2 := bitsN_le hB0
      have h3 : 2 ^ bitsN A ≤ 2 ^ (bitsN B - 1) := Nat.pow_le_pow_right (by omega) (by omega)
      omega
    simp (maxSteps := 1000000) -implicitDefEqProofs only [val_limbs, w0, g1, natN, Nat.div_eq_of_lt hAB, Nat.mod_eq_of_lt hAB, limbs_zero, go_sem, awp_seq, Nat.reduceBNe, Nat.reduceBEq, Nat.reduceAdd, Nat.reduceSub, Nat.reduceMul, Nat.reduceLeDiff, Nat.reduceLT, Nat.reduceEqDiff, Nat.reduceBneDiff]
  · obtain ⟨n, hn⟩ : ∃ n, bitsN A = bitsN B + n := ⟨bitsN A - bitsN B, by omega⟩
    have e0 : (bitsN A : Int) - (bitsN B : Int) = (n : Int) := by omega
    have g1 : decide ((n : Int) < 0) = false := by simp
    have d1 : ∀ i : Nat, i ≤ n → IntKind.i64.wrap ((i : Int).tdiv 32) = ((i / 32 : Nat) : Int) := fun i hi => by rw [Int.tdiv_eq_ediv_of_nonneg (by omega), IntWalk.i64_in _ (by omega)]; omega
    have d2 : ∀ i : Nat, (i : Int).tmod 32 = ((i % 32 : Nat) : Int) := fun i => by rw [Int.tmod_eq_emod_of_nonneg (by omega)]; omega
    have d3 : ∀ i : Nat, IntKind.u64.wrap ((i % 32 : Nat) : Int) = ((i % 32 : Nat) : Int) := fun i => IntWalk.u64_in _ (by omega)
    have d5 : ¬ ((32 : Int) = 0) := by omega
    have w1 : IntKind.i64.wrap (((n / 32 : Nat) : Int) + 1) = ((n / 32 + 1 : Nat) : Int) := by rw [IntWalk.i64_in _ (by omega)]; omega
    have m1 : ((n / 32 + 1 : Nat) : Int) * ((4 : Nat) : Int) ≤ 140737488355328 := by omega
    have m2 : ((n / 32 + 1 : Nat) : Int) ≤ 9223372036854775807 := by omega
    have w2 : IntKind.i64.wrap (n : Int) = (n : Int) := w63 (by omega)
    simp (maxSteps := 1000000) -implicitDefEqProofs only [val_limbs, w2, e0, g1, d1 n (Nat.le_refl _), d5, w1, Int.toNat_natCast, Int.natCast_nonneg, Int.le_refl, m1, m2, go_sem, awp_seq, Nat.reduceBNe, Nat.reduceBEq, Nat.reduceAdd, Nat.reduceSub, Nat.reduceMul, Nat.reduceLeDiff, Nat.reduceLT, Nat.reduceEqDiff, Nat.reduceBneDiff]
    refine callA_tt (r1shift_c _ n (dig_limbs B) (by show nlen _ < _; omega) (by omega)) ?_
    simp (maxSteps := 1000000) -implicitDefEqProofs only [val_limbs, natN, go_sem, awp_seq, Nat.reduceBNe, Nat.reduceBEq, Nat.reduceAdd, Nat.reduceSub, Nat.reduceMul, Nat.reduceLeDiff, Nat.reduceLT, Nat.reduceEqDiff, Nat.reduceBneDiff]
    have hA2 : A < B * 2 ^ (n + 1) := by
      have h1 := bitsN_lt A
      have h2 := bitsN_le hB0
      have h4 := bitsN_pos hB0
      have h3 : 2 ^ bitsN A = 2 ^ (bitsN B - 1) * 2 ^ (n + 1) := by rw [← Nat.pow_add]; congr 1; omega
      have h5 := Nat.mul_le_mul_right (2 ^ (n + 1)) h2
      omega
    have hDn : ∀ k, k ≤ n + 1 → nlen (B * 2 ^ k / 2) ≤ nlen A := fun k hk => by
      refine nlen_le ?_
      have h1 := bitsN_lt B
      have h2 : B * 2 ^ k ≤ B * 2 ^ (n + 1) := Nat.mul_le_mul_left _ (Nat.pow_le_pow_right (by omega) hk)
      have h3 : B * 2 ^ (n + 1) < 2 ^ bitsN B * 2 ^ (n + 1) := Nat.mul_lt_mul_of_pos_right h1 (Nat.two_pow_pos _)
      have h4 : 2 ^ bitsN B * 2 ^ (n + 1) = 2 * 2 ^ bitsN A := by rw [← Nat.pow_add, hn, ← Nat.add_assoc, Nat.pow_succ]; omega
      have h5 : 2 ^ bitsN A ≤ pw (nlen A) := by rw [pw_two]; exact Nat.pow_le_pow_right (by omega) bA
      omega
    refine loop_mk (α := {x : Nat × List Nat × Nat // x.1 ≤ n + 1 ∧ x.2.1.length = n / 32 + 1 ∧ Dig x.2.1 ∧ A = val x.2.1 * B + x.2.2 ∧ x.2.2 < B * 2 ^ x.1 ∧ ∃ m, val x.2.1 = 2 ^ x.1 * m}) (fun x => [(0, some (.av (.nat (limbs x.1.2.2)))), (10, some (.osl 46 1 0 (n / 32 + 1))), (11, some (.av (.nat (limbs (B * 2 ^ x.1.1 / 2))))), (12, some (.av (i64 ((x.1.1 : Int) - 1))))]) (fun _ => []) (fun x => [(46, .limb 133 x.1.2.1)]) (fun x => x.1.1) ⟨(n + 1, List.replicate (n / 32 + 1) 0, A), Nat.le_refl _, by simp, dig_replicate _, by simp [val_replicate], hA2, 0, by simp [val_replicate]⟩ ?_ ?_
    · have e3 : B * 2 ^ (n + 1) / 2 = B * 2 ^ n := by rw [Nat.pow_succ, ← Nat.mul_assoc, Nat.mul_div_cancel _ (by omega)]
      have e4 : ((n + 1 : Nat) : Int) - 1 = (n : Int) := by omega
      simp (maxSteps := 1000000) -implicitDefEqProofs only [e3, e4, go_sem, awp_seq, Nat.reduceBNe, Nat.reduceBEq, Nat.reduceAdd, Nat.reduceSub, Nat.reduceMul, Nat.reduceLeDiff, Nat.reduceLT, Nat.reduceEqDiff, Nat.reduceBneDiff]
    · rintro ⟨⟨k, r, R⟩, hk, hr, hdr, hAe, hR, m, hm⟩
      dsimp only at hk hr hdr hAe hR hm
      cases k with
      | zero =>
        have g2 : decide ((0 : Int) ≤ ((0 : Nat) : Int) - 1) = false := by simp
        rw [Nat.pow_zero, Nat.mul_one] at hR
        have hq : val r = A / B := by rw [hAe, Nat.mul_comm, Nat.mul_add_div hB0, Nat.div_eq_of_lt hR]; omega
        have hrem : R = A % B := by rw [hAe, Nat.mul_comm, Nat.mul_add_mod, Nat.mod_eq_of_lt hR]
        have htake : r.take (n / 32 + 1) = r := by rw [← hr, List.take_length]
        simp (maxSteps := 1000000) -implicitDefEqProofs only [g2, htake, hr, Nat.le_refl, go_sem, awp_seq, Nat.reduceBNe, Nat.reduceBEq, Nat.reduceAdd, Nat.reduceSub, Nat.reduceMul, Nat.reduceLeDiff, Nat.reduceLT, Nat.reduceEqDiff, Nat.reduceBneDiff]
        refine callA_rowTT (r1norm_c r hdr (by omega)) ?_ ?_ <;> simp (maxSteps := 1000000) -implicitDefEqProofs only [natN, hq, ← hrem, htake, hr, go_sem, awp_seq, Nat.reduceBNe, Nat.reduceBEq, Nat.reduceAdd, Nat.reduceSub, Nat.reduceMul, Nat.reduceLeDiff, Nat.reduceLT, Nat.reduceEqDiff, Nat.reduceBneDiff]
      | succ i =>
        have g2 : decide ((0 : Int) ≤ (i : Nat)) = true := by simp
        have e2 : ((i + 1 : Nat) : Int) - 1 = (i : Int) := by omega
        have hD : B * 2 ^ (i + 1) / 2 = B * 2 ^ i := by rw [Nat.pow_succ, ← Nat.mul_assoc, Nat.mul_div_cancel _ (by omega)]
        have hDl := hDn (i + 1) hk
        have q1 : IntKind.i64.wrap ((i : Int) - 1) = (i : Int) - 1 := IntWalk.i64_in _ (by omega)
        have hRA : R ≤ A := by omega
        have hRl := nlen_mono hRA
        rw [hD] at hDl
        simp (maxSteps := 1000000) -implicitDefEqProofs only [e2, hD, decide_true, Int.natCast_nonneg, go_sem, awp_seq, Nat.reduceBNe, Nat.reduceBEq, Nat.reduceAdd, Nat.reduceSub, Nat.reduceMul, Nat.reduceLeDiff, Nat.reduceLT, Nat.reduceEqDiff, Nat.reduceBneDiff]
        refine callA_tt (r1cmp_c _ _ (dig_limbs R) (dig_limbs _) (by show nlen _ < _; omega) (by show nlen _ < _; omega)) ?_
        simp (maxSteps := 1000000) -implicitDefEqProofs only [val_limbs, go_sem, awp_seq, Nat.reduceBNe, Nat.reduceBEq, Nat.reduceAdd, Nat.reduceSub, Nat.reduceMul, Nat.reduceLeDiff, Nat.reduceLT, Nat.reduceEqDiff, Nat.reduceBneDiff]
        rw [Nat.pow_succ, show B * (2 ^ i * 2) = 2 * (B * 2 ^ i) by grind] at hR
        by_cases hge : B * 2 ^ i ≤ R
        · have c1 : decide ((0 : Int) ≤ cmpI R (B * 2 ^ i)) = true := by
            rcases Nat.lt_or_eq_of_le hge with h1 | h1
            · rw [cmpI_gt h1]; rfl
            · rw [← h1, cmpI_eq]; rfl
          simp (maxSteps := 1000000) -implicitDefEqProofs only [c1, go_sem, awp_seq, Nat.reduceBNe, Nat.reduceBEq, Nat.reduceAdd, Nat.reduceSub, Nat.reduceMul, Nat.reduceLeDiff, Nat.reduceLT, Nat.reduceEqDiff, Nat.reduceBneDiff]
          refine callA_tt (r1sub_yes _ _ (dig_limbs R) (dig_limbs _) (by show nlen _ < _; omega) (by show nlen _ < _; omega) (by rw [val_limbs, val_limbs]; exact hge)) ?_
          have hil : i / 32 < r.length := by omega
          have hil2 : i / 32 < n / 32 + 1 := by omega
          obtain ⟨bq, hb1, hb2⟩ := bit_put hdr hm
          have hgr := getD_some hil
          have hset := val_set r (i / 32) (2 ^ (i % 32) + r.getD (i / 32) 0) hil
          have hrl : r[i / 32] = r.getD (i / 32) 0 := by rw [List.getD_eq_getElem?_getD, List.getElem?_eq_getElem hil]; rfl
          rw [hrl, Nat.mul_add, pw_bit] at hset
          obtain ⟨L, hL⟩ : ∃ L, r.getD (i / 32) 0 = L := ⟨_, rfl⟩
          rw [hL] at hb1 hgr hset
          rw [← hb1] at hb2
          have hor := or32' (sh := i % 32 + 1) (show 2 ^ (i % 32) < 2 ^ (i % 32 + 1) from Nat.pow_lt_pow_right (by omega) (by omega)) hb1 hb2
          have hmin : min (i % 32) 32 = i % 32 := by omega
          have s1 : IntKind.u32.wrap (1 * 2 ^ (i % 32)) = ((2 ^ (i % 32) : Nat) : Int) := by
            rw [show (1 : Int) * 2 ^ (i % 32) = ((2 ^ (i % 32) : Nat) : Int) by simp]
            have hle : 2 ^ (i % 32) ≤ 4294967295 := by omega
            exact IntWalk.u32_in _ ⟨Int.natCast_nonneg _, Int.ofNat_le.2 hle⟩
          have m3 : ((2 ^ (i % 32) + L : Nat) : Int) < 4294967296 := by omega
          simp (maxSteps := 1000000) -implicitDefEqProofs only [val_limbs, natN, d1 i (by omega), d2, d3, d5, s1, hmin, binK_or32, hor, hgr, Int.toNat_natCast, Int.natCast_nonneg, hil, hil2, m3, go_sem, awp_seq, Nat.reduceBNe, Nat.reduceBEq, Nat.reduceAdd, Nat.reduceSub, Nat.reduceMul, Nat.reduceLeDiff, Nat.reduceLT, Nat.reduceEqDiff, Nat.reduceBneDiff]
          refine callA_tt (r1half_c _ (dig_limbs _) (by show nlen _ < _; omega)) ?_
          simp (maxSteps := 1000000) -implicitDefEqProofs only [val_limbs, natN, q1, go_sem, awp_seq, Nat.reduceBNe, Nat.reduceBEq, Nat.reduceAdd, Nat.reduceSub, Nat.reduceMul, Nat.reduceLeDiff, Nat.reduceLT, Nat.reduceEqDiff, Nat.reduceBneDiff]
          refine roundK_mk ⟨(i, r.set (i / 32) (2 ^ (i % 32) + L), R - B * 2 ^ i), by omega, by simp [hr], dig_set hdr _ hb2, ?_, by show R - B * 2 ^ i < B * 2 ^ i; omega, 2 * m + 1, ?_⟩ ?_ (by show i < i + 1; omega)
          · show A = val (r.set (i / 32) (2 ^ (i % 32) + L)) * B + (R - B * 2 ^ i)
            have e5 : val (r.set (i / 32) (2 ^ (i % 32) + L)) = val r + 2 ^ i := by omega
            rw [e5, Nat.add_mul, Nat.mul_comm (2 ^ i) B]
            omega
          · show val (r.set (i / 32) (2 ^ (i % 32) + L)) = 2 ^ i * (2 * m + 1)
            have e5 : val (r.set (i / 32) (2 ^ (i % 32) + L)) = val r + 2 ^ i := by omega
            rw [e5, hm, Nat.pow_succ]
            grind
          · simp (maxSteps := 1000000) -implicitDefEqProofs only [go_sem, awp_seq, Nat.reduceBNe, Nat.reduceBEq, Nat.reduceAdd, Nat.reduceSub, Nat.reduceMul, Nat.reduceLeDiff, Nat.reduceLT, Nat.reduceEqDiff, Nat.reduceBneDiff]
        · have c1 : decide ((0 : Int) ≤ cmpI R (B * 2 ^ i)) = false := by rw [cmpI_lt (by omega)]; rfl
          simp (maxSteps := 1000000) -implicitDefEqProofs only [c1, go_sem, awp_seq, Nat.reduceBNe, Nat.reduceBEq, Nat.reduceAdd, Nat.reduceSub, Nat.reduceMul, Nat.reduceLeDiff, Nat.reduceLT, Nat.reduceEqDiff, Nat.reduceBneDiff]
          refine callA_tt (r1half_c _ (dig_limbs _) (by show nlen _ < _; omega)) ?_
          simp (maxSteps := 1000000) -implicitDefEqProofs only [val_limbs, natN, q1, go_sem, awp_seq, Nat.reduceBNe, Nat.reduceBEq, Nat.reduceAdd, Nat.reduceSub, Nat.reduceMul, Nat.reduceLeDiff, Nat.reduceLT, Nat.reduceEqDiff, Nat.reduceBneDiff]
          refine roundK_mk ⟨(i, r, R), by omega, hr, hdr, hAe, by show R < B * 2 ^ i; omega, 2 * m, by show val r = _; rw [hm, Nat.pow_succ]; grind⟩ ?_ (by show i < i + 1; omega)
          simp (maxSteps := 1000000) -implicitDefEqProofs only [go_sem, awp_seq, Nat.reduceBNe, Nat.reduceBEq, Nat.reduceAdd, Nat.reduceSub, Nat.reduceMul, Nat.reduceLeDiff, Nat.reduceLT, Nat.reduceEqDiff, Nat.reduceBneDiff]
theorem r1div_c (a b : List Nat) (ha : Dig a) (hb : Dig b) (hla : a.length < 10000000000) (hlb : b.length < 10000000000) (h : 0 < val b) : AT 185 [.nat a, .nat b] (.tup [natN (val a / val b), natN (val a % val b), boo true]) := by
  have h1 : nlen (val b) ≠ 0 := fun h2 => by have := nlen_eq_zero.1 h2; omega
  by_cases h2 : nlen (val b) = 1
  · exact r1div_one a b ha hb hla hlb h2
  · exact r1div_long a b ha hb hla hlb (by omega)
set_option maxHeartbeats 2000000 in
theorem r1gcd_c (a b : List Nat) (ha : Dig a) (hb : Dig b) (hla : a.length < 10000000000) (hlb : b.length < 10000000000) : AT 184 [.nat a, .nat b] (natN (Nat.gcd (val a) (val b))) := by
  have hna := nlen_val ha
  have hnb := nlen_val hb
  refine ACalls.of ⟨7, [], []⟩ (fn := Tryz.f184) Tryz.func184 rfl rfl rfl (by kernel_rfl) (by kernel_rfl) (Nat.le_of_ble_eq_true rfl) ?_
  simp (maxSteps := 1000000) -implicitDefEqProofs only [go_sem, awp_seq, Nat.reduceBNe, Nat.reduceBEq, Nat.reduceAdd, Nat.reduceSub, Nat.reduceMul, Nat.reduceLeDiff, Nat.reduceLT, Nat.reduceEqDiff, Nat.reduceBneDiff]
  refine callA_tt (r1norm_c a ha (by omega)) ?_
  simp (maxSteps := 1000000) -implicitDefEqProofs only [go_sem, awp_seq, Nat.reduceBNe, Nat.reduceBEq, Nat.reduceAdd, Nat.reduceSub, Nat.reduceMul, Nat.reduceLeDiff, Nat.reduceLT, Nat.reduceEqDiff, Nat.reduceBneDiff]
  refine callA_tt (r1norm_c b hb (by omega)) ?_
  simp (maxSteps := 1000000) -implicitDefEqProofs only [go_sem, awp_seq, Nat.reduceBNe, Nat.reduceBEq, Nat.reduceAdd, Nat.reduceSub, Nat.reduceMul, Nat.reduceLeDiff, Nat.reduceLT, Nat.reduceEqDiff, Nat.reduceBneDiff]
  refine loop_mk (α := {x : Nat × Nat // nlen x.1 < 10000000000 ∧ nlen x.2 < 10000000000 ∧ Nat.gcd x.1 x.2 = Nat.gcd (val a) (val b)}) (fun x => [(0, some (.av (natN x.1.1))), (1, some (.av (natN x.1.2)))]) (fun _ => []) (fun _ => []) (fun x => x.1.2) ⟨(val a, val b), by show nlen (val a) < _; omega, by show nlen (val b) < _; omega, rfl⟩ ?_ ?_
  · simp (maxSteps := 1000000) -implicitDefEqProofs only [go_sem, awp_seq, Nat.reduceBNe, Nat.reduceBEq, Nat.reduceAdd, Nat.reduceSub, Nat.reduceMul, Nat.reduceLeDiff, Nat.reduceLT, Nat.reduceEqDiff, Nat.reduceBneDiff]
  · rintro ⟨⟨x, y⟩, hx, hy, hg⟩
    dsimp only at hx hy hg
    by_cases h0 : y = 0
    · subst h0
      have f1 : decide ((0 : Int) < ((limbs 0).length : Nat)) = false := by rw [limbs_zero]; rfl
      rw [Nat.gcd_zero_right] at hg
      simp (maxSteps := 1000000) -implicitDefEqProofs only [natN, f1, hg, go_sem, awp_seq, Nat.reduceBNe, Nat.reduceBEq, Nat.reduceAdd, Nat.reduceSub, Nat.reduceMul, Nat.reduceLeDiff, Nat.reduceLT, Nat.reduceEqDiff, Nat.reduceBneDiff]
    · have hy0 : 0 < (limbs y).length := by
        cases he : limbs y with
        | nil => have := limbs_eq_nil.1 he; omega
        | cons => simp
      have f1 : decide ((0 : Int) < ((limbs y).length : Nat)) = true := by simp; omega
      simp (maxSteps := 1000000) -implicitDefEqProofs only [natN, f1, go_sem, awp_seq, Nat.reduceBNe, Nat.reduceBEq, Nat.reduceAdd, Nat.reduceSub, Nat.reduceMul, Nat.reduceLeDiff, Nat.reduceLT, Nat.reduceEqDiff, Nat.reduceBneDiff]
      refine callA_tt (r1div_c _ _ (dig_limbs x) (dig_limbs y) hx hy (by rw [val_limbs]; omega)) ?_
      simp (maxSteps := 1000000) -implicitDefEqProofs only [natN, val_limbs, go_sem, awp_seq, Nat.reduceBNe, Nat.reduceBEq, Nat.reduceAdd, Nat.reduceSub, Nat.reduceMul, Nat.reduceLeDiff, Nat.reduceLT, Nat.reduceEqDiff, Nat.reduceBneDiff]
      have hlt := Nat.mod_lt x (show 0 < y by omega)
      refine roundK_mk ⟨(y, x % y), hy, by show nlen (x % y) < _; have := nlen_mono (Nat.le_of_lt hlt); omega, by show Nat.gcd y (x % y) = _; rw [← hg, Nat.gcd_comm x y, Nat.gcd_rec y x, Nat.gcd_comm]⟩ ?_ hlt
      simp (maxSteps := 1000000) -implicitDefEqProofs only [natN, go_sem, awp_seq, Nat.reduceBNe, Nat.reduceBEq, Nat.reduceAdd, Nat.reduceSub, Nat.reduceMul, Nat.reduceLeDiff, Nat.reduceLT, Nat.reduceEqDiff, Nat.reduceBneDiff]
end Go.Proofs.YtcggnmddcbhchaaGreatDoor
set_option linter.unusedSimpArgs false
set_option linter.unusedVariables false
namespace Go.Proofs.YtcggnmddcbhchaaGreatDoor
open Go.RowKit Lim
def DN (a : AV) (n : Nat) : Prop := ∃ l, a = .nat l ∧ Dig l ∧ val l = n ∧ l.length < 1000000000
def DI (a : AV) (z : Int) : Prop := ∃ t l, a = intA t l ∧ Dig l ∧ sg t (val l) = z ∧ l.length < 1000000000
theorem dN (n : Nat) (h : nlen n < 1000000000) : DN (natN n) n := ⟨_, rfl, dig_limbs n, val_limbs n, h⟩
theorem dI (z : Int) (h : nlen z.natAbs < 1000000000) : DI (intN z) z := ⟨_, _, rfl, dig_limbs _, by rw [val_limbs]; exact sg_norm z, h⟩
theorem sg_natAbs (t : Bool) (n : Nat) : (sg t n).natAbs = n := by unfold sg; cases t <;> simp
theorem sg_neg (t : Bool) (n : Nat) : decide (sg t n < 0) = (t && decide (0 < n)) := by unfold sg; cases t <;> simp <;> omega
theorem limbs_len_pos (n : Nat) : decide ((0 : Int) < ((limbs n).length : Nat)) = decide (0 < n) := by
  by_cases h : n = 0
  · subst h; rw [limbs_zero]; rfl
  · have : 0 < (limbs n).length := by
      cases he : limbs n with
      | nil => have := limbs_eq_nil.1 he; omega
      | cons => simp
    have h1 : 0 < n := by omega
    simp [h1]; omega
theorem r2norm_c {a : AV} {z : Int} (ha : DI a z) : AT 115 [a] (intN z) := by
  obtain ⟨t, l, rfl, hd, rfl, hl⟩ := ha
  refine ACalls.of ⟨4, [], []⟩ (fn := Tryz.f115) Tryz.func115 rfl rfl rfl (by kernel_rfl) (by kernel_rfl) (Nat.le_of_ble_eq_true rfl) ?_
  simp (maxSteps := 1000000) -implicitDefEqProofs only [go_sem, awp_seq, Nat.reduceBNe, Nat.reduceBEq, Nat.reduceAdd, Nat.reduceSub, Nat.reduceMul, Nat.reduceLeDiff, Nat.reduceLT, Nat.reduceEqDiff, Nat.reduceBneDiff]
  refine callA_tt (r1norm_c l hd (by omega)) ?_
  cases t with
  | false => simp (maxSteps := 1000000) -implicitDefEqProofs only [natN, intN, sg_natAbs, sg_neg, Bool.false_and, go_sem, awp_seq, Nat.reduceBNe, Nat.reduceBEq, Nat.reduceAdd, Nat.reduceSub, Nat.reduceMul, Nat.reduceLeDiff, Nat.reduceLT, Nat.reduceEqDiff, Nat.reduceBneDiff]
  | true => simp (maxSteps := 1000000) -implicitDefEqProofs only [natN, intN, limbs_len_pos, sg_natAbs, sg_neg, Bool.true_and, go_sem, awp_seq, Nat.reduceBNe, Nat.reduceBEq, Nat.reduceAdd, Nat.reduceSub, Nat.reduceMul, Nat.reduceLeDiff, Nat.reduceLT, Nat.reduceEqDiff, Nat.reduceBneDiff]
theorem r2make_c (t : Bool) {a : AV} {n : Nat} (ha : DN a n) : AT 135 [boo t, a] (intN (sg t n)) := by
  obtain ⟨l, rfl, hd, rfl, hl⟩ := ha
  refine ACalls.of ⟨5, [], []⟩ (fn := Tryz.f135) Tryz.func135 rfl rfl rfl (by kernel_rfl) (by kernel_rfl) (Nat.le_of_ble_eq_true rfl) ?_
  simp (maxSteps := 1000000) -implicitDefEqProofs only [go_sem, awp_seq, Nat.reduceBNe, Nat.reduceBEq, Nat.reduceAdd, Nat.reduceSub, Nat.reduceMul, Nat.reduceLeDiff, Nat.reduceLT, Nat.reduceEqDiff, Nat.reduceBneDiff]
  refine callA_tt (r2norm_c ⟨t, l, rfl, hd, rfl, hl⟩) ?_
  simp (maxSteps := 1000000) -implicitDefEqProofs only [go_sem, awp_seq, Nat.reduceBNe, Nat.reduceBEq, Nat.reduceAdd, Nat.reduceSub, Nat.reduceMul, Nat.reduceLeDiff, Nat.reduceLT, Nat.reduceEqDiff, Nat.reduceBneDiff]
theorem r2sign_c {a : AV} {z : Int} (ha : DI a z) : AT 75 [a] (i64 (sgnI z)) := by
  have hn := r2norm_c ha
  obtain ⟨t, l, rfl, hd, rfl, hl⟩ := ha
  generalize sg t (val l) = z at *
  refine ACalls.of ⟨4, [], []⟩ (fn := Tryz.f75) Tryz.func75 rfl rfl rfl (by kernel_rfl) (by kernel_rfl) (Nat.le_of_ble_eq_true rfl) ?_
  simp (maxSteps := 1000000) -implicitDefEqProofs only [go_sem, awp_seq, Nat.reduceBNe, Nat.reduceBEq, Nat.reduceAdd, Nat.reduceSub, Nat.reduceMul, Nat.reduceLeDiff, Nat.reduceLT, Nat.reduceEqDiff, Nat.reduceBneDiff]
  refine callA_tt hn ?_
  by_cases h0 : z = 0
  · subst h0
    have f1 : (((limbs (0 : Int).natAbs).length : Int) == 0) = true := by rw [show (0 : Int).natAbs = 0 from rfl, limbs_zero]; rfl
    have e : sgnI 0 = 0 := rfl
    simp (maxSteps := 1000000) -implicitDefEqProofs only [intN, f1, e, go_sem, awp_seq, Nat.reduceBNe, Nat.reduceBEq, Nat.reduceAdd, Nat.reduceSub, Nat.reduceMul, Nat.reduceLeDiff, Nat.reduceLT, Nat.reduceEqDiff, Nat.reduceBneDiff]
  · have f1 : (((limbs z.natAbs).length : Int) == 0) = false := by
      rw [beq_eq_false_iff_ne]
      intro hc
      have h1 : nlen z.natAbs = 0 := by have : ((nlen z.natAbs : Nat) : Int) = 0 := hc; omega
      have := nlen_eq_zero.1 h1
      omega
    by_cases h1 : z < 0
    · have e : sgnI z = -1 := by unfold sgnI; rw [if_pos h1]
      simp (maxSteps := 1000000) -implicitDefEqProofs only [intN, f1, e, h1, decide_true, go_sem, awp_seq, Nat.reduceBNe, Nat.reduceBEq, Nat.reduceAdd, Nat.reduceSub, Nat.reduceMul, Nat.reduceLeDiff, Nat.reduceLT, Nat.reduceEqDiff, Nat.reduceBneDiff]
    · have e : sgnI z = 1 := by unfold sgnI; rw [if_neg h1, if_pos (by omega)]
      simp (maxSteps := 1000000) -implicitDefEqProofs only [intN, f1, e, h1, decide_false, go_sem, awp_seq, Nat.reduceBNe, Nat.reduceBEq, Nat.reduceAdd, Nat.reduceSub, Nat.reduceMul, Nat.reduceLeDiff, Nat.reduceLT, Nat.reduceEqDiff, Nat.reduceBneDiff]
theorem r2of_c (z : Int) (h1 : -9223372036854775808 ≤ z) (h2 : z ≤ 9223372036854775807) : AT 70 [i64 z] (intN z) := by
  have hl : nlen z.natAbs < 1000000000 := by
    have : nlen z.natAbs ≤ 2 := nlen_le (by rw [show pw 2 = 18446744073709551616 from rfl]; omega)
    omega
  by_cases h : z < 0
  · have f1 : decide (z < 0) = true := by simp [h]
    have n1 : IntKind.i64.wrap (z + 1) = z + 1 := IntWalk.i64_in _ (by omega)
    have n2 : IntKind.i64.wrap (0 - (z + 1)) = 0 - (z + 1) := IntWalk.i64_in _ (by omega)
    have n3 : IntKind.u64.wrap (0 - (z + 1)) = 0 - (z + 1) := IntWalk.u64_in _ (by omega)
    have n4 : IntKind.u64.wrap (0 - (z + 1) + 1) = ((z.natAbs : Nat) : Int) := by rw [IntWalk.u64_in _ (by omega)]; omega
    have e : sg true z.natAbs = z := by unfold sg; simp; omega
    refine ACalls.of ⟨3, [], []⟩ (fn := Tryz.f70) Tryz.func70 rfl rfl rfl (by kernel_rfl) (by kernel_rfl) (Nat.le_of_ble_eq_true rfl) ?_
    simp (maxSteps := 1000000) -implicitDefEqProofs only [f1, n1, n2, n3, n4, go_sem, awp_seq, Nat.reduceBNe, Nat.reduceBEq, Nat.reduceAdd, Nat.reduceSub, Nat.reduceMul, Nat.reduceLeDiff, Nat.reduceLT, Nat.reduceEqDiff, Nat.reduceBneDiff]
    refine callA_tt (r1of_c _ (by omega)) ?_
    simp (maxSteps := 1000000) -implicitDefEqProofs only [go_sem, awp_seq, Nat.reduceBNe, Nat.reduceBEq, Nat.reduceAdd, Nat.reduceSub, Nat.reduceMul, Nat.reduceLeDiff, Nat.reduceLT, Nat.reduceEqDiff, Nat.reduceBneDiff]
    refine callA_tt (r2make_c true (dN _ hl)) ?_
    simp (maxSteps := 1000000) -implicitDefEqProofs only [e, go_sem, awp_seq, Nat.reduceBNe, Nat.reduceBEq, Nat.reduceAdd, Nat.reduceSub, Nat.reduceMul, Nat.reduceLeDiff, Nat.reduceLT, Nat.reduceEqDiff, Nat.reduceBneDiff]
  · have f1 : decide (z < 0) = false := by simp; omega
    have n1 : IntKind.u64.wrap z = ((z.natAbs : Nat) : Int) := by rw [IntWalk.u64_in _ (by omega)]; omega
    have e : sg false z.natAbs = z := by unfold sg; simp; omega
    refine ACalls.of ⟨3, [], []⟩ (fn := Tryz.f70) Tryz.func70 rfl rfl rfl (by kernel_rfl) (by kernel_rfl) (Nat.le_of_ble_eq_true rfl) ?_
    simp (maxSteps := 1000000) -implicitDefEqProofs only [f1, n1, go_sem, awp_seq, Nat.reduceBNe, Nat.reduceBEq, Nat.reduceAdd, Nat.reduceSub, Nat.reduceMul, Nat.reduceLeDiff, Nat.reduceLT, Nat.reduceEqDiff, Nat.reduceBneDiff]
    refine callA_tt (r1of_c _ (by omega)) ?_
    simp (maxSteps := 1000000) -implicitDefEqProofs only [go_sem, awp_seq, Nat.reduceBNe, Nat.reduceBEq, Nat.reduceAdd, Nat.reduceSub, Nat.reduceMul, Nat.reduceLeDiff, Nat.reduceLT, Nat.reduceEqDiff, Nat.reduceBneDiff]
    refine callA_tt (r2make_c false (dN _ hl)) ?_
    simp (maxSteps := 1000000) -implicitDefEqProofs only [e, go_sem, awp_seq, Nat.reduceBNe, Nat.reduceBEq, Nat.reduceAdd, Nat.reduceSub, Nat.reduceMul, Nat.reduceLeDiff, Nat.reduceLT, Nat.reduceEqDiff, Nat.reduceBneDiff]
end Go.Proofs.YtcggnmddcbhchaaGreatDoor
set_option linter.unusedSimpArgs false
set_option linter.unusedVariables false
namespace Go.Proofs.YtcggnmddcbhchaaGreatDoor
open Go.RowKit Lim
theorem nlen_div (n k : Nat) : nlen (n / k) ≤ nlen n := nlen_mono (Nat.div_le_self n k)
end Go.Proofs.YtcggnmddcbhchaaGreatDoor
set_option linter.unusedSimpArgs false
set_option linter.unusedVariables false
namespace Go.Proofs.YtcggnmddcbhchaaGreatDoor
open Go.RowKit Lim
abbrev u32 (n : Int) : AV := .lit (.int .u32 n)
end Go.Proofs.YtcggnmddcbhchaaGreatDoor
set_option linter.unusedSimpArgs false
set_option linter.unusedVariables false
namespace Go.Proofs.YtcggnmddcbhchaaGreatDoor
open Go.RowKit Lim
end Go.Proofs.YtcggnmddcbhchaaGreatDoor
set_option linter.unusedSimpArgs false
set_option linter.unusedVariables false
namespace Go.Proofs.YtcggnmddcbhchaaGreatDoor
open Go.RowKit Lim
end Go.Proofs.YtcggnmddcbhchaaGreatDoor
set_option linter.unusedSimpArgs false
set_option linter.unusedVariables false
namespace Go.Proofs.YtcggnmddcbhchaaGreatDoor
open Go.RowKit Lim
structure Eqv (n : Int) (d : Nat) (x : Int) (y : Nat) : Prop where
  dp : 0 < d
  yp : 0 < y
  e : n * (y : Int) = x * (d : Int)
end Go.Proofs.YtcggnmddcbhchaaGreatDoor
set_option linter.unusedSimpArgs false
set_option linter.unusedVariables false
namespace Go.Proofs.YtcggnmddcbhchaaGreatDoor
open Go.RowKit Lim
def DR (a : AV) (z : Int) (d : Nat) : Prop := ∃ t l m, a = ratA t l m ∧ Dig l ∧ Dig m ∧ sg t (val l) = z ∧ val m = d ∧ l.length < 100000000 ∧ m.length < 100000000
theorem dR (z : Int) (d : Nat) (h : nlen z.natAbs < 100000000) (h2 : nlen d < 100000000) : DR (ratN z d) z d := ⟨_, _, _, rfl, dig_limbs _, dig_limbs _, by rw [val_limbs]; exact sg_norm z, val_limbs d, h, h2⟩
theorem DR.n1 {a : AV} {z : Int} {d : Nat} (h : DR a z d) : nlen z.natAbs < 100000000 ∧ nlen d < 100000000 := by
  obtain ⟨t, l, m, _, h1, h2, rfl, rfl, h3, h4⟩ := h
  rw [sg_natAbs]
  have := nlen_val h1
  have := nlen_val h2
  omega
theorem DI.n1 {a : AV} {z : Int} (h : DI a z) : nlen z.natAbs < 1000000000 := by
  obtain ⟨t, l, _, h1, rfl, h3⟩ := h
  rw [sg_natAbs]
  have := nlen_val h1
  omega
theorem DN.n1 {a : AV} {n : Nat} (h : DN a n) : nlen n < 1000000000 := by
  obtain ⟨l, _, h1, rfl, h3⟩ := h
  have := nlen_val h1
  omega
theorem ratN_zero : ratN 0 1 = .agg [boo false, .nat [], natN 1] := by simp [limbs_zero]
theorem bits_zero {n : Nat} (h : n = 0) : (((bitsN n : Nat) : Int) == 0) = true := by rw [h, bitsN_zero]; rfl
theorem bits_pos {n : Nat} (h : n ≠ 0) : (((bitsN n : Nat) : Int) == 0) = false := by
  have := bitsN_pos (show 0 < n by omega)
  rw [beq_eq_false_iff_ne]
  omega
theorem r3zero_c : AT 183 [] (ratN 0 1) := by
  rw [ratN_zero]
  refine ACalls.of ⟨1, [], []⟩ (fn := Tryz.f183) Tryz.func183 rfl rfl rfl (by kernel_rfl) (by kernel_rfl) (Nat.le_of_ble_eq_true rfl) ?_
  simp (maxSteps := 1000000) -implicitDefEqProofs only [go_sem, awp_seq, Nat.reduceBNe, Nat.reduceBEq, Nat.reduceAdd, Nat.reduceSub, Nat.reduceMul, Nat.reduceLeDiff, Nat.reduceLT, Nat.reduceEqDiff, Nat.reduceBneDiff]
  refine callA_tt (r1of_c 1 (by omega)) ?_
  simp (maxSteps := 1000000) -implicitDefEqProofs only [go_sem, awp_seq, Nat.reduceBNe, Nat.reduceBEq, Nat.reduceAdd, Nat.reduceSub, Nat.reduceMul, Nat.reduceLeDiff, Nat.reduceLT, Nat.reduceEqDiff, Nat.reduceBneDiff]
theorem r3top_c {a : AV} {z : Int} {d : Nat} (ha : DR a z d) : AT 76 [a] (intN (pz z d)) := by
  obtain ⟨t, l, m, rfl, hl, hm, rfl, rfl, h1, h2⟩ := ha
  by_cases h0 : val m = 0
  · have f1 := bits_zero h0
    have e : pz (sg t (val l)) (val m) = 0 := by unfold pz; rw [if_pos h0]
    rw [e]
    refine ACalls.of ⟨3, [], []⟩ (fn := Tryz.f76) Tryz.func76 rfl rfl rfl (by kernel_rfl) (by kernel_rfl) (Nat.le_of_ble_eq_true rfl) ?_
    simp (maxSteps := 1000000) -implicitDefEqProofs only [go_sem, awp_seq, Nat.reduceBNe, Nat.reduceBEq, Nat.reduceAdd, Nat.reduceSub, Nat.reduceMul, Nat.reduceLeDiff, Nat.reduceLT, Nat.reduceEqDiff, Nat.reduceBneDiff]
    refine callA_tt (r1bits_c m hm (by omega)) ?_
    simp (maxSteps := 1000000) -implicitDefEqProofs only [f1, go_sem, awp_seq, Nat.reduceBNe, Nat.reduceBEq, Nat.reduceAdd, Nat.reduceSub, Nat.reduceMul, Nat.reduceLeDiff, Nat.reduceLT, Nat.reduceEqDiff, Nat.reduceBneDiff]
    refine callA_tt (r2of_c 0 (by omega) (by omega)) ?_
    simp (maxSteps := 1000000) -implicitDefEqProofs only [go_sem, awp_seq, Nat.reduceBNe, Nat.reduceBEq, Nat.reduceAdd, Nat.reduceSub, Nat.reduceMul, Nat.reduceLeDiff, Nat.reduceLT, Nat.reduceEqDiff, Nat.reduceBneDiff]
  · have f1 := bits_pos h0
    have e : pz (sg t (val l)) (val m) = sg t (val l) := by unfold pz; rw [if_neg h0]
    rw [e]
    refine ACalls.of ⟨3, [], []⟩ (fn := Tryz.f76) Tryz.func76 rfl rfl rfl (by kernel_rfl) (by kernel_rfl) (Nat.le_of_ble_eq_true rfl) ?_
    simp (maxSteps := 1000000) -implicitDefEqProofs only [go_sem, awp_seq, Nat.reduceBNe, Nat.reduceBEq, Nat.reduceAdd, Nat.reduceSub, Nat.reduceMul, Nat.reduceLeDiff, Nat.reduceLT, Nat.reduceEqDiff, Nat.reduceBneDiff]
    refine callA_tt (r1bits_c m hm (by omega)) ?_
    simp (maxSteps := 1000000) -implicitDefEqProofs only [f1, go_sem, awp_seq, Nat.reduceBNe, Nat.reduceBEq, Nat.reduceAdd, Nat.reduceSub, Nat.reduceMul, Nat.reduceLeDiff, Nat.reduceLT, Nat.reduceEqDiff, Nat.reduceBneDiff]
    refine callA_tt (r2norm_c ⟨t, l, rfl, hl, rfl, by omega⟩) ?_
    simp (maxSteps := 1000000) -implicitDefEqProofs only [go_sem, awp_seq, Nat.reduceBNe, Nat.reduceBEq, Nat.reduceAdd, Nat.reduceSub, Nat.reduceMul, Nat.reduceLeDiff, Nat.reduceLT, Nat.reduceEqDiff, Nat.reduceBneDiff]
theorem r3low_c {a : AV} {z : Int} {d : Nat} (ha : DR a z d) : AT 132 [a] (natN (pd d)) := by
  obtain ⟨t, l, m, rfl, hl, hm, rfl, rfl, h1, h2⟩ := ha
  by_cases h0 : val m = 0
  · have f1 := bits_zero h0
    have e : pd (val m) = 1 := by unfold pd; rw [if_pos h0]
    rw [e]
    refine ACalls.of ⟨3, [], []⟩ (fn := Tryz.f132) Tryz.func132 rfl rfl rfl (by kernel_rfl) (by kernel_rfl) (Nat.le_of_ble_eq_true rfl) ?_
    simp (maxSteps := 1000000) -implicitDefEqProofs only [go_sem, awp_seq, Nat.reduceBNe, Nat.reduceBEq, Nat.reduceAdd, Nat.reduceSub, Nat.reduceMul, Nat.reduceLeDiff, Nat.reduceLT, Nat.reduceEqDiff, Nat.reduceBneDiff]
    refine callA_tt (r1bits_c m hm (by omega)) ?_
    simp (maxSteps := 1000000) -implicitDefEqProofs only [f1, go_sem, awp_seq, Nat.reduceBNe, Nat.reduceBEq, Nat.reduceAdd, Nat.reduceSub, Nat.reduceMul, Nat.reduceLeDiff, Nat.reduceLT, Nat.reduceEqDiff, Nat.reduceBneDiff]
    refine callA_tt (r1of_c 1 (by omega)) ?_
    simp (maxSteps := 1000000) -implicitDefEqProofs only [go_sem, awp_seq, Nat.reduceBNe, Nat.reduceBEq, Nat.reduceAdd, Nat.reduceSub, Nat.reduceMul, Nat.reduceLeDiff, Nat.reduceLT, Nat.reduceEqDiff, Nat.reduceBneDiff]
  · have f1 := bits_pos h0
    have e : pd (val m) = val m := by unfold pd; rw [if_neg h0]
    rw [e]
    refine ACalls.of ⟨3, [], []⟩ (fn := Tryz.f132) Tryz.func132 rfl rfl rfl (by kernel_rfl) (by kernel_rfl) (Nat.le_of_ble_eq_true rfl) ?_
    simp (maxSteps := 1000000) -implicitDefEqProofs only [go_sem, awp_seq, Nat.reduceBNe, Nat.reduceBEq, Nat.reduceAdd, Nat.reduceSub, Nat.reduceMul, Nat.reduceLeDiff, Nat.reduceLT, Nat.reduceEqDiff, Nat.reduceBneDiff]
    refine callA_tt (r1bits_c m hm (by omega)) ?_
    simp (maxSteps := 1000000) -implicitDefEqProofs only [f1, go_sem, awp_seq, Nat.reduceBNe, Nat.reduceBEq, Nat.reduceAdd, Nat.reduceSub, Nat.reduceMul, Nat.reduceLeDiff, Nat.reduceLT, Nat.reduceEqDiff, Nat.reduceBneDiff]
    refine callA_tt (r1norm_c m hm (by omega)) ?_
    simp (maxSteps := 1000000) -implicitDefEqProofs only [go_sem, awp_seq, Nat.reduceBNe, Nat.reduceBEq, Nat.reduceAdd, Nat.reduceSub, Nat.reduceMul, Nat.reduceLeDiff, Nat.reduceLT, Nat.reduceEqDiff, Nat.reduceBneDiff]
theorem r3reduce_c {a b : AV} {z : Int} {d : Nat} (ha : DI a z) (hb : DN b d) (hd0 : 0 < d) : AT 131 [a, b] (ratN (rn z d) (rd z d)) := by
  have s1 := r2norm_c ha
  have n1 := ha.n1
  have n2 := hb.n1
  obtain ⟨t, l, rfl, hl, hz, h1⟩ := ha
  obtain ⟨m, rfl, hm, rfl, h2⟩ := hb
  have hg : 0 < Nat.gcd z.natAbs (val m) := Nat.gcd_pos_of_pos_right _ hd0
  have ng : nlen (Nat.gcd z.natAbs (val m)) ≤ nlen (val m) := nlen_mono (Nat.le_of_dvd hd0 (Nat.gcd_dvd_right _ _))
  by_cases h0 : z.natAbs = 0
  · have f1 := bits_zero h0
    have z0 : z = 0 := by omega
    have e1 : rn z (val m) = 0 := by rw [z0]; simp [rn, sg]
    have e2 : rd z (val m) = 1 := by rw [z0]; simp only [rd, Int.natAbs_zero, Nat.gcd_zero_left]; exact Nat.div_self hd0
    rw [e1, e2]
    refine ACalls.of ⟨11, [], []⟩ (fn := Tryz.f131) Tryz.func131 rfl rfl rfl (by kernel_rfl) (by kernel_rfl) (Nat.le_of_ble_eq_true rfl) ?_
    simp (maxSteps := 1000000) -implicitDefEqProofs only [go_sem, awp_seq, Nat.reduceBNe, Nat.reduceBEq, Nat.reduceAdd, Nat.reduceSub, Nat.reduceMul, Nat.reduceLeDiff, Nat.reduceLT, Nat.reduceEqDiff, Nat.reduceBneDiff]
    refine callA_tt s1 ?_
    simp (maxSteps := 1000000) -implicitDefEqProofs only [intN, go_sem, awp_seq, Nat.reduceBNe, Nat.reduceBEq, Nat.reduceAdd, Nat.reduceSub, Nat.reduceMul, Nat.reduceLeDiff, Nat.reduceLT, Nat.reduceEqDiff, Nat.reduceBneDiff]
    refine callA_tt (r1bits_c _ (dig_limbs z.natAbs) (by show nlen _ < _; omega)) ?_
    simp (maxSteps := 1000000) -implicitDefEqProofs only [val_limbs, f1, go_sem, awp_seq, Nat.reduceBNe, Nat.reduceBEq, Nat.reduceAdd, Nat.reduceSub, Nat.reduceMul, Nat.reduceLeDiff, Nat.reduceLT, Nat.reduceEqDiff, Nat.reduceBneDiff]
    refine callA_tt r3zero_c ?_
    simp (maxSteps := 1000000) -implicitDefEqProofs only [go_sem, awp_seq, Nat.reduceBNe, Nat.reduceBEq, Nat.reduceAdd, Nat.reduceSub, Nat.reduceMul, Nat.reduceLeDiff, Nat.reduceLT, Nat.reduceEqDiff, Nat.reduceBneDiff]
  · have f1 := bits_pos h0
    have e1 : sg (decide (z < 0)) (z.natAbs / Nat.gcd z.natAbs (val m)) = rn z (val m) := rfl
    have e2 : val m / Nat.gcd z.natAbs (val m) = rd z (val m) := rfl
    have nq := nlen_div z.natAbs (Nat.gcd z.natAbs (val m))
    refine ACalls.of ⟨11, [], []⟩ (fn := Tryz.f131) Tryz.func131 rfl rfl rfl (by kernel_rfl) (by kernel_rfl) (Nat.le_of_ble_eq_true rfl) ?_
    simp (maxSteps := 1000000) -implicitDefEqProofs only [go_sem, awp_seq, Nat.reduceBNe, Nat.reduceBEq, Nat.reduceAdd, Nat.reduceSub, Nat.reduceMul, Nat.reduceLeDiff, Nat.reduceLT, Nat.reduceEqDiff, Nat.reduceBneDiff]
    refine callA_tt s1 ?_
    simp (maxSteps := 1000000) -implicitDefEqProofs only [intN, go_sem, awp_seq, Nat.reduceBNe, Nat.reduceBEq, Nat.reduceAdd, Nat.reduceSub, Nat.reduceMul, Nat.reduceLeDiff, Nat.reduceLT, Nat.reduceEqDiff, Nat.reduceBneDiff]
    refine callA_tt (r1bits_c _ (dig_limbs z.natAbs) (by show nlen _ < _; omega)) ?_
    simp (maxSteps := 1000000) -implicitDefEqProofs only [val_limbs, f1, go_sem, awp_seq, Nat.reduceBNe, Nat.reduceBEq, Nat.reduceAdd, Nat.reduceSub, Nat.reduceMul, Nat.reduceLeDiff, Nat.reduceLT, Nat.reduceEqDiff, Nat.reduceBneDiff]
    refine callA_tt (r1gcd_c _ _ (dig_limbs z.natAbs) hm (by show nlen _ < _; omega) (by omega)) ?_
    simp (maxSteps := 1000000) -implicitDefEqProofs only [val_limbs, natN, go_sem, awp_seq, Nat.reduceBNe, Nat.reduceBEq, Nat.reduceAdd, Nat.reduceSub, Nat.reduceMul, Nat.reduceLeDiff, Nat.reduceLT, Nat.reduceEqDiff, Nat.reduceBneDiff]
    refine callA_tt (r1div_c _ _ (dig_limbs z.natAbs) (dig_limbs _) (by show nlen _ < _; omega) (by show nlen _ < _; omega) (by rw [val_limbs]; exact hg)) ?_
    simp (maxSteps := 1000000) -implicitDefEqProofs only [val_limbs, natN, go_sem, awp_seq, Nat.reduceBNe, Nat.reduceBEq, Nat.reduceAdd, Nat.reduceSub, Nat.reduceMul, Nat.reduceLeDiff, Nat.reduceLT, Nat.reduceEqDiff, Nat.reduceBneDiff]
    refine callA_tt (r1div_c _ _ hm (dig_limbs _) (by omega) (by show nlen _ < _; omega) (by rw [val_limbs]; exact hg)) ?_
    simp (maxSteps := 1000000) -implicitDefEqProofs only [val_limbs, natN, go_sem, awp_seq, Nat.reduceBNe, Nat.reduceBEq, Nat.reduceAdd, Nat.reduceSub, Nat.reduceMul, Nat.reduceLeDiff, Nat.reduceLT, Nat.reduceEqDiff, Nat.reduceBneDiff]
    refine callA_tt (r2make_c (decide (z < 0)) (dN _ (by omega))) ?_
    simp (maxSteps := 1000000) -implicitDefEqProofs only [e1, e2, intN, go_sem, awp_seq, Nat.reduceBNe, Nat.reduceBEq, Nat.reduceAdd, Nat.reduceSub, Nat.reduceMul, Nat.reduceLeDiff, Nat.reduceLT, Nat.reduceEqDiff, Nat.reduceBneDiff]
theorem r3sign_c {a : AV} {z : Int} {d : Nat} (ha : DR a z d) : AT 34 [a] (i64 (sgnI (pz z d))) := by
  have s1 := r3top_c ha
  have n1 := ha.n1
  have n2 := nlen_pz' z d
  obtain ⟨t, l, m, rfl, _⟩ := ha
  refine ACalls.of ⟨3, [], []⟩ (fn := Tryz.f34) Tryz.func34 rfl rfl rfl (by kernel_rfl) (by kernel_rfl) (Nat.le_of_ble_eq_true rfl) ?_
  simp (maxSteps := 1000000) -implicitDefEqProofs only [go_sem, awp_seq, Nat.reduceBNe, Nat.reduceBEq, Nat.reduceAdd, Nat.reduceSub, Nat.reduceMul, Nat.reduceLeDiff, Nat.reduceLT, Nat.reduceEqDiff, Nat.reduceBneDiff]
  refine callA_tt s1 ?_
  simp (maxSteps := 1000000) -implicitDefEqProofs only [intN, go_sem, awp_seq, Nat.reduceBNe, Nat.reduceBEq, Nat.reduceAdd, Nat.reduceSub, Nat.reduceMul, Nat.reduceLeDiff, Nat.reduceLT, Nat.reduceEqDiff, Nat.reduceBneDiff]
  refine callA_tt (r2sign_c (dI (pz z d) (by omega))) ?_
  simp (maxSteps := 1000000) -implicitDefEqProofs only [go_sem, awp_seq, Nat.reduceBNe, Nat.reduceBEq, Nat.reduceAdd, Nat.reduceSub, Nat.reduceMul, Nat.reduceLeDiff, Nat.reduceLT, Nat.reduceEqDiff, Nat.reduceBneDiff]
end Go.Proofs.YtcggnmddcbhchaaGreatDoor
