import Derived.Test.YtnifjdhjimjihaaGreatDoorWa
/- The document's natural numbers (examboardref01), by the engine. -/
set_option linter.unusedSimpArgs false
set_option linter.unusedVariables false
namespace Go.Proofs.YtnifjdhjimjihaaGreatDoor
open Go.RowKit Lim

theorem getD_some {l : List Nat} {i : Nat} (h : i < l.length) : l[i]? = some (l.getD i 0) := by rw [List.getElem?_eq_getElem h, List.getD_eq_getElem?_getD, List.getElem?_eq_getElem h]; rfl
theorem r1limb_c (l : List Nat) (hd : Dig l) (i : Nat) : AT 121 [.nat l, i64 (i : Nat)] (u64 (l.getD i 0 : Nat)) := by
  refine ACalls.of 5 (fn := Tryz.f121) Tryz.func121 rfl rfl rfl (by kernel_rfl) (by kernel_rfl) (Nat.le_of_ble_eq_true rfl) ?_
  by_cases h : i < l.length
  · have e1 : decide ((i : Int) < (l.length : Nat)) = true := by simp; omega
    have hx := dig_getD hd i
    have w1 : IntKind.u64.wrap ((l.getD i 0 : Nat) : Int) = ((l.getD i 0 : Nat) : Int) := IntWalk.u64_in _ (by omega)
    simp -implicitDefEqProofs only [e1, Int.toNat_natCast, getD_some h, w1, Int.natCast_nonneg, go_sem, awp_seq, Nat.reduceBNe, Nat.reduceBEq, Nat.reduceAdd, Nat.reduceSub, Nat.reduceMul, Nat.reduceLeDiff, Nat.reduceLT, Nat.reduceEqDiff, Nat.reduceBneDiff]
  · have e1 : decide ((i : Int) < (l.length : Nat)) = false := by simp; omega
    have e2 : l.getD i 0 = 0 := by simp [List.getElem?_eq_none (show l.length ≤ i by omega)]
    simp -implicitDefEqProofs only [e1, e2, go_sem, awp_seq, Nat.reduceBNe, Nat.reduceBEq, Nat.reduceAdd, Nat.reduceSub, Nat.reduceMul, Nat.reduceLeDiff, Nat.reduceLT, Nat.reduceEqDiff, Nat.reduceBneDiff]
    rfl
theorem norm_end {l : List Nat} (hd : Dig l) {k : Nat} (hk : k ≤ l.length) (hz : val (l.drop k) = 0) (hn : k = 0 ∨ l.getD (k - 1) 0 ≠ 0) : limbs (val l) = l.take k :=
  limbs_take hd hk hz fun h0 => by
    rcases hn with h | h
    · omega
    · rw [List.getD_eq_getElem?_getD, List.getElem?_eq_getElem (show k - 1 < l.length by omega)] at h
      simpa using h
theorem norm_fin {l : List Nat} (hd : Dig l) {k : Nat} (hk : k ≤ l.length) (hz : val (l.drop k) = 0) (hn : k = 0 ∨ l.getD (k - 1) 0 ≠ 0) : k ≤ k + ((List.replicate k 0).drop k).length ∧ AV.nat ((l.take k ++ (List.replicate k 0).drop k).take k) = natN (val l) := by
  refine ⟨by omega, ?_⟩
  rw [List.drop_eq_nil_of_le (by simp), List.append_nil, List.take_take, Nat.min_self, ← norm_end hd hk hz hn]
set_option maxHeartbeats 1000000 in
theorem r1norm_c (l : List Nat) (hd : Dig l) (hl : l.length < 1099511627776) : AT 79 [.nat l] (natN (val l)) := by
  refine ACalls.of 5 (fn := Tryz.f79) Tryz.func79 rfl rfl rfl (by kernel_rfl) (by kernel_rfl) (Nat.le_of_ble_eq_true rfl) ?_
  simp -implicitDefEqProofs only [go_sem, awp_seq, Nat.reduceBNe, Nat.reduceBEq, Nat.reduceAdd, Nat.reduceSub, Nat.reduceMul, Nat.reduceLeDiff, Nat.reduceLT, Nat.reduceEqDiff, Nat.reduceBneDiff]
  refine loop_mk (α := {k : Nat // k ≤ l.length ∧ val (l.drop k) = 0}) (fun k => [(0, some (.av (.nat l))), (3, some (.av (i64 (k.1 : Nat))))]) (fun _ => []) (fun _ => []) (fun k => k.1) ⟨l.length, Nat.le_refl _, by simp [val]⟩ ?_ ?_
  · simp -implicitDefEqProofs only [go_sem, awp_seq, Nat.reduceBNe, Nat.reduceBEq, Nat.reduceAdd, Nat.reduceSub, Nat.reduceMul, Nat.reduceLeDiff, Nat.reduceLT, Nat.reduceEqDiff, Nat.reduceBneDiff]
  · rintro ⟨k, hk, hz⟩
    have w1 : 0 < k → IntKind.i64.wrap ((k : Int) - 1) = ((k - 1 : Nat) : Int) := fun h => by rw [IntWalk.i64_in _ (by omega)]; omega
    have m1 : (k : Int) * ((4 : Nat) : Int) ≤ 140737488355328 := by omega
    have m2 : (k : Int) ≤ 9223372036854775807 := by omega
    have hmin : min k l.length = k := Nat.min_eq_left hk
    by_cases h0 : 0 < k
    · have e1 : decide ((0 : Int) < (k : Nat)) = true := by simp; omega
      by_cases hx : l.getD (k - 1) 0 = 0
      · have e2 : (((l.getD (k - 1) 0 : Nat) : Int) == 0) = true := by rw [hx]; rfl
        simp -implicitDefEqProofs only [e1, w1 h0, e2, Int.toNat_natCast, getD_some (show k - 1 < l.length by omega), Int.natCast_nonneg, go_sem, awp_seq, Nat.reduceBNe, Nat.reduceBEq, Nat.reduceAdd, Nat.reduceSub, Nat.reduceMul, Nat.reduceLeDiff, Nat.reduceLT, Nat.reduceEqDiff, Nat.reduceBneDiff]
        refine roundK_mk ⟨k - 1, by omega, ?_⟩ ?_ (by show k - 1 < k; omega)
        · rw [val_drop_cons l (k - 1) (by omega), show k - 1 + 1 = k by omega, hz]
          rw [List.getD_eq_getElem?_getD, List.getElem?_eq_getElem (show k - 1 < l.length by omega)] at hx
          simpa using hx
        · simp -implicitDefEqProofs only [go_sem, awp_seq, Nat.reduceBNe, Nat.reduceBEq, Nat.reduceAdd, Nat.reduceSub, Nat.reduceMul, Nat.reduceLeDiff, Nat.reduceLT, Nat.reduceEqDiff, Nat.reduceBneDiff]
      · have e2 : (((l.getD (k - 1) 0 : Nat) : Int) == 0) = false := by rw [beq_eq_false_iff_ne]; omega
        simp -implicitDefEqProofs only [e1, w1 h0, e2, Int.toNat_natCast, getD_some (show k - 1 < l.length by omega), Int.natCast_nonneg, Int.le_refl, m1, m2, List.length_take, hmin, go_sem, awp_seq, Nat.reduceBNe, Nat.reduceBEq, Nat.reduceAdd, Nat.reduceSub, Nat.reduceMul, Nat.reduceLeDiff, Nat.reduceLT, Nat.reduceEqDiff, Nat.reduceBneDiff]
        exact norm_fin hd hk hz (.inr hx)
    · have e1 : decide ((0 : Int) < (k : Nat)) = false := by simp; omega
      simp -implicitDefEqProofs only [e1, Int.toNat_natCast, Int.natCast_nonneg, Int.le_refl, m1, m2, List.length_take, hmin, go_sem, awp_seq, Nat.reduceBNe, Nat.reduceBEq, Nat.reduceAdd, Nat.reduceSub, Nat.reduceMul, Nat.reduceLeDiff, Nat.reduceLT, Nat.reduceEqDiff, Nat.reduceBneDiff]
      exact norm_fin hd hk hz (.inl (by omega))
/-- A call that is handed a row; the result may hold it. -/
theorem callA_rowTT {C : Ctx} {ops : Array Oper} {os : List Oper} {l : LT} {m : LM} {q : LQ} {K : AS → Prop} {t : Nat} {f : FuncId} {args : List AV} {us : List Nat} {r : AV} (h : ACalls C.t f args r) (hk1 : arun C.t false ops os ⟨ofT (setT (frzL q us l) t (.av r)), ofL m, ofL (delsL us q)⟩ K) (hk2 : arun C.t false ops os ⟨ofT (setT l t (.av r)), ofL m, ofL q⟩ K) : callA C.t false ops os l m q (some t) f args us K := by
  cases hf : r.flat with
  | true => exact callA_flatTT h hf hk2
  | false => exact callA_frzTT h hf hk1
theorem set_fill (s : List Nat) (N x : Nat) (h : s.length < N) : (s ++ List.replicate (N - s.length) 0).set s.length x = s ++ [x] ++ List.replicate (N - (s.length + 1)) 0 := by
  rw [List.set_append_right _ _ (Nat.le_refl _), Nat.sub_self, show N - s.length = (N - (s.length + 1)) + 1 by omega, List.replicate_succ]
  simp
theorem fill_len (s : List Nat) (N : Nat) (h : s.length ≤ N) : s.length + (N - s.length) = N := by omega
theorem two32 : (2 : Int) ^ min (Int.toNat 32) 64 = 4294967296 := rfl
theorem shr32 (n : Nat) : (n : Int).fdiv 4294967296 = ((n / 4294967296 : Nat) : Int) := by
  rw [Int.fdiv_eq_ediv_of_nonneg _ (by omega)]; omega
theorem w32 (n : Nat) : IntKind.u32.wrap (n : Int) = ((n % 4294967296 : Nat) : Int) := by rw [IntKind.wrap_u32]; omega
theorem w64 {n : Nat} (h : n < 18446744073709551616) : IntKind.u64.wrap (n : Int) = (n : Int) := IntWalk.u64_in _ (by omega)
theorem w63 {n : Nat} (h : n < 9223372036854775808) : IntKind.i64.wrap (n : Int) = (n : Int) := IntWalk.i64_in _ (by omega)
theorem le32 : (0 : Int) ≤ 32 := by omega
theorem r1of_c (n : Nat) (hn : n < 18446744073709551616) : AT 116 [u64 (n : Nat)] (natN n) := by
  have m1 : ((n % 4294967296 : Nat) : Int) < 4294967296 := by omega
  have m2 : ((n / 4294967296 % 4294967296 : Nat) : Int) < 4294967296 := by omega
  have hv : val [n % 4294967296, n / 4294967296 % 4294967296] = n := by simp only [val]; omega
  refine ACalls.of 3 (fn := Tryz.f116) Tryz.func116 rfl rfl rfl (by kernel_rfl) (by kernel_rfl) (Nat.le_of_ble_eq_true rfl) ?_
  simp -implicitDefEqProofs only [two32, shr32, w32, le32, Int.toNat_natCast, Int.natCast_nonneg, m1, m2, go_sem, awp_seq, Nat.reduceBNe, Nat.reduceBEq, Nat.reduceAdd, Nat.reduceSub, Nat.reduceMul, Nat.reduceLeDiff, Nat.reduceLT, Nat.reduceEqDiff, Nat.reduceBneDiff]
  refine callA_tt (r1norm_c _ (dig_cons.2 ⟨by omega, dig_cons.2 ⟨by omega, dig_nil⟩⟩) (by simp)) ?_
  simp -implicitDefEqProofs only [hv, go_sem, awp_seq, Nat.reduceBNe, Nat.reduceBEq, Nat.reduceAdd, Nat.reduceSub, Nat.reduceMul, Nat.reduceLeDiff, Nat.reduceLT, Nat.reduceEqDiff, Nat.reduceBneDiff]
theorem take_getD (l : List Nat) (k : Nat) : val (l.take (k + 1)) = val (l.take k) + pw k * l.getD k 0 := val_take_succ' l k
theorem add_next {a b s : List Nat} {c x y t : Nat} (hx : a.getD s.length 0 = x) (hy : b.getD s.length 0 = y) (ht : x + y + c = t) (h : val s + pw s.length * c = val (a.take s.length) + val (b.take s.length)) :
    val (s ++ [t % 4294967296]) + pw (s.length + 1) * (t / 4294967296) = val (a.take (s.length + 1)) + val (b.take (s.length + 1)) := by
  rw [take_getD, take_getD, hx, hy, val_snoc, pw_succ]
  have : t = t % 4294967296 + 4294967296 * (t / 4294967296) := by omega
  generalize t % 4294967296 = u at *
  generalize t / 4294967296 = v at *
  subst this
  grind
theorem add_end {a b s : List Nat} {c : Nat} (ha : Dig a) (hb : Dig b) (h : val s + pw s.length * c = val a + val b) (hN : max a.length b.length + 1 = s.length) : val s = val a + val b := by
  have h1 := val_lt ha
  have h2 := val_lt hb
  have h3 : pw a.length ≤ pw (max a.length b.length) := pw_mono (by omega)
  have h4 : pw b.length ≤ pw (max a.length b.length) := pw_mono (by omega)
  rw [← hN, pw_succ] at h
  cases c with
  | zero => simpa using h
  | succ c =>
    have : 4294967296 * pw (max a.length b.length) * 1 ≤ 4294967296 * pw (max a.length b.length) * (c + 1) := Nat.mul_le_mul_left _ (by omega)
    omega
set_option maxHeartbeats 1000000 in
theorem r1add_c (a b : List Nat) (ha : Dig a) (hb : Dig b) (hla : a.length < 1000000000000) (hlb : b.length < 1000000000000) : AT 86 [.nat a, .nat b] (natN (val a + val b)) := by
  have m0 : (if ((b.length : Nat) : Int) > (a.length : Nat) then ((b.length : Nat) : Int) else (a.length : Nat)) = ((max a.length b.length : Nat) : Int) := by split <;> omega
  have w0 : IntKind.i64.wrap (((max a.length b.length : Nat) : Int) + 1) = ((max a.length b.length + 1 : Nat) : Int) := by rw [IntWalk.i64_in _ (by omega)]; omega
  generalize hN : max a.length b.length + 1 = N at *
  have m1 : (N : Int) * ((4 : Nat) : Int) ≤ 140737488355328 := by omega
  have m2 : (N : Int) ≤ 9223372036854775807 := by omega
  refine ACalls.of 9 (fn := Tryz.f86) Tryz.func86 rfl rfl rfl (by kernel_rfl) (by kernel_rfl) (Nat.le_of_ble_eq_true rfl) ?_
  simp -implicitDefEqProofs only [m0, w0, Int.toNat_natCast, Int.natCast_nonneg, Int.le_refl, m1, m2, go_sem, awp_seq, Nat.reduceBNe, Nat.reduceBEq, Nat.reduceAdd, Nat.reduceSub, Nat.reduceMul, Nat.reduceLeDiff, Nat.reduceLT, Nat.reduceEqDiff, Nat.reduceBneDiff]
  refine loop_mk (α := {x : List Nat × Nat // x.1.length ≤ N ∧ Dig x.1 ∧ x.2 ≤ 1 ∧ val x.1 + pw x.1.length * x.2 = val (a.take x.1.length) + val (b.take x.1.length)}) (fun x => [(0, some (.av (.nat a))), (1, some (.av (.nat b))), (5, some (.osl 15 1 0 N)), (6, some (.av (u64 (x.1.2 : Nat)))), (7, some (.av (i64 (x.1.1.length : Nat))))]) (fun _ => []) (fun x => [(15, .limb 55 (x.1.1 ++ List.replicate (N - x.1.1.length) 0))]) (fun x => N - x.1.1.length) ⟨([], 0), by simp, dig_nil, by simp, by simp [val]⟩ ?_ ?_
  · simp -implicitDefEqProofs only [go_sem, awp_seq, Nat.reduceBNe, Nat.reduceBEq, Nat.reduceAdd, Nat.reduceSub, Nat.reduceMul, Nat.reduceLeDiff, Nat.reduceLT, Nat.reduceEqDiff, Nat.reduceBneDiff]
    exact ⟨rfl, rfl, rfl⟩
  · rintro ⟨⟨s, c⟩, hs, hds, hc, hv⟩
    dsimp only at hs hds hc hv
    by_cases hlt : s.length < N
    · have e1 : decide ((s.length : Int) < (N : Nat)) = true := by simp; omega
      simp -implicitDefEqProofs only [e1, go_sem, awp_seq, Nat.reduceBNe, Nat.reduceBEq, Nat.reduceAdd, Nat.reduceSub, Nat.reduceMul, Nat.reduceLeDiff, Nat.reduceLT, Nat.reduceEqDiff, Nat.reduceBneDiff]
      refine callA_tt (r1limb_c a ha s.length) ?_
      simp -implicitDefEqProofs only [go_sem, awp_seq, Nat.reduceBNe, Nat.reduceBEq, Nat.reduceAdd, Nat.reduceSub, Nat.reduceMul, Nat.reduceLeDiff, Nat.reduceLT, Nat.reduceEqDiff, Nat.reduceBneDiff]
      refine callA_tt (r1limb_c b hb s.length) ?_
      have dx := dig_getD ha s.length
      have dy := dig_getD hb s.length
      generalize hx : a.getD s.length 0 = x at *
      generalize hy : b.getD s.length 0 = y at *
      have n1 : IntKind.u64.wrap ((x : Int) + y) = ((x + y : Nat) : Int) := by rw [IntWalk.u64_in _ (by omega)]; omega
      have n2 : IntKind.u64.wrap (((x + y : Nat) : Int) + c) = ((x + y + c : Nat) : Int) := by rw [IntWalk.u64_in _ (by omega)]; omega
      have n3 : IntKind.i64.wrap ((s.length : Int) + 1) = ((s.length + 1 : Nat) : Int) := by rw [IntWalk.i64_in _ (by omega)]; omega
      generalize ht : x + y + c = t at *
      have m3 : ((t % 4294967296 : Nat) : Int) < 4294967296 := by omega
      simp -implicitDefEqProofs only [n1, n2, n3, two32, shr32, w32, le32, Int.toNat_natCast, Int.natCast_nonneg, hlt, m3, fill_len s N hs, set_fill s N _ hlt, go_sem, awp_seq, Nat.reduceBNe, Nat.reduceBEq, Nat.reduceAdd, Nat.reduceSub, Nat.reduceMul, Nat.reduceLeDiff, Nat.reduceLT, Nat.reduceEqDiff, Nat.reduceBneDiff]
      refine roundK_mk ⟨(s ++ [t % 4294967296], t / 4294967296), ?_⟩ ?_ ?_
      · simp only [List.length_append, List.length_cons, List.length_nil, Nat.zero_add]
        exact ⟨by omega, dig_snoc hds (by omega), by omega, add_next hx hy ht hv⟩
      · simp -implicitDefEqProofs only [go_sem, awp_seq, Nat.reduceBNe, Nat.reduceBEq, Nat.reduceAdd, Nat.reduceSub, Nat.reduceMul, Nat.reduceLeDiff, Nat.reduceLT, Nat.reduceEqDiff, Nat.reduceBneDiff]
      · simp; omega
    · have e1 : decide ((s.length : Int) < (N : Nat)) = false := by simp; omega
      obtain rfl : s.length = N := by omega
      have ta : a.take s.length = a := List.take_of_length_le (by omega)
      have tb : b.take s.length = b := List.take_of_length_le (by omega)
      rw [ta, tb] at hv
      have hend : val s = val a + val b := add_end ha hb hv hN
      simp -implicitDefEqProofs only [e1, fill_len s s.length hs, Nat.sub_self, List.replicate_zero, List.append_nil, List.take_length, go_sem, awp_seq, Nat.reduceBNe, Nat.reduceBEq, Nat.reduceAdd, Nat.reduceSub, Nat.reduceMul, Nat.reduceLeDiff, Nat.reduceLT, Nat.reduceEqDiff, Nat.reduceBneDiff]
      refine callA_rowTT (r1norm_c s hds (by omega)) ?_ ?_ <;> simp -implicitDefEqProofs only [hend, Nat.sub_self, List.replicate_zero, List.append_nil, List.take_length, go_sem, awp_seq, Nat.reduceBNe, Nat.reduceBEq, Nat.reduceAdd, Nat.reduceSub, Nat.reduceMul, Nat.reduceLeDiff, Nat.reduceLT, Nat.reduceEqDiff, Nat.reduceBneDiff]
theorem val_take_cmp {a b : List Nat} (ha : Dig a) (hb : Dig b) (k : Nat) (h : val (a.take k) < val (b.take k)) (hk : ∀ j, k ≤ j → a.getD j 0 = b.getD j 0) : val a < val b := by
  have key : ∀ n, val (a.take (k + n)) < val (b.take (k + n)) := fun n => by
    induction n with
    | zero => exact h
    | succ n ih => rw [← Nat.add_assoc, take_getD, take_getD, hk (k + n) (by omega)]; omega
  have := key (a.length + b.length)
  rwa [List.take_of_length_le (by omega), List.take_of_length_le (by omega)] at this
theorem take_lt {a : List Nat} (ha : Dig a) (k : Nat) : val (a.take k) < pw k := by
  have h := val_lt (dig_take ha k)
  exact Nat.lt_of_lt_of_le h (pw_mono (by simp; omega))
theorem cmp_lt {a b : List Nat} (ha : Dig a) (hb : Dig b) (k : Nat) (h : a.getD k 0 < b.getD k 0) (hk : ∀ j, k + 1 ≤ j → a.getD j 0 = b.getD j 0) : val a < val b := by
  refine val_take_cmp ha hb (k + 1) ?_ hk
  rw [take_getD, take_getD]
  have h1 := take_lt ha k
  have h2 : pw k * (a.getD k 0 + 1) ≤ pw k * b.getD k 0 := Nat.mul_le_mul_left _ h
  rw [Nat.mul_add] at h2
  omega
theorem cmp_eq {a b : List Nat} (hk : ∀ j, a.getD j 0 = b.getD j 0) : val a = val b := by
  have key : ∀ n, val (a.take n) = val (b.take n) := fun n => by
    induction n with
    | zero => simp
    | succ n ih => rw [take_getD, take_getD, hk n, ih]
  have := key (a.length + b.length)
  rwa [List.take_of_length_le (by omega), List.take_of_length_le (by omega)] at this
set_option maxHeartbeats 1000000 in
theorem r1cmp_c (a b : List Nat) (ha : Dig a) (hb : Dig b) (hla : a.length < 1000000000000) (hlb : b.length < 1000000000000) : AT 122 [.nat a, .nat b] (i64 (cmpI (val a) (val b))) := by
  have m0 : (if ((b.length : Nat) : Int) > (a.length : Nat) then ((b.length : Nat) : Int) else (a.length : Nat)) = ((max a.length b.length : Nat) : Int) := by split <;> omega
  generalize hN : max a.length b.length = N at *
  have w0 : ∀ k : Nat, k ≤ N → IntKind.i64.wrap ((k : Int) - 1) = ((k : Int) - 1) := fun k hk => IntWalk.i64_in _ (by omega)
  refine ACalls.of 8 (fn := Tryz.f122) Tryz.func122 rfl rfl rfl (by kernel_rfl) (by kernel_rfl) (Nat.le_of_ble_eq_true rfl) ?_
  simp -implicitDefEqProofs only [m0, w0 N (Nat.le_refl _), go_sem, awp_seq, Nat.reduceBNe, Nat.reduceBEq, Nat.reduceAdd, Nat.reduceSub, Nat.reduceMul, Nat.reduceLeDiff, Nat.reduceLT, Nat.reduceEqDiff, Nat.reduceBneDiff]
  refine loop_mk (α := {k : Nat // k ≤ N ∧ ∀ j, k ≤ j → a.getD j 0 = b.getD j 0}) (fun k => [(0, some (.av (.nat a))), (1, some (.av (.nat b))), (5, some (.av (i64 ((k.1 : Int) - 1))))]) (fun _ => []) (fun _ => []) (fun k => k.1) ⟨N, Nat.le_refl _, fun j hj => by simp [List.getElem?_eq_none (show a.length ≤ j by omega), List.getElem?_eq_none (show b.length ≤ j by omega)]⟩ ?_ ?_
  · simp -implicitDefEqProofs only [go_sem, awp_seq, Nat.reduceBNe, Nat.reduceBEq, Nat.reduceAdd, Nat.reduceSub, Nat.reduceMul, Nat.reduceLeDiff, Nat.reduceLT, Nat.reduceEqDiff, Nat.reduceBneDiff]
  · rintro ⟨k, hk, hj⟩
    cases k with
    | zero =>
      have e0 : cmpI (val a) (val b) = 0 := by rw [cmp_eq fun j => hj j (Nat.zero_le _)]; exact cmpI_self _
      have e1 : decide ((0 : Int) ≤ ((0 : Nat) : Int) - 1) = false := by simp
      simp -implicitDefEqProofs only [e0, e1, go_sem, awp_seq, Nat.reduceBNe, Nat.reduceBEq, Nat.reduceAdd, Nat.reduceSub, Nat.reduceMul, Nat.reduceLeDiff, Nat.reduceLT, Nat.reduceEqDiff, Nat.reduceBneDiff]
    | succ k =>
      have e1 : decide ((0 : Int) ≤ (k : Nat)) = true := by simp
      have e2 : ((k + 1 : Nat) : Int) - 1 = (k : Int) := by omega
      simp -implicitDefEqProofs only [e1, e2, w0 k (by omega), go_sem, awp_seq, Nat.reduceBNe, Nat.reduceBEq, Nat.reduceAdd, Nat.reduceSub, Nat.reduceMul, Nat.reduceLeDiff, Nat.reduceLT, Nat.reduceEqDiff, Nat.reduceBneDiff]
      refine callA_tt (r1limb_c a ha k) ?_
      simp -implicitDefEqProofs only [go_sem, awp_seq, Nat.reduceBNe, Nat.reduceBEq, Nat.reduceAdd, Nat.reduceSub, Nat.reduceMul, Nat.reduceLeDiff, Nat.reduceLT, Nat.reduceEqDiff, Nat.reduceBneDiff]
      refine callA_tt (r1limb_c b hb k) ?_
      rcases Nat.lt_trichotomy (a.getD k 0) (b.getD k 0) with h | h | h
      · have d1 : decide (((a.getD k 0 : Nat) : Int) < (b.getD k 0 : Nat)) = true := by rw [decide_eq_true_eq]; omega
        have e3 : cmpI (val a) (val b) = -1 := cmpI_lt (cmp_lt ha hb k h hj)
        simp -implicitDefEqProofs only [d1, e3, go_sem, awp_seq, Nat.reduceBNe, Nat.reduceBEq, Nat.reduceAdd, Nat.reduceSub, Nat.reduceMul, Nat.reduceLeDiff, Nat.reduceLT, Nat.reduceEqDiff, Nat.reduceBneDiff]
      · have d1 : decide (((a.getD k 0 : Nat) : Int) < (b.getD k 0 : Nat)) = false := by rw [decide_eq_false_iff_not]; omega
        have d2 : decide (((b.getD k 0 : Nat) : Int) < (a.getD k 0 : Nat)) = false := by rw [decide_eq_false_iff_not]; omega
        simp -implicitDefEqProofs only [d1, d2, w0 k (by omega), go_sem, awp_seq, Nat.reduceBNe, Nat.reduceBEq, Nat.reduceAdd, Nat.reduceSub, Nat.reduceMul, Nat.reduceLeDiff, Nat.reduceLT, Nat.reduceEqDiff, Nat.reduceBneDiff]
        refine roundK_mk ⟨k, by omega, fun j hjj => ?_⟩ ?_ (by show k < k + 1; omega)
        · rcases Nat.lt_or_eq_of_le hjj with h1 | h1
          · exact hj j h1
          · subst h1; exact h
        · simp -implicitDefEqProofs only [go_sem, awp_seq, Nat.reduceBNe, Nat.reduceBEq, Nat.reduceAdd, Nat.reduceSub, Nat.reduceMul, Nat.reduceLeDiff, Nat.reduceLT, Nat.reduceEqDiff, Nat.reduceBneDiff]
      · have d1 : decide (((a.getD k 0 : Nat) : Int) < (b.getD k 0 : Nat)) = false := by rw [decide_eq_false_iff_not]; omega
        have d2 : decide (((b.getD k 0 : Nat) : Int) < (a.getD k 0 : Nat)) = true := by rw [decide_eq_true_eq]; omega
        have e3 : cmpI (val a) (val b) = 1 := cmpI_gt (cmp_lt hb ha k h (fun j hjj => (hj j hjj).symm))
        simp -implicitDefEqProofs only [d1, d2, e3, go_sem, awp_seq, Nat.reduceBNe, Nat.reduceBEq, Nat.reduceAdd, Nat.reduceSub, Nat.reduceMul, Nat.reduceLeDiff, Nat.reduceLT, Nat.reduceEqDiff, Nat.reduceBneDiff]
theorem sub_next {a b s : List Nat} {c x y : Nat} (hx : a.getD s.length 0 = x) (hy : b.getD s.length 0 = y) (h : val s + val (b.take s.length) = val (a.take s.length) + pw s.length * c) (u c' : Nat) (hu : u + (y + c) = x + 4294967296 * c') :
    val (s ++ [u]) + val (b.take (s.length + 1)) = val (a.take (s.length + 1)) + pw (s.length + 1) * c' := by
  rw [take_getD, take_getD, hx, hy, val_snoc, pw_succ]
  have e : pw s.length * u + (pw s.length * y + pw s.length * c) = pw s.length * x + 4294967296 * pw s.length * c' := by
    rw [← Nat.mul_add, ← Nat.mul_add, hu, Nat.mul_add]; grind
  omega
theorem sub_end {a b s : List Nat} {c : Nat} (ha : Dig a) (hb : Dig b) (hs : Dig s) (hle : val b ≤ val a) (hl : s.length = a.length) (h : val s + val (b.take a.length) = val a + pw a.length * c) : val s = val a - val b := by
  have h1 := val_lt hs
  rw [hl] at h1
  have h2 : val (b.take a.length) ≤ val b := by
    by_cases hk : a.length ≤ b.length
    · have := val_take_drop b a.length hk; omega
    · rw [List.take_of_length_le (by omega)]; omega
  cases c with
  | zero =>
    have h3 : val (b.take a.length) = val b := by
      by_cases hk : a.length ≤ b.length
      · have h4 := val_take_drop b a.length hk
        by_cases h5 : val (b.drop a.length) = 0
        · rw [h4, h5]; omega
        · have h6 := val_lt ha
          have h7 : pw a.length * 1 ≤ pw a.length * val (b.drop a.length) := Nat.mul_le_mul_left _ (by omega)
          omega
      · rw [List.take_of_length_le (by omega)]
    omega
  | succ c =>
    have : pw a.length * 1 ≤ pw a.length * (c + 1) := Nat.mul_le_mul_left _ (by omega)
    omega
set_option maxHeartbeats 1000000 in
theorem r1sub_no (a b : List Nat) (ha : Dig a) (hb : Dig b) (hla : a.length < 1000000000000) (hlb : b.length < 1000000000000) (h : val a < val b) : AT 87 [.nat a, .nat b] (.tup [.nat [], boo false]) := by
  have e0 := cmpI_lt h
  have e1 : decide ((-1 : Int) < 0) = true := rfl
  refine ACalls.of 11 (fn := Tryz.f87) Tryz.func87 rfl rfl rfl (by kernel_rfl) (by kernel_rfl) (Nat.le_of_ble_eq_true rfl) ?_
  simp -implicitDefEqProofs only [go_sem, awp_seq, Nat.reduceBNe, Nat.reduceBEq, Nat.reduceAdd, Nat.reduceSub, Nat.reduceMul, Nat.reduceLeDiff, Nat.reduceLT, Nat.reduceEqDiff, Nat.reduceBneDiff]
  refine callA_tt (r1cmp_c a b ha hb hla hlb) ?_
  simp -implicitDefEqProofs only [e0, e1, go_sem, awp_seq, Nat.reduceBNe, Nat.reduceBEq, Nat.reduceAdd, Nat.reduceSub, Nat.reduceMul, Nat.reduceLeDiff, Nat.reduceLT, Nat.reduceEqDiff, Nat.reduceBneDiff]
set_option maxHeartbeats 2000000 in
theorem r1sub_yes (a b : List Nat) (ha : Dig a) (hb : Dig b) (hla : a.length < 1000000000000) (hlb : b.length < 1000000000000) (h : val b ≤ val a) : AT 87 [.nat a, .nat b] (.tup [natN (val a - val b), boo true]) := by
  have e0 : decide (cmpI (val a) (val b) < 0) = false := by
    rcases Nat.lt_or_eq_of_le h with h | h
    · rw [cmpI_gt h]; rfl
    · rw [h, cmpI_eq]; rfl
  have m1 : (a.length : Int) * ((4 : Nat) : Int) ≤ 140737488355328 := by omega
  have m2 : (a.length : Int) ≤ 9223372036854775807 := by omega
  refine ACalls.of 11 (fn := Tryz.f87) Tryz.func87 rfl rfl rfl (by kernel_rfl) (by kernel_rfl) (Nat.le_of_ble_eq_true rfl) ?_
  simp -implicitDefEqProofs only [go_sem, awp_seq, Nat.reduceBNe, Nat.reduceBEq, Nat.reduceAdd, Nat.reduceSub, Nat.reduceMul, Nat.reduceLeDiff, Nat.reduceLT, Nat.reduceEqDiff, Nat.reduceBneDiff]
  refine callA_tt (r1cmp_c a b ha hb hla hlb) ?_
  simp -implicitDefEqProofs only [e0, Int.toNat_natCast, Int.natCast_nonneg, Int.le_refl, m1, m2, go_sem, awp_seq, Nat.reduceBNe, Nat.reduceBEq, Nat.reduceAdd, Nat.reduceSub, Nat.reduceMul, Nat.reduceLeDiff, Nat.reduceLT, Nat.reduceEqDiff, Nat.reduceBneDiff]
  refine loop_mk (α := {x : List Nat × Nat // x.1.length ≤ a.length ∧ Dig x.1 ∧ x.2 ≤ 1 ∧ val x.1 + val (b.take x.1.length) = val (a.take x.1.length) + pw x.1.length * x.2}) (fun x => [(0, some (.av (.nat a))), (1, some (.av (.nat b))), (6, some (.osl 17 1 0 a.length)), (7, some (.av (u64 (x.1.2 : Nat)))), (8, some (.av (i64 (x.1.1.length : Nat))))]) (fun _ => []) (fun x => [(17, .limb 55 (x.1.1 ++ List.replicate (a.length - x.1.1.length) 0))]) (fun x => a.length - x.1.1.length) ⟨([], 0), by simp, dig_nil, by simp, by simp [val]⟩ ?_ ?_
  · simp -implicitDefEqProofs only [go_sem, awp_seq, Nat.reduceBNe, Nat.reduceBEq, Nat.reduceAdd, Nat.reduceSub, Nat.reduceMul, Nat.reduceLeDiff, Nat.reduceLT, Nat.reduceEqDiff, Nat.reduceBneDiff]
    exact ⟨rfl, rfl, rfl⟩
  · rintro ⟨⟨s, c⟩, hs, hds, hc, hv⟩
    dsimp only at hs hds hc hv
    by_cases hlt : s.length < a.length
    · have f1 : decide ((s.length : Int) < (a.length : Nat)) = true := by simp; omega
      simp -implicitDefEqProofs only [f1, go_sem, awp_seq, Nat.reduceBNe, Nat.reduceBEq, Nat.reduceAdd, Nat.reduceSub, Nat.reduceMul, Nat.reduceLeDiff, Nat.reduceLT, Nat.reduceEqDiff, Nat.reduceBneDiff]
      refine callA_tt (r1limb_c a ha s.length) ?_
      simp -implicitDefEqProofs only [go_sem, awp_seq, Nat.reduceBNe, Nat.reduceBEq, Nat.reduceAdd, Nat.reduceSub, Nat.reduceMul, Nat.reduceLeDiff, Nat.reduceLT, Nat.reduceEqDiff, Nat.reduceBneDiff]
      refine callA_tt (r1limb_c b hb s.length) ?_
      have dx := dig_getD ha s.length
      have dy := dig_getD hb s.length
      generalize hx : a.getD s.length 0 = x at *
      generalize hy : b.getD s.length 0 = y at *
      have n1 : IntKind.u64.wrap ((y : Int) + c) = ((y + c : Nat) : Int) := by rw [IntWalk.u64_in _ (by omega)]; omega
      have n3 : IntKind.i64.wrap ((s.length : Int) + 1) = ((s.length + 1 : Nat) : Int) := by rw [IntWalk.i64_in _ (by omega)]; omega
      by_cases hb2 : x < y + c
      · have d1 : decide ((x : Int) < ((y + c : Nat) : Int)) = true := by rw [decide_eq_true_eq]; omega
        have n2 : IntKind.u64.wrap ((x : Int) + 4294967296) = ((x + 4294967296 : Nat) : Int) := by rw [IntWalk.u64_in _ (by omega)]; omega
        have n4 : IntKind.u64.wrap (((x + 4294967296 : Nat) : Int) - ((y + c : Nat) : Int)) = ((x + 4294967296 - (y + c) : Nat) : Int) := by rw [IntWalk.u64_in _ (by omega)]; omega
        have n5 : IntKind.u32.wrap ((x + 4294967296 - (y + c) : Nat) : Int) = ((x + 4294967296 - (y + c) : Nat) : Int) := IntWalk.u32_in _ (by omega)
        have m3 : ((x + 4294967296 - (y + c) : Nat) : Int) < 4294967296 := by omega
        simp -implicitDefEqProofs only [n1, n2, n3, n4, n5, d1, Int.toNat_natCast, Int.natCast_nonneg, hlt, m3, fill_len s a.length hs, set_fill s a.length _ hlt, go_sem, awp_seq, Nat.reduceBNe, Nat.reduceBEq, Nat.reduceAdd, Nat.reduceSub, Nat.reduceMul, Nat.reduceLeDiff, Nat.reduceLT, Nat.reduceEqDiff, Nat.reduceBneDiff]
        refine roundK_mk ⟨(s ++ [x + 4294967296 - (y + c)], 1), ?_⟩ ?_ ?_
        · simp only [List.length_append, List.length_cons, List.length_nil, Nat.zero_add]
          exact ⟨by omega, dig_snoc hds (by omega), by omega, sub_next hx hy hv _ _ (by omega)⟩
        · simp -implicitDefEqProofs only [go_sem, awp_seq, Nat.reduceBNe, Nat.reduceBEq, Nat.reduceAdd, Nat.reduceSub, Nat.reduceMul, Nat.reduceLeDiff, Nat.reduceLT, Nat.reduceEqDiff, Nat.reduceBneDiff]
          exact rfl
        · simp; omega
      · have d1 : decide ((x : Int) < ((y + c : Nat) : Int)) = false := by rw [decide_eq_false_iff_not]; omega
        have n4 : IntKind.u64.wrap ((x : Int) - ((y + c : Nat) : Int)) = ((x - (y + c) : Nat) : Int) := by rw [IntWalk.u64_in _ (by omega)]; omega
        have n5 : IntKind.u32.wrap ((x - (y + c) : Nat) : Int) = ((x - (y + c) : Nat) : Int) := IntWalk.u32_in _ (by omega)
        have m3 : ((x - (y + c) : Nat) : Int) < 4294967296 := by omega
        simp -implicitDefEqProofs only [n1, n3, n4, n5, d1, Int.toNat_natCast, Int.natCast_nonneg, hlt, m3, fill_len s a.length hs, set_fill s a.length _ hlt, go_sem, awp_seq, Nat.reduceBNe, Nat.reduceBEq, Nat.reduceAdd, Nat.reduceSub, Nat.reduceMul, Nat.reduceLeDiff, Nat.reduceLT, Nat.reduceEqDiff, Nat.reduceBneDiff]
        refine roundK_mk ⟨(s ++ [x - (y + c)], 0), ?_⟩ ?_ ?_
        · simp only [List.length_append, List.length_cons, List.length_nil, Nat.zero_add]
          exact ⟨by omega, dig_snoc hds (by omega), by omega, sub_next hx hy hv _ _ (by omega)⟩
        · simp -implicitDefEqProofs only [go_sem, awp_seq, Nat.reduceBNe, Nat.reduceBEq, Nat.reduceAdd, Nat.reduceSub, Nat.reduceMul, Nat.reduceLeDiff, Nat.reduceLT, Nat.reduceEqDiff, Nat.reduceBneDiff]
          exact rfl
        · simp; omega
    · have f1 : decide ((a.length : Int) < (a.length : Nat)) = false := by simp
      have hl : s.length = a.length := by omega
      rw [hl, List.take_length] at hv
      have hend : val s = val a - val b := sub_end ha hb hds h hl hv
      have hfill : s ++ List.replicate (a.length - a.length) 0 = s := by rw [Nat.sub_self]; simp
      have htake : s.take a.length = s := by rw [← hl, List.take_length]
      simp -implicitDefEqProofs only [f1, hfill, htake, hl, Nat.le_refl, go_sem, awp_seq, Nat.reduceBNe, Nat.reduceBEq, Nat.reduceAdd, Nat.reduceSub, Nat.reduceMul, Nat.reduceLeDiff, Nat.reduceLT, Nat.reduceEqDiff, Nat.reduceBneDiff]
      refine callA_rowTT (r1norm_c s hds (by omega)) ?_ ?_ <;> simp -implicitDefEqProofs only [hend, hfill, htake, hl, go_sem, awp_seq, Nat.reduceBNe, Nat.reduceBEq, Nat.reduceAdd, Nat.reduceSub, Nat.reduceMul, Nat.reduceLeDiff, Nat.reduceLT, Nat.reduceEqDiff, Nat.reduceBneDiff]
/-! A row that is filled from its end. -/
def zrow (k : Nat) (s : List Nat) : List Nat := List.replicate k 0 ++ s
theorem zrow_nil (k : Nat) : List.replicate k 0 = zrow k [] := by simp [zrow]
theorem zrow_zero (s : List Nat) : zrow 0 s = s := by simp [zrow]
theorem zrow_len (k : Nat) (s : List Nat) : (zrow k s).length = k + s.length := by simp [zrow]
theorem zrow_set (s : List Nat) (k x : Nat) : (zrow (k + 1) s).set k x = zrow k (x :: s) := by
  unfold zrow
  rw [List.set_append_left _ _ (by simp), List.replicate_succ', List.set_append_right _ _ (by simp)]
  simp
theorem short_next {a s : List Nat} {d k r : Nat} (hk : k < a.length) (hd : 0 < d) (h : val (a.drop (k + 1)) = val s * d + r) :
    val (a.drop k) = val ((r * 4294967296 + a.getD k 0) / d :: s) * d + (r * 4294967296 + a.getD k 0) % d := by
  rw [val_drop_cons a k hk, h, val_cons]
  have e : a[k] = a.getD k 0 := by rw [List.getD_eq_getElem?_getD, List.getElem?_eq_getElem hk]; rfl
  rw [e]
  generalize a.getD k 0 = x
  have := Nat.div_add_mod (r * 4294967296 + x) d
  generalize (r * 4294967296 + x) / d = u at *
  generalize (r * 4294967296 + x) % d = v at *
  grind
set_option maxHeartbeats 2000000 in
theorem r1short_c (a : List Nat) (d : Nat) (ha : Dig a) (hla : a.length < 1000000000000) (hd0 : 0 < d) (hd : d < 4294967296) : AT 141 [.nat a, u64 (d : Nat)] (.tup [natN (val a / d), u64 (val a % d : Nat)]) := by
  have m1 : (a.length : Int) * ((4 : Nat) : Int) ≤ 140737488355328 := by omega
  have m2 : (a.length : Int) ≤ 9223372036854775807 := by omega
  have w0 : ∀ k : Nat, k ≤ a.length → IntKind.i64.wrap ((k : Int) - 1) = ((k : Int) - 1) := fun k hk => IntWalk.i64_in _ (by omega)
  refine ACalls.of 10 (fn := Tryz.f141) Tryz.func141 rfl rfl rfl (by kernel_rfl) (by kernel_rfl) (Nat.le_of_ble_eq_true rfl) ?_
  simp -implicitDefEqProofs only [w0 _ (Nat.le_refl _), Int.toNat_natCast, Int.natCast_nonneg, Int.le_refl, m1, m2, go_sem, awp_seq, Nat.reduceBNe, Nat.reduceBEq, Nat.reduceAdd, Nat.reduceSub, Nat.reduceMul, Nat.reduceLeDiff, Nat.reduceLT, Nat.reduceEqDiff, Nat.reduceBneDiff]
  refine loop_mk (α := {x : Nat × List Nat × Nat // x.1 + x.2.1.length = a.length ∧ Dig x.2.1 ∧ x.2.2 < d ∧ val (a.drop x.1) = val x.2.1 * d + x.2.2}) (fun x => [(0, some (.av (.nat a))), (1, some (.av (u64 (d : Nat)))), (6, some (.osl 12 1 0 a.length)), (7, some (.av (u64 (x.1.2.2 : Nat)))), (8, some (.av (i64 ((x.1.1 : Int) - 1))))]) (fun _ => []) (fun x => [(12, .limb 55 (zrow x.1.1 x.1.2.1))]) (fun x => x.1.1) ⟨(a.length, [], 0), by simp, dig_nil, hd0, by simp [val]⟩ ?_ ?_
  · simp -implicitDefEqProofs only [zrow_nil, go_sem, awp_seq, Nat.reduceBNe, Nat.reduceBEq, Nat.reduceAdd, Nat.reduceSub, Nat.reduceMul, Nat.reduceLeDiff, Nat.reduceLT, Nat.reduceEqDiff, Nat.reduceBneDiff]
    exact rfl
  · rintro ⟨⟨k, s, r⟩, hs, hds, hr, hv⟩
    dsimp only at hs hds hr hv
    cases k with
    | zero =>
      have f1 : decide ((0 : Int) ≤ ((0 : Nat) : Int) - 1) = false := by simp
      have hl : s.length = a.length := by omega
      have hq : val s = val a / d := by
        rw [List.drop_zero] at hv
        rw [hv, Nat.mul_comm, Nat.mul_add_div hd0, Nat.div_eq_of_lt hr]; omega
      have hm : r = val a % d := by
        rw [List.drop_zero] at hv
        rw [hv, Nat.mul_comm, Nat.mul_add_mod, Nat.mod_eq_of_lt hr]
      have htake : s.take a.length = s := by rw [← hl, List.take_length]
      simp -implicitDefEqProofs only [f1, htake, hl, zrow_zero, Nat.le_refl, go_sem, awp_seq, Nat.reduceBNe, Nat.reduceBEq, Nat.reduceAdd, Nat.reduceSub, Nat.reduceMul, Nat.reduceLeDiff, Nat.reduceLT, Nat.reduceEqDiff, Nat.reduceBneDiff]
      refine callA_rowTT (r1norm_c s hds (by omega)) ?_ ?_ <;> simp -implicitDefEqProofs only [hq, ← hm, htake, hl, zrow_zero, go_sem, awp_seq, Nat.reduceBNe, Nat.reduceBEq, Nat.reduceAdd, Nat.reduceSub, Nat.reduceMul, Nat.reduceLeDiff, Nat.reduceLT, Nat.reduceEqDiff, Nat.reduceBneDiff]
    | succ k =>
      have f1 : decide ((0 : Int) ≤ (k : Nat)) = true := by simp
      have e2 : ((k + 1 : Nat) : Int) - 1 = (k : Int) := by omega
      have hk : k < a.length := by omega
      have dx := dig_getD ha k
      have hnext := short_next hk hd0 hv
      have hget := getD_some hk
      generalize a.getD k 0 = x at *
      have n1 : IntKind.u64.wrap ((r : Int) * 4294967296) = ((r * 4294967296 : Nat) : Int) := by rw [IntWalk.u64_in _ (by omega)]; omega
      have n2 : IntKind.u64.wrap (x : Int) = (x : Int) := IntWalk.u64_in _ (by omega)
      have n3 : IntKind.u64.wrap (((r * 4294967296 : Nat) : Int) + (x : Int)) = ((r * 4294967296 + x : Nat) : Int) := by rw [IntWalk.u64_in _ (by omega)]; omega
      have hlt : r * 4294967296 + x < d * 4294967296 := by
        have : (r + 1) * 4294967296 ≤ d * 4294967296 := Nat.mul_le_mul_right _ hr
        omega
      have hX : r * 4294967296 + x < 18446744073709551616 := by omega
      generalize hX2 : r * 4294967296 + x = X at *
      have hq : X / d < 4294967296 := Nat.div_lt_of_lt_mul hlt
      have hmod : X % d < d := Nat.mod_lt _ hd0
      have n4 : IntKind.u64.wrap ((X : Int).tdiv (d : Int)) = ((X / d : Nat) : Int) := by rw [IntWalk.u64_quo _ _ ⟨by omega, by omega, by omega⟩]; simp
      have n5 : (X : Int).tmod (d : Int) = ((X % d : Nat) : Int) := by rw [Int.tmod_eq_emod_of_nonneg (by omega)]; simp
      generalize X / d = q at *
      generalize X % d = u at *
      have n6 : IntKind.u32.wrap (q : Int) = (q : Int) := IntWalk.u32_in _ ⟨by omega, by omega⟩
      have hd1 : ¬ ((d : Int) = 0) := by omega
      have m3 : (q : Int) < 4294967296 := by omega
      have m4 : k < k + 1 + s.length := by omega
      simp -implicitDefEqProofs only [decide_true, e2, n1, n2, n3, n4, n5, n6, hd1, two32, le32, w0 k (by omega), Int.toNat_natCast, Int.natCast_nonneg, hget, m3, hk, zrow_len, zrow_set, m4, go_sem, awp_seq, Nat.reduceBNe, Nat.reduceBEq, Nat.reduceAdd, Nat.reduceSub, Nat.reduceMul, Nat.reduceLeDiff, Nat.reduceLT, Nat.reduceEqDiff, Nat.reduceBneDiff]
      refine roundK_mk ⟨(k, q :: s, u), ?_⟩ ?_ (by show k < k + 1; omega)
      · exact ⟨by simp; omega, dig_cons.2 ⟨hq, hds⟩, hmod, hnext⟩
      · simp -implicitDefEqProofs only [go_sem, awp_seq, Nat.reduceBNe, Nat.reduceBEq, Nat.reduceAdd, Nat.reduceSub, Nat.reduceMul, Nat.reduceLeDiff, Nat.reduceLT, Nat.reduceEqDiff, Nat.reduceBneDiff]
end Go.Proofs.YtnifjdhjimjihaaGreatDoor
