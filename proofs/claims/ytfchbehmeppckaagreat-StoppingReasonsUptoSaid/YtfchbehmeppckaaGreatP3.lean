import Derived.Test.YtfchbehmeppckaaGreatP2
/- Texts merged: WsF WsG WsH WsI WsJ WsK WSp Wt1 Wt2 Wt3 Wt4. -/
/- Chapter 38: the examples of the chapter. INTS -/
set_option linter.unusedSimpArgs false
set_option linter.unusedVariables false
namespace Go.Proofs.YtfchbehmeppckaaGreat
open Go.RowKit Lim

theorem part_c (a b : Nat) (ha : a < 4294967296) (hb : b < 4294967296) : AT 31 [.lit (.int .u32 (a : Nat)), .lit (.int .u32 (b : Nat))] (ratA false [a] [b]) := by
  have h1 : ((a : Nat) : Int) < 4294967296 := by omega
  have h2 : ((b : Nat) : Int) < 4294967296 := by omega
  refine ACalls.of ⟨5, []⟩ (fn := Tryz.f31) Tryz.func31 rfl rfl rfl (by kernel_rfl) (by kernel_rfl) (Nat.le_of_ble_eq_true rfl) ?_
  simp -implicitDefEqProofs only [h1, h2, Int.toNat_natCast, Int.natCast_nonneg, go_sem, awp_seq, Nat.reduceBNe, Nat.reduceBEq, Nat.reduceAdd, Nat.reduceSub, Nat.reduceMul, Nat.reduceLeDiff, Nat.reduceLT, Nat.reduceEqDiff, Nat.reduceBneDiff, Int.reduceLE, Int.reduceLT, Int.reduceToNat, Int.reduceBEq, Int.reduceBNe, Int.reduceAdd, Int.reduceSub, Int.cast_ofNat_Int]
def r0 : RatV := ⟨false, [], []⟩
theorem policy_c (n : Int) : AT 30 [i64 n] (.agg [i64 n, .sl 5 [], ints [0, 100], ints [1, 1], .sl 2 [], i64 1, boo false, .nat [], .nat [], i64 0, boo false, .nat [], .nat [], i64 1, boo false, .nat [1], .nat [2], i64 0]) := by
  have P := part_c 1 2 (by omega) (by omega)
  refine ACalls.of ⟨3, []⟩ (fn := Tryz.f30) Tryz.func30 rfl rfl rfl (by kernel_rfl) (by kernel_rfl) (Nat.le_of_ble_eq_true rfl) ?_
  simp -implicitDefEqProofs only [go_sem, awp_seq, Nat.reduceBNe, Nat.reduceBEq, Nat.reduceAdd, Nat.reduceSub, Nat.reduceMul, Nat.reduceLeDiff, Nat.reduceLT, Nat.reduceEqDiff, Nat.reduceBneDiff, Int.reduceLE, Int.reduceLT, Int.reduceToNat, Int.reduceBEq, Int.reduceBNe, Int.reduceAdd, Int.reduceSub, Int.cast_ofNat_Int]
  refine callA_tt P ?_
  simp -implicitDefEqProofs only [go_sem, awp_seq, Nat.reduceBNe, Nat.reduceBEq, Nat.reduceAdd, Nat.reduceSub, Nat.reduceMul, Nat.reduceLeDiff, Nat.reduceLT, Nat.reduceEqDiff, Nat.reduceBneDiff, Int.reduceLE, Int.reduceLT, Int.reduceToNat, Int.reduceBEq, Int.reduceBNe, Int.reduceAdd, Int.reduceSub, Int.cast_ofNat_Int]
  rfl
abbrev pol1 (n : Int) (a b : List Nat) (c : Int) (x y : List Nat) : PolV := ⟨n, [], [0, 100], [1, 1], [], 1, ⟨false, a, b⟩, c, ⟨false, x, y⟩, 1, ⟨false, [1], [2]⟩, 0⟩
theorem rok_small (l m : List Nat) (h1 : l.all (· < 4294967296) = true) (h2 : m.all (· < 4294967296) = true) (h3 : l.length ≤ 2000000) (h4 : m.length ≤ 2000000) : ROK ⟨false, l, m⟩ :=
  ⟨fun x hx => by simpa using List.all_eq_true.1 h1 x hx, fun x hx => by simpa using List.all_eq_true.1 h2 x hx, h3, h4⟩
theorem pok1 (n : Int) (a b : List Nat) (c : Int) (x y : List Nat) (h1 : ROK ⟨false, a, b⟩) (h2 : ROK ⟨false, x, y⟩) : POK (pol1 n a b c x y) := ⟨h1, h2, rok_small [1] [2] rfl rfl (by decide) (by decide)⟩
theorem wok_small (ws : List (List Nat)) (h : ws.all (fun l => l.all (· < 4294967296) && decide (l.length ≤ 2000000)) = true) : WOK ws := fun x hx => by
  have := List.all_eq_true.1 h x hx
  simp only [Bool.and_eq_true, decide_eq_true_eq] at this
  exact ⟨fun y hy => by simpa using List.all_eq_true.1 this.1 y hy, this.2⟩
theorem nn : ROK ⟨false, [], []⟩ := rok_small [] [] rfl rfl (by decide) (by decide)
theorem r1 : AC 12 [polA (pol1 5 [2500] [1] 0 [] []), i64 1, nats [[1], [1]]] (.tup [i64 2, i64 0]) := by
  have h := reason_c (pol1 5 [2500] [1] 0 [] []) (pok1 _ _ _ _ _ _ (rok_small [2500] [1] rfl rfl (by decide) (by decide)) nn) [[1], [1]] (wok_small _ rfl) (by decide) 1
  rw [show reasV (pol1 5 [2500] [1] 0 [] []) 1 [[1], [1]] = 2 by decide +kernel, show reasE (pol1 5 [2500] [1] 0 [] []) 1 [[1], [1]] = 0 by decide +kernel] at h
  exact h
theorem r2 : AC 12 [polA (pol1 5 [2499] [1] 0 [] []), i64 1, nats [[1], [1]]] (.tup [i64 0, i64 0]) := by
  have h := reason_c (pol1 5 [2499] [1] 0 [] []) (pok1 _ _ _ _ _ _ (rok_small [2499] [1] rfl rfl (by decide) (by decide)) nn) [[1], [1]] (wok_small _ rfl) (by decide) 1
  rw [show reasV (pol1 5 [2499] [1] 0 [] []) 1 [[1], [1]] = 0 by decide +kernel, show reasE (pol1 5 [2499] [1] 0 [] []) 1 [[1], [1]] = 0 by decide +kernel] at h
  exact h
theorem r3 : AC 12 [polA (pol1 5 [2499] [1] 0 [] []), i64 5, nats [[1], [1]]] (.tup [i64 1, i64 0]) := by
  have h := reason_c (pol1 5 [2499] [1] 0 [] []) (pok1 _ _ _ _ _ _ (rok_small [2499] [1] rfl rfl (by decide) (by decide)) nn) [[1], [1]] (wok_small _ rfl) (by decide) 5
  rw [show reasV (pol1 5 [2499] [1] 0 [] []) 5 [[1], [1]] = 1 by decide +kernel, show reasE (pol1 5 [2499] [1] 0 [] []) 5 [[1], [1]] = 0 by decide +kernel] at h
  exact h
theorem s1 : AC 16 [polA (pol1 2 [] [] 0 [] []), natss [[[1], [1]], [[1], [1]], [[1], [1]]]] (.tup [i64 2, i64 1, i64 0]) := by
  have h := first_c (pol1 2 [] [] 0 [] []) (pok1 _ _ _ _ _ _ nn nn) [[[1], [1]], [[1], [1]], [[1], [1]]] (fun ws hs => by
    simp only [List.mem_cons, List.not_mem_nil, or_false, or_self] at hs; subst hs; exact ⟨wok_small _ rfl, by decide⟩)
  rw [show firstR (pol1 2 [] [] 0 [] []) [[[1], [1]], [[1], [1]], [[1], [1]]] = (2, 1, 0) by decide +kernel] at h
  exact h
theorem s2 : AC 16 [polA (pol1 2 [] [] 0 [] []), natss [[[1], [1]]]] (.tup [i64 0, i64 0, i64 0]) := by
  have h := first_c (pol1 2 [] [] 0 [] []) (pok1 _ _ _ _ _ _ nn nn) [[[1], [1]]] (fun ws hs => by
    simp only [List.mem_cons, List.not_mem_nil, or_false, or_self] at hs; subst hs; exact ⟨wok_small _ rfl, by decide⟩)
  rw [show firstR (pol1 2 [] [] 0 [] []) [[[1], [1]]] = (0, 0, 0) by decide +kernel] at h
  exact h
theorem d1 : AC 14 [polA (pol1 2 [] [] 1 [3] [4]), nats [[1], [3]]] (.tup [boo true, i64 0]) := by
  have h := Decided_c (pol1 2 [] [] 1 [3] [4]) (pok1 _ _ _ _ _ _ nn (rok_small [3] [4] rfl rfl (by decide) (by decide))) [[1], [3]] (wok_small _ rfl) (by decide)
  rw [show DecV (pol1 2 [] [] 1 [3] [4]) [[1], [3]] = true by decide +kernel, show DecE (pol1 2 [] [] 1 [3] [4]) [[1], [3]] = 0 by decide +kernel] at h
  exact h
theorem d2 : AC 14 [polA (pol1 2 [] [] 1 [4] [5]), nats [[1], [3]]] (.tup [boo false, i64 0]) := by
  have h := Decided_c (pol1 2 [] [] 1 [4] [5]) (pok1 _ _ _ _ _ _ nn (rok_small [4] [5] rfl rfl (by decide) (by decide))) [[1], [3]] (wok_small _ rfl) (by decide)
  rw [show DecV (pol1 2 [] [] 1 [4] [5]) [[1], [3]] = false by decide +kernel, show DecE (pol1 2 [] [] 1 [4] [5]) [[1], [3]] = 0 by decide +kernel] at h
  exact h
theorem v1 : AC 9 [polA (pol1 2 [] [] 2 [4] [5])] (i64 3) := by
  have h := svalid_c (pol1 2 [] [] 2 [4] [5]) (pok1 _ _ _ _ _ _ nn (rok_small [4] [5] rfl rfl (by decide) (by decide)))
  rw [show polE (pol1 2 [] [] 2 [4] [5]) = 3 by decide +kernel] at h
  exact h
theorem v2 : AC 9 [polA (pol1 5 [2500] [1] 0 [] [])] (i64 0) := by
  have h := svalid_c (pol1 5 [2500] [1] 0 [] []) (pok1 _ _ _ _ _ _ (rok_small [2500] [1] rfl rfl (by decide) (by decide)) nn)
  rw [show polE (pol1 5 [2500] [1] 0 [] []) = 0 by decide +kernel] at h
  exact h
end Go.Proofs.YtfchbehmeppckaaGreat

/- Chapter 38: awake. INTS -/
set_option linter.unusedSimpArgs false
set_option linter.unusedVariables false
namespace Go.Proofs.YtfchbehmeppckaaGreat
open Go.RowKit Lim

set_option maxHeartbeats 4000000 in
set_option maxRecDepth 10000 in
theorem awake38_c : AC 11 [] (boo true) := by
  have P5 := policy_c 5
  have P2 := policy_c 2
  refine ACalls.of ⟨17, []⟩ (fn := Tryz.f11) Tryz.func11 rfl rfl rfl (by kernel_rfl) (by kernel_rfl) (Nat.le_of_ble_eq_true rfl) ?_
  simp -implicitDefEqProofs only [go_sem, awp_seq, Nat.reduceBNe, Nat.reduceBEq, Nat.reduceAdd, Nat.reduceSub, Nat.reduceMul, Nat.reduceLeDiff, Nat.reduceLT, Nat.reduceEqDiff, Nat.reduceBneDiff, Int.reduceLE, Int.reduceLT, Int.reduceToNat, Int.reduceBEq, Int.reduceBNe, Int.reduceAdd, Int.reduceSub, Int.cast_ofNat_Int]
  refine callA_t P5 ?_
  simp -implicitDefEqProofs only [go_sem, awp_seq, Nat.reduceBNe, Nat.reduceBEq, Nat.reduceAdd, Nat.reduceSub, Nat.reduceMul, Nat.reduceLeDiff, Nat.reduceLT, Nat.reduceEqDiff, Nat.reduceBneDiff, Int.reduceLE, Int.reduceLT, Int.reduceToNat, Int.reduceBEq, Int.reduceBNe, Int.reduceAdd, Int.reduceSub, Int.cast_ofNat_Int]
  refine callA_t P5 ?_
  simp -implicitDefEqProofs only [go_sem, awp_seq, Nat.reduceBNe, Nat.reduceBEq, Nat.reduceAdd, Nat.reduceSub, Nat.reduceMul, Nat.reduceLeDiff, Nat.reduceLT, Nat.reduceEqDiff, Nat.reduceBneDiff, Int.reduceLE, Int.reduceLT, Int.reduceToNat, Int.reduceBEq, Int.reduceBNe, Int.reduceAdd, Int.reduceSub, Int.cast_ofNat_Int]
  refine callA_t P2 ?_
  simp -implicitDefEqProofs only [go_sem, awp_seq, Nat.reduceBNe, Nat.reduceBEq, Nat.reduceAdd, Nat.reduceSub, Nat.reduceMul, Nat.reduceLeDiff, Nat.reduceLT, Nat.reduceEqDiff, Nat.reduceBneDiff, Int.reduceLE, Int.reduceLT, Int.reduceToNat, Int.reduceBEq, Int.reduceBNe, Int.reduceAdd, Int.reduceSub, Int.cast_ofNat_Int]
  refine callA_t (part_c 2500 1 (by omega) (by omega)) ?_
  simp -implicitDefEqProofs only [go_sem, awp_seq, Nat.reduceBNe, Nat.reduceBEq, Nat.reduceAdd, Nat.reduceSub, Nat.reduceMul, Nat.reduceLeDiff, Nat.reduceLT, Nat.reduceEqDiff, Nat.reduceBneDiff, Int.reduceLE, Int.reduceLT, Int.reduceToNat, Int.reduceBEq, Int.reduceBNe, Int.reduceAdd, Int.reduceSub, Int.cast_ofNat_Int]
  refine callA_t (part_c 2499 1 (by omega) (by omega)) ?_
  simp -implicitDefEqProofs only [Int.toNat_one, Int.reduceToNat, Int.reduceLT, Int.reduceLE, go_sem, awp_seq, Nat.reduceBNe, Nat.reduceBEq, Nat.reduceAdd, Nat.reduceSub, Nat.reduceMul, Nat.reduceLeDiff, Nat.reduceLT, Nat.reduceEqDiff, Nat.reduceBneDiff, Int.reduceLE, Int.reduceLT, Int.reduceToNat, Int.reduceBEq, Int.reduceBNe, Int.reduceAdd, Int.reduceSub, Int.cast_ofNat_Int]
  refine callA_mk r1 ?_
  simp -implicitDefEqProofs only [go_sem, awp_seq, Nat.reduceBNe, Nat.reduceBEq, Nat.reduceAdd, Nat.reduceSub, Nat.reduceMul, Nat.reduceLeDiff, Nat.reduceLT, Nat.reduceEqDiff, Nat.reduceBneDiff, Int.reduceLE, Int.reduceLT, Int.reduceToNat, Int.reduceBEq, Int.reduceBNe, Int.reduceAdd, Int.reduceSub, Int.cast_ofNat_Int]
  refine callA_mk r2 ?_
  simp -implicitDefEqProofs only [go_sem, awp_seq, Nat.reduceBNe, Nat.reduceBEq, Nat.reduceAdd, Nat.reduceSub, Nat.reduceMul, Nat.reduceLeDiff, Nat.reduceLT, Nat.reduceEqDiff, Nat.reduceBneDiff, Int.reduceLE, Int.reduceLT, Int.reduceToNat, Int.reduceBEq, Int.reduceBNe, Int.reduceAdd, Int.reduceSub, Int.cast_ofNat_Int]
  refine callA_mk r3 ?_
  simp -implicitDefEqProofs only [Int.reduceBNe, go_sem, awp_seq, Nat.reduceBNe, Nat.reduceBEq, Nat.reduceAdd, Nat.reduceSub, Nat.reduceMul, Nat.reduceLeDiff, Nat.reduceLT, Nat.reduceEqDiff, Nat.reduceBneDiff, Int.reduceLE, Int.reduceLT, Int.reduceToNat, Int.reduceBEq, Int.reduceBNe, Int.reduceAdd, Int.reduceSub, Int.cast_ofNat_Int]
  refine callA_mk s1 ?_
  simp -implicitDefEqProofs only [go_sem, awp_seq, Nat.reduceBNe, Nat.reduceBEq, Nat.reduceAdd, Nat.reduceSub, Nat.reduceMul, Nat.reduceLeDiff, Nat.reduceLT, Nat.reduceEqDiff, Nat.reduceBneDiff, Int.reduceLE, Int.reduceLT, Int.reduceToNat, Int.reduceBEq, Int.reduceBNe, Int.reduceAdd, Int.reduceSub, Int.cast_ofNat_Int]
  refine callA_mk s2 ?_
  simp -implicitDefEqProofs only [Int.reduceBNe, go_sem, awp_seq, Nat.reduceBNe, Nat.reduceBEq, Nat.reduceAdd, Nat.reduceSub, Nat.reduceMul, Nat.reduceLeDiff, Nat.reduceLT, Nat.reduceEqDiff, Nat.reduceBneDiff, Int.reduceLE, Int.reduceLT, Int.reduceToNat, Int.reduceBEq, Int.reduceBNe, Int.reduceAdd, Int.reduceSub, Int.cast_ofNat_Int]
  refine callA_t (part_c 3 4 (by omega) (by omega)) ?_
  simp -implicitDefEqProofs only [go_sem, awp_seq, Nat.reduceBNe, Nat.reduceBEq, Nat.reduceAdd, Nat.reduceSub, Nat.reduceMul, Nat.reduceLeDiff, Nat.reduceLT, Nat.reduceEqDiff, Nat.reduceBneDiff, Int.reduceLE, Int.reduceLT, Int.reduceToNat, Int.reduceBEq, Int.reduceBNe, Int.reduceAdd, Int.reduceSub, Int.cast_ofNat_Int]
  refine callA_mk d1 ?_
  simp -implicitDefEqProofs only [go_sem, awp_seq, Nat.reduceBNe, Nat.reduceBEq, Nat.reduceAdd, Nat.reduceSub, Nat.reduceMul, Nat.reduceLeDiff, Nat.reduceLT, Nat.reduceEqDiff, Nat.reduceBneDiff, Int.reduceLE, Int.reduceLT, Int.reduceToNat, Int.reduceBEq, Int.reduceBNe, Int.reduceAdd, Int.reduceSub, Int.cast_ofNat_Int]
  refine callA_t (part_c 4 5 (by omega) (by omega)) ?_
  simp -implicitDefEqProofs only [go_sem, awp_seq, Nat.reduceBNe, Nat.reduceBEq, Nat.reduceAdd, Nat.reduceSub, Nat.reduceMul, Nat.reduceLeDiff, Nat.reduceLT, Nat.reduceEqDiff, Nat.reduceBneDiff, Int.reduceLE, Int.reduceLT, Int.reduceToNat, Int.reduceBEq, Int.reduceBNe, Int.reduceAdd, Int.reduceSub, Int.cast_ofNat_Int]
  refine callA_mk d2 ?_
  simp -implicitDefEqProofs only [go_sem, awp_seq, Nat.reduceBNe, Nat.reduceBEq, Nat.reduceAdd, Nat.reduceSub, Nat.reduceMul, Nat.reduceLeDiff, Nat.reduceLT, Nat.reduceEqDiff, Nat.reduceBneDiff, Int.reduceLE, Int.reduceLT, Int.reduceToNat, Int.reduceBEq, Int.reduceBNe, Int.reduceAdd, Int.reduceSub, Int.cast_ofNat_Int]
  refine callA_mk v1 ?_
  simp -implicitDefEqProofs only [go_sem, awp_seq, Nat.reduceBNe, Nat.reduceBEq, Nat.reduceAdd, Nat.reduceSub, Nat.reduceMul, Nat.reduceLeDiff, Nat.reduceLT, Nat.reduceEqDiff, Nat.reduceBneDiff, Int.reduceLE, Int.reduceLT, Int.reduceToNat, Int.reduceBEq, Int.reduceBNe, Int.reduceAdd, Int.reduceSub, Int.cast_ofNat_Int]
  refine callA_mk v2 ?_
  simp -implicitDefEqProofs only [go_sem, awp_seq, Nat.reduceBNe, Nat.reduceBEq, Nat.reduceAdd, Nat.reduceSub, Nat.reduceMul, Nat.reduceLeDiff, Nat.reduceLT, Nat.reduceEqDiff, Nat.reduceBneDiff, Int.reduceLE, Int.reduceLT, Int.reduceToNat, Int.reduceBEq, Int.reduceBNe, Int.reduceAdd, Int.reduceSub, Int.cast_ofNat_Int]
end Go.Proofs.YtfchbehmeppckaaGreat

/- Chapter 38: plain laws of stopping. -/
set_option linter.unusedSimpArgs false
set_option linter.unusedVariables false
namespace Go.Proofs.YtfchbehmeppckaaGreat
open Go.RowKit Lim

theorem pol_ok {p : PolV} (h : polE p = 0) : specE p.len p.rs = 0 ∧ gridE p.pts p.prs = 0 ∧ polBad p = false := by
  unfold polE at h
  split at h
  · exact absurd h (by assumption)
  · split at h
    · exact absurd h (by assumption)
    · split at h
      · cases h
      · split at h
        · cases h
        · exact ⟨by omega, by omega, by simpa using (by assumption : ¬ polBad p = true)⟩
theorem pol_len {p : PolV} (h : polE p = 0) : 1 ≤ p.len ∧ p.len ≤ 18 := by
  have h1 := (pol_ok h).1
  unfold specE at h1
  split at h1
  · cases h1
  · rename_i hh
    simp at hh
    omega
theorem pol_cut {p : PolV} (h : polE p = 0) : 0 ≤ p.cut ∧ p.cut ≤ (p.pts.length : Int) - 1 ∧ (p.cut ≠ 0 → aboveB p.lv 1 2 = true) ∧ 0 ≤ sgnI (pz p.v.z p.v.d) := by
  have h1 := (pol_ok h).2.2
  simp only [polBad, Bool.or_eq_false_iff, decide_eq_false_iff_not, Bool.and_eq_false_iff, bne_eq_false_iff_eq, Bool.not_eq_false'] at h1
  obtain ⟨_, h2, h3, h4, _⟩ := h1
  refine ⟨by omega, by omega, fun hc => ?_, by omega⟩
  rcases h4 with h4 | h4
  · exact absurd h4 hc
  · exact h4
theorem reas_no {p : PolV} {n : Int} {w : List (List Nat)} (hp : polE p = 0) (hn : 0 ≤ n) (he : reasE p n w = 0) : varE p.pts p.prs w = 0 := by
  unfold reasE at he
  rw [if_neg (by omega), if_neg (by omega)] at he
  by_cases h : varE p.pts p.prs w = 0
  · exact h
  · rw [if_pos h] at he; exact absurd he h
theorem reas_full {p : PolV} {n : Int} {w : List (List Nat)} (hp : polE p = 0) (hn : 0 ≤ n) (he : reasE p n w = 0) (h : p.len ≤ n) : reasV p n w = 1 := by
  have hv := reas_no hp hn he
  unfold reasV
  rw [if_neg (by omega), if_neg (by omega), if_neg (by omega), if_pos h]
theorem reas_early {p : PolV} {n : Int} {w : List (List Nat)} (hp : polE p = 0) (hn : 0 ≤ n) (he : reasE p n w = 0) (h : n < p.len) (hr : reasV p n w ≠ 0) : p.min ≤ n ∧ (reasV p n w = 2 ∧ lowB p w = true ∨ reasV p n w = 3 ∧ decE p w = 0 ∧ decV p w = true) := by
  have hv := reas_no hp hn he
  unfold reasV at hr ⊢
  rw [if_neg (by omega), if_neg (by omega), if_neg (by omega), if_neg (by omega)] at hr ⊢
  by_cases h1 : n < p.min
  · rw [if_pos h1] at hr; exact absurd rfl hr
  rw [if_neg h1] at hr ⊢
  refine ⟨by omega, ?_⟩
  by_cases h2 : lowB p w = true
  · rw [if_pos h2]; exact .inl ⟨rfl, h2⟩
  rw [if_neg h2] at hr ⊢
  by_cases h3 : decE p w ≠ 0
  · rw [if_pos h3] at hr; exact absurd rfl hr
  rw [if_neg h3] at hr ⊢
  by_cases h4 : decV p w = true
  · rw [if_pos h4]; exact .inr ⟨rfl, by omega, h4⟩
  · rw [if_neg h4] at hr; exact absurd rfl hr
theorem first_spec {p : PolV} (hp : polE p = 0) : ∀ (wss : List (List (List Nat))) (i : Nat), (i : Int) < p.len →
    ((firstS p i wss).2.2 ≠ 0 → (firstS p i wss).1 = 0 ∧ (firstS p i wss).2.1 = 0) ∧
    ((firstS p i wss).2.2 = 0 → (firstS p i wss).1 = 0 → (firstS p i wss).2.1 = 0 ∧ (i + wss.length : Int) < p.len) ∧
    ((firstS p i wss).2.2 = 0 → (firstS p i wss).1 ≠ 0 → ∃ j w, wss[j]? = some w ∧ (firstS p i wss).1 = ((i + j + 1 : Nat) : Int) ∧ ((i + j + 1 : Nat) : Int) ≤ p.len ∧ (firstS p i wss).2.1 = reasV p ((i + j + 1 : Nat) : Int) w ∧ reasE p ((i + j + 1 : Nat) : Int) w = 0 ∧ reasV p ((i + j + 1 : Nat) : Int) w ≠ 0)
  | [], i, hi => by
    exact ⟨fun h => absurd rfl h, fun _ _ => ⟨rfl, by simpa using hi⟩, fun _ h => absurd rfl h⟩
  | w :: wss, i, hi => by
    unfold firstS
    by_cases h1 : reasE p ((i + 1 : Nat) : Int) w ≠ 0
    · rw [if_pos h1]
      exact ⟨fun _ => ⟨rfl, rfl⟩, fun h => absurd h h1, fun h => absurd h h1⟩
    rw [if_neg h1]
    have h1' : reasE p ((i + 1 : Nat) : Int) w = 0 := by omega
    by_cases h2 : reasV p ((i + 1 : Nat) : Int) w ≠ 0
    · rw [if_pos h2]
      refine ⟨fun h => absurd rfl h, fun _ h => ?_, fun _ _ => ⟨0, w, rfl, rfl, by omega, rfl, h1', h2⟩⟩
      dsimp only at h
      omega
    rw [if_neg h2]
    have h3 : ((i + 1 : Nat) : Int) < p.len := by
      by_cases hh : p.len ≤ ((i + 1 : Nat) : Int)
      · have := reas_full hp (by omega) h1' hh
        omega
      · omega
    obtain ⟨q1, q2, q3⟩ := first_spec hp wss (i + 1) h3
    refine ⟨q1, fun ha hb => ?_, fun ha hb => ?_⟩
    · obtain ⟨r1, r2⟩ := q2 ha hb
      refine ⟨r1, ?_⟩
      simp only [List.length_cons]
      omega
    · obtain ⟨j, w', r1, r2, r3, r4, r5, r6⟩ := q3 ha hb
      refine ⟨j + 1, w', by simpa using r1, ?_⟩
      rw [show i + (j + 1) + 1 = i + 1 + j + 1 by omega]
      exact ⟨r2, r3, r4, r5, r6⟩
/-- With Var 0 and Cut 0. -/
theorem full_spec {p : PolV} (hp : polE p = 0) (hv : pz p.v.z p.v.d = 0) (hc : p.cut = 0) (wss : List (List (List Nat))) (he : (firstS p 0 wss).2.2 = 0) :
    ((wss.length : Int) < p.len → (firstS p 0 wss).1 = 0 ∧ (firstS p 0 wss).2.1 = 0) ∧ (¬ (wss.length : Int) < p.len → (firstS p 0 wss).1 = p.len ∧ (firstS p 0 wss).2.1 = 1) := by
  have hl := pol_len hp
  obtain ⟨_, q2, q3⟩ := first_spec hp wss 0 (by omega)
  have no : ∀ w, lowB p w = false := fun w => by unfold lowB; rw [hv]; rfl
  have no2 : ∀ w, decV p w = false := fun w => by unfold decV; rw [if_pos hc]
  by_cases h0 : (firstS p 0 wss).1 = 0
  · obtain ⟨r1, r2⟩ := q2 he h0
    refine ⟨fun _ => ⟨h0, r1⟩, fun h => ?_⟩
    simp at r2
    omega
  · obtain ⟨j, w, r1, r2, r3, r4, r5, r6⟩ := q3 he h0
    have hj := (List.getElem?_eq_some_iff.1 r1).1
    have hlen : ((0 + j + 1 : Nat) : Int) = p.len := by
      by_cases hh : ((0 + j + 1 : Nat) : Int) < p.len
      · rcases (reas_early hp (by omega) r5 hh r6).2 with ⟨_, hb⟩ | ⟨_, _, hb⟩
        · rw [no] at hb; cases hb
        · rw [no2] at hb; cases hb
      · omega
    refine ⟨fun h => by omega, fun _ => ⟨by omega, ?_⟩⟩
    rw [r4]
    exact reas_full hp (by omega) r5 (by omega)
theorem cmp_le {a b : Int} : cmpZ a b ≤ 0 ↔ a ≤ b := by
  unfold cmpZ
  split
  · omega
  · split <;> omega
theorem cmp_gt {a b : Int} : 0 < cmpZ a b ↔ b < a := by
  unfold cmpZ
  split
  · omega
  · split <;> omega
theorem sgn_pos {z : Int} : 0 < sgnI z ↔ 0 < z := by
  unfold sgnI
  split
  · omega
  · split <;> omega
theorem low_mono {p q : PolV} (h1 : q.pts = p.pts) (hle : pz p.v.z p.v.d * (pd q.v.d : Int) ≤ pz q.v.z q.v.d * (pd p.v.d : Int)) {w : List (List Nat)} (h : lowB p w = true) : lowB q w = true := by
  unfold lowB at h ⊢
  rw [h1]
  simp only [Bool.and_eq_true, decide_eq_true_eq, cmp_le, sgn_pos] at h ⊢
  have dp := pd_pos p.v.d
  have dq := pd_pos q.v.d
  generalize pz p.v.z p.v.d = x at *
  generalize pz q.v.z q.v.d = y at *
  generalize pd p.v.d = a at *
  generalize pd q.v.d = b at *
  generalize varN p.pts w = n at *
  generalize varD p.pts w = d at *
  obtain ⟨h2, h3⟩ := h
  have a0 : (0 : Int) < (a : Int) := by omega
  have b0 : (0 : Int) < (b : Int) := by omega
  refine ⟨?_, ?_⟩
  · have : 0 < y * (a : Int) := Int.lt_of_lt_of_le (Int.mul_pos h2 b0) hle
    exact Int.pos_of_mul_pos_left this a0
  · have k1 : n * (a : Int) * (b : Int) ≤ x * (d : Int) * (b : Int) := Int.mul_le_mul_of_nonneg_right h3 (Int.le_of_lt b0)
    have k2 : x * (b : Int) * (d : Int) ≤ y * (a : Int) * (d : Int) := Int.mul_le_mul_of_nonneg_right hle (by omega)
    have e1 : x * (d : Int) * (b : Int) = x * (b : Int) * (d : Int) := by rw [Int.mul_assoc, Int.mul_comm (d : Int), ← Int.mul_assoc]
    have e2 : n * (b : Int) * (a : Int) = n * (a : Int) * (b : Int) := by rw [Int.mul_assoc, Int.mul_comm (b : Int), ← Int.mul_assoc]
    have e3 : y * (d : Int) * (a : Int) = y * (a : Int) * (d : Int) := by rw [Int.mul_assoc, Int.mul_comm (d : Int), ← Int.mul_assoc]
    refine Int.le_of_mul_le_mul_right (a := (a : Int)) ?_ a0
    rw [e2, e3]
    rw [e1] at k1
    exact Int.le_trans k1 k2
theorem reas_mono {p q : PolV} (hp : polE p = 0) (hq : polE q = 0) (e1 : q.pts = p.pts) (e2 : q.prs = p.prs) (e3 : q.len = p.len) (e4 : q.min = p.min) (e5 : q.cut = p.cut) (e6 : q.lv = p.lv)
    (hle : pz p.v.z p.v.d * (pd q.v.d : Int) ≤ pz q.v.z q.v.d * (pd p.v.d : Int)) {n : Int} (hn : 0 ≤ n) {w : List (List Nat)} (he : reasE p n w = 0) (hr : reasV p n w ≠ 0) (hf : reasE q n w = 0) : reasV q n w ≠ 0 := by
  have hv := reas_no hq hn hf
  by_cases h1 : p.len ≤ n
  · rw [reas_full hq hn hf (by omega)]; decide
  · obtain ⟨h2, h3⟩ := reas_early hp hn he (by omega) hr
    unfold reasV
    rw [if_neg (by omega), if_neg (by omega), if_neg (by omega), if_neg (by omega), if_neg (by omega)]
    rcases h3 with ⟨_, hb⟩ | ⟨_, hb, hc⟩
    · rw [if_pos (low_mono e1 hle hb)]; decide
    · by_cases h4 : lowB q w = true
      · rw [if_pos h4]; decide
      · have e7 : decE q w = decE p w := by unfold decE; rw [e5, e6]
        have e8 : decV q w = decV p w := by unfold decV; rw [e5, e6]
        rw [if_neg h4, e7, e8, if_neg (by omega), if_pos hc]; decide
theorem first_mono {p q : PolV} (hp : polE p = 0) (hq : polE q = 0) (e1 : q.pts = p.pts) (e2 : q.prs = p.prs) (e3 : q.len = p.len) (e4 : q.min = p.min) (e5 : q.cut = p.cut) (e6 : q.lv = p.lv)
    (hle : pz p.v.z p.v.d * (pd q.v.d : Int) ≤ pz q.v.z q.v.d * (pd p.v.d : Int)) : ∀ (wss : List (List (List Nat))) (i : Nat), (firstS p i wss).2.2 = 0 → (firstS q i wss).2.2 = 0 → (firstS p i wss).1 ≠ 0 → (i : Int) < (firstS p i wss).1 ∧ 0 < (firstS q i wss).1 ∧ (firstS q i wss).1 ≤ (firstS p i wss).1
  | [], i, _, _, h => absurd rfl h
  | w :: wss, i, hE, hF, hN => by
    have ih := first_mono hp hq e1 e2 e3 e4 e5 e6 hle wss (i + 1)
    unfold firstS at hE hF hN ⊢
    by_cases h1 : reasE p ((i + 1 : Nat) : Int) w ≠ 0
    · rw [if_pos h1] at hE; exact absurd hE h1
    rw [if_neg h1] at hE hN ⊢
    by_cases h2 : reasE q ((i + 1 : Nat) : Int) w ≠ 0
    · rw [if_pos h2] at hF; exact absurd hF h2
    rw [if_neg h2] at hF ⊢
    by_cases h3 : reasV p ((i + 1 : Nat) : Int) w ≠ 0
    · have h4 := reas_mono hp hq e1 e2 e3 e4 e5 e6 hle (by omega) (by omega) h3 (by omega)
      rw [if_pos h3, if_pos h4]
      dsimp only
      omega
    · rw [if_neg h3] at hE hN ⊢
      by_cases h4 : reasV q ((i + 1 : Nat) : Int) w ≠ 0
      · rw [if_pos h4] at hF ⊢
        have k1 : (i + 1 : Int) < (firstS p (i + 1) wss).1 := by
          have : ∀ (wss : List (List (List Nat))) (i : Nat), (firstS p i wss).1 ≠ 0 → (i : Int) < (firstS p i wss).1 := by
            intro wss
            induction wss with
            | nil => intro i h; exact absurd rfl h
            | cons w wss ih =>
              intro i h
              unfold firstS at h ⊢
              split
              · rename_i hh; rw [if_pos hh] at h; exact absurd rfl h
              · rename_i hh
                rw [if_neg hh] at h
                split
                · dsimp only; omega
                · rename_i h5
                  rw [if_neg h5] at h
                  have := ih (i + 1) h
                  omega
          have := this wss (i + 1) hN
          omega
        dsimp only
        omega
      · rw [if_neg h4] at hF ⊢
        have := ih hE hF hN
        omega
end Go.Proofs.YtfchbehmeppckaaGreat

/- Chapter 38: the laws StoppingFull, StoppingLength. INTS -/
set_option linter.unusedSimpArgs false
set_option linter.unusedVariables false
namespace Go.Proofs.YtfchbehmeppckaaGreat
open Go.RowKit Lim

theorem first_e {p : PolV} {wss : List (List (List Nat))} (h : (firstR p wss).2.2 = 0) : polE p = 0 ∧ firstR p wss = firstS p 0 wss := by
  unfold firstR at h ⊢
  by_cases h1 : polE p ≠ 0
  · rw [if_pos h1] at h; exact absurd h h1
  rw [if_neg h1] at h ⊢
  by_cases h2 : 18 < wss.length
  · rw [if_pos h2] at h; cases h
  rw [if_neg h2]
  exact ⟨by omega, rfl⟩
theorem first_bad {p : PolV} {wss : List (List (List Nat))} (h : (firstR p wss).2.2 ≠ 0) : (firstR p wss).1 = 0 ∧ (firstR p wss).2.1 = 0 := by
  unfold firstR at h ⊢
  by_cases h1 : polE p ≠ 0
  · rw [if_pos h1]; exact ⟨rfl, rfl⟩
  rw [if_neg h1] at h ⊢
  by_cases h2 : 18 < wss.length
  · rw [if_pos h2]; exact ⟨rfl, rfl⟩
  rw [if_neg h2] at h ⊢
  have hp : polE p = 0 := by omega
  have := pol_len hp
  exact (first_spec hp wss 0 (by omega)).1 h
theorem full_c (p : PolV) (hp : POK p) (wss : List (List (List Nat))) (hw : W3 wss) : AC 7 [polA p, natss wss] (boo true) := by
  have hp' : POK { p with v := ⟨false, [], [1]⟩, cut := 0 } := ⟨rok_small [] [1] rfl rfl (by decide) (by decide), hp.lv, hp.rate⟩
  have F := first_c _ hp' wss hw
  have key : (firstR { p with v := ⟨false, [], [1]⟩, cut := 0 } wss).2.2 = 0 → ((wss.length : Int) < p.len → (firstR { p with v := ⟨false, [], [1]⟩, cut := 0 } wss).1 = 0 ∧ (firstR { p with v := ⟨false, [], [1]⟩, cut := 0 } wss).2.1 = 0) ∧ (¬ (wss.length : Int) < p.len → (firstR { p with v := ⟨false, [], [1]⟩, cut := 0 } wss).1 = p.len ∧ (firstR { p with v := ⟨false, [], [1]⟩, cut := 0 } wss).2.1 = 1) := fun h => by
    obtain ⟨h1, h2⟩ := first_e h
    rw [h2] at h ⊢
    exact full_spec h1 (by show pz 0 _ = 0; unfold pz; split <;> rfl) rfl wss h
  generalize firstR { p with v := ⟨false, [], [1]⟩, cut := 0 } wss = R at *
  obtain ⟨n, why, e⟩ := R
  dsimp only at key F
  refine ACalls.of ⟨8, []⟩ (fn := Tryz.f7) Tryz.func7 rfl rfl rfl (by kernel_rfl) (by kernel_rfl) (Nat.le_of_ble_eq_true rfl) ?_
  simp -implicitDefEqProofs only [Int.toNat_one, Int.reduceToNat, go_sem, awp_seq, Nat.reduceBNe, Nat.reduceBEq, Nat.reduceAdd, Nat.reduceSub, Nat.reduceMul, Nat.reduceLeDiff, Nat.reduceLT, Nat.reduceEqDiff, Nat.reduceBneDiff, Int.reduceLE, Int.reduceLT, Int.reduceToNat, Int.reduceBEq, Int.reduceBNe, Int.reduceAdd, Int.reduceSub, Int.cast_ofNat_Int]
  refine callA_mk F ?_
  by_cases h1 : e = 0
  · subst h1
    obtain ⟨k1, k2⟩ := key rfl
    by_cases h2 : (wss.length : Int) < p.len
    · have g2 : decide ((wss.length : Int) < p.len) = true := by simp [h2]
      obtain ⟨rfl, rfl⟩ := k1 h2
      simp -implicitDefEqProofs only [bne_self_eq_false, g2, List.length_map, BEq.rfl, go_sem, awp_seq, Nat.reduceBNe, Nat.reduceBEq, Nat.reduceAdd, Nat.reduceSub, Nat.reduceMul, Nat.reduceLeDiff, Nat.reduceLT, Nat.reduceEqDiff, Nat.reduceBneDiff, Int.reduceLE, Int.reduceLT, Int.reduceToNat, Int.reduceBEq, Int.reduceBNe, Int.reduceAdd, Int.reduceSub, Int.cast_ofNat_Int]
      refine callA_mk awake38_c ?_
      simp -implicitDefEqProofs only [go_sem, awp_seq, Nat.reduceBNe, Nat.reduceBEq, Nat.reduceAdd, Nat.reduceSub, Nat.reduceMul, Nat.reduceLeDiff, Nat.reduceLT, Nat.reduceEqDiff, Nat.reduceBneDiff, Int.reduceLE, Int.reduceLT, Int.reduceToNat, Int.reduceBEq, Int.reduceBNe, Int.reduceAdd, Int.reduceSub, Int.cast_ofNat_Int]
    · have g2 : decide ((wss.length : Int) < p.len) = false := by simp [h2]
      obtain ⟨rfl, rfl⟩ := k2 h2
      simp -implicitDefEqProofs only [bne_self_eq_false, g2, List.length_map, BEq.rfl, go_sem, awp_seq, Nat.reduceBNe, Nat.reduceBEq, Nat.reduceAdd, Nat.reduceSub, Nat.reduceMul, Nat.reduceLeDiff, Nat.reduceLT, Nat.reduceEqDiff, Nat.reduceBneDiff, Int.reduceLE, Int.reduceLT, Int.reduceToNat, Int.reduceBEq, Int.reduceBNe, Int.reduceAdd, Int.reduceSub, Int.cast_ofNat_Int]
      refine callA_mk awake38_c ?_
      simp -implicitDefEqProofs only [go_sem, awp_seq, Nat.reduceBNe, Nat.reduceBEq, Nat.reduceAdd, Nat.reduceSub, Nat.reduceMul, Nat.reduceLeDiff, Nat.reduceLT, Nat.reduceEqDiff, Nat.reduceBneDiff, Int.reduceLE, Int.reduceLT, Int.reduceToNat, Int.reduceBEq, Int.reduceBNe, Int.reduceAdd, Int.reduceSub, Int.cast_ofNat_Int]
  · have g1 : (e != 0) = true := by simpa using h1
    simp -implicitDefEqProofs only [g1, go_sem, awp_seq, Nat.reduceBNe, Nat.reduceBEq, Nat.reduceAdd, Nat.reduceSub, Nat.reduceMul, Nat.reduceLeDiff, Nat.reduceLT, Nat.reduceEqDiff, Nat.reduceBneDiff, Int.reduceLE, Int.reduceLT, Int.reduceToNat, Int.reduceBEq, Int.reduceBNe, Int.reduceAdd, Int.reduceSub, Int.cast_ofNat_Int]
    refine callA_mk awake38_c ?_
    simp -implicitDefEqProofs only [go_sem, awp_seq, Nat.reduceBNe, Nat.reduceBEq, Nat.reduceAdd, Nat.reduceSub, Nat.reduceMul, Nat.reduceLeDiff, Nat.reduceLT, Nat.reduceEqDiff, Nat.reduceBneDiff, Int.reduceLE, Int.reduceLT, Int.reduceToNat, Int.reduceBEq, Int.reduceBNe, Int.reduceAdd, Int.reduceSub, Int.cast_ofNat_Int]
def earlyB (p : PolV) (w : List (List Nat)) (why : Int) : Bool := if why = 2 then varE p.pts p.prs w == 0 && lowB p w else decide (why = 3) && (DecE p w == 0) && DecV p w && decide (0 < p.cut)
set_option maxHeartbeats 1000000 in
theorem early_c (p : PolV) (hp : POK p) (w : List (List Nat)) (hw : WOK w) (hl : w.length < 3000000) (why : Int) (h : earlyB p w why = true) : AC 18 [polA p, nats w, i64 why] (boo true) := by
  unfold earlyB at h
  by_cases h1 : why = 2
  · subst h1
    rw [if_pos rfl] at h
    simp only [Bool.and_eq_true, beq_iff_eq] at h
    obtain ⟨h2, h3⟩ := h
    have R := evar_c p.pts p.prs w hw
    have S := rsign_c hp.v.isR
    have C := var_cmp p hp w hw h2
    rw [show varR p.pts p.prs w = ratN (rn (varN p.pts w) (varD p.pts w)) (rd (varN p.pts w) (varD p.pts w)) by unfold varR; rw [if_pos h2], h2] at R
    unfold lowB at h3
    simp only [Bool.and_eq_true] at h3
    obtain ⟨h4, h5⟩ := h3
    generalize rn (varN p.pts w) (varD p.pts w) = X at *
    generalize rd (varN p.pts w) (varD p.pts w) = Y at *
    generalize cmpZ (varN p.pts w * (pd p.v.d : Int)) (pz p.v.z p.v.d * (varD p.pts w : Int)) = cv at *
    generalize sgnI (pz p.v.z p.v.d) = sv at *
    refine ACalls.of ⟨11, []⟩ (fn := Tryz.f18) Tryz.func18 rfl rfl rfl (by kernel_rfl) (by kernel_rfl) (Nat.le_of_ble_eq_true rfl) ?_
    simp -implicitDefEqProofs only [BEq.rfl, go_sem, awp_seq, Nat.reduceBNe, Nat.reduceBEq, Nat.reduceAdd, Nat.reduceSub, Nat.reduceMul, Nat.reduceLeDiff, Nat.reduceLT, Nat.reduceEqDiff, Nat.reduceBneDiff, Int.reduceLE, Int.reduceLT, Int.reduceToNat, Int.reduceBEq, Int.reduceBNe, Int.reduceAdd, Int.reduceSub, Int.cast_ofNat_Int]
    refine callA_mk R ?_
    simp -implicitDefEqProofs only [BEq.rfl, go_sem, awp_seq, Nat.reduceBNe, Nat.reduceBEq, Nat.reduceAdd, Nat.reduceSub, Nat.reduceMul, Nat.reduceLeDiff, Nat.reduceLT, Nat.reduceEqDiff, Nat.reduceBneDiff, Int.reduceLE, Int.reduceLT, Int.reduceToNat, Int.reduceBEq, Int.reduceBNe, Int.reduceAdd, Int.reduceSub, Int.cast_ofNat_Int]
    refine callA_mk S ?_
    simp -implicitDefEqProofs only [h4, go_sem, awp_seq, Nat.reduceBNe, Nat.reduceBEq, Nat.reduceAdd, Nat.reduceSub, Nat.reduceMul, Nat.reduceLeDiff, Nat.reduceLT, Nat.reduceEqDiff, Nat.reduceBneDiff, Int.reduceLE, Int.reduceLT, Int.reduceToNat, Int.reduceBEq, Int.reduceBNe, Int.reduceAdd, Int.reduceSub, Int.cast_ofNat_Int]
    refine callA_mk C ?_
    simp -implicitDefEqProofs only [h5, go_sem, awp_seq, Nat.reduceBNe, Nat.reduceBEq, Nat.reduceAdd, Nat.reduceSub, Nat.reduceMul, Nat.reduceLeDiff, Nat.reduceLT, Nat.reduceEqDiff, Nat.reduceBneDiff, Int.reduceLE, Int.reduceLT, Int.reduceToNat, Int.reduceBEq, Int.reduceBNe, Int.reduceAdd, Int.reduceSub, Int.cast_ofNat_Int]
  · rw [if_neg h1] at h
    simp only [Bool.and_eq_true, beq_iff_eq, decide_eq_true_eq] at h
    obtain ⟨⟨⟨rfl, h2⟩, h3⟩, h4⟩ := h
    have D := Decided_c p hp w hw hl
    rw [h2, h3] at D
    have g4 : decide (0 < p.cut) = true := by simp [h4]
    refine ACalls.of ⟨11, []⟩ (fn := Tryz.f18) Tryz.func18 rfl rfl rfl (by kernel_rfl) (by kernel_rfl) (Nat.le_of_ble_eq_true rfl) ?_
    simp -implicitDefEqProofs only [go_sem, awp_seq, Nat.reduceBNe, Nat.reduceBEq, Nat.reduceAdd, Nat.reduceSub, Nat.reduceMul, Nat.reduceLeDiff, Nat.reduceLT, Nat.reduceEqDiff, Nat.reduceBneDiff, Int.reduceLE, Int.reduceLT, Int.reduceToNat, Int.reduceBEq, Int.reduceBNe, Int.reduceAdd, Int.reduceSub, Int.cast_ofNat_Int]
    refine callA_mk D ?_
    simp -implicitDefEqProofs only [BEq.rfl, g4, go_sem, awp_seq, Nat.reduceBNe, Nat.reduceBEq, Nat.reduceAdd, Nat.reduceSub, Nat.reduceMul, Nat.reduceLeDiff, Nat.reduceLT, Nat.reduceEqDiff, Nat.reduceBneDiff, Int.reduceLE, Int.reduceLT, Int.reduceToNat, Int.reduceBEq, Int.reduceBNe, Int.reduceAdd, Int.reduceSub, Int.cast_ofNat_Int]
end Go.Proofs.YtfchbehmeppckaaGreat

/- Chapter 38: the laws StoppingLength, StoppingPrecision. INTS -/
set_option linter.unusedSimpArgs false
set_option linter.unusedVariables false
namespace Go.Proofs.YtfchbehmeppckaaGreat
open Go.RowKit Lim

theorem early_ok {p : PolV} {n : Int} {w : List (List Nat)} (hp : polE p = 0) (hn : 0 ≤ n) (he : reasE p n w = 0) (h : n < p.len) (hr : reasV p n w ≠ 0) : p.min ≤ n ∧ earlyB p w (reasV p n w) = true := by
  have hv := reas_no hp hn he
  obtain ⟨h1, h2⟩ := reas_early hp hn he h hr
  refine ⟨h1, ?_⟩
  unfold earlyB
  rcases h2 with ⟨h2, h3⟩ | ⟨h2, h3, h4⟩
  · rw [h2, if_pos rfl, hv, h3]; rfl
  · have hc : p.cut ≠ 0 := fun hc => by unfold decV at h4; rw [if_pos hc] at h4; cases h4
    have hc2 := (pol_cut hp).1
    have hc3 : 0 < p.cut := by omega
    have e1 : DecE p w = 0 := by unfold DecE; rw [if_neg (by omega), h3]
    have e2 : DecV p w = true := by unfold DecV; rw [if_neg (by omega), h4]
    rw [h2, if_neg (by decide), e1, e2]
    simp [hc3]
set_option maxHeartbeats 2000000 in
theorem length_c (p : PolV) (hp : POK p) (wss : List (List (List Nat))) (hw : W3 wss) : AC 6 [polA p, natss wss] (boo true) := by
  have F := first_c p hp wss hw
  have kb := first_bad (p := p) (wss := wss)
  have ke := first_e (p := p) (wss := wss)
  have ks : polE p = 0 → _ := fun h => first_spec h wss 0 (by have := pol_len h; omega)
  by_cases h1 : (firstR p wss).2.2 = 0
  · obtain ⟨hp0, h2⟩ := ke h1
    have hlen := pol_len hp0
    obtain ⟨_, q2, q3⟩ := ks hp0
    rw [h2] at F h1
    generalize firstS p 0 wss = R at *
    obtain ⟨n, why, e⟩ := R
    dsimp only at h1 q2 q3 F
    subst h1
    by_cases h3 : n = 0
    · subst h3
      obtain ⟨rfl, hl⟩ := q2 rfl rfl
      have g1 : decide (((wss.length : Nat) : Int) < p.len) = true := by simp at hl ⊢; omega
      refine ACalls.of ⟨8, []⟩ (fn := Tryz.f6) Tryz.func6 rfl rfl rfl (by kernel_rfl) (by kernel_rfl) (Nat.le_of_ble_eq_true rfl) ?_
      simp -implicitDefEqProofs only [go_sem, awp_seq, Nat.reduceBNe, Nat.reduceBEq, Nat.reduceAdd, Nat.reduceSub, Nat.reduceMul, Nat.reduceLeDiff, Nat.reduceLT, Nat.reduceEqDiff, Nat.reduceBneDiff, Int.reduceLE, Int.reduceLT, Int.reduceToNat, Int.reduceBEq, Int.reduceBNe, Int.reduceAdd, Int.reduceSub, Int.cast_ofNat_Int]
      refine callA_mk F ?_
      simp -implicitDefEqProofs only [bne_self_eq_false, BEq.rfl, List.length_map, g1, go_sem, awp_seq, Nat.reduceBNe, Nat.reduceBEq, Nat.reduceAdd, Nat.reduceSub, Nat.reduceMul, Nat.reduceLeDiff, Nat.reduceLT, Nat.reduceEqDiff, Nat.reduceBneDiff, Int.reduceLE, Int.reduceLT, Int.reduceToNat, Int.reduceBEq, Int.reduceBNe, Int.reduceAdd, Int.reduceSub, Int.cast_ofNat_Int]
      refine callA_mk awake38_c ?_
      simp -implicitDefEqProofs only [go_sem, awp_seq, Nat.reduceBNe, Nat.reduceBEq, Nat.reduceAdd, Nat.reduceSub, Nat.reduceMul, Nat.reduceLeDiff, Nat.reduceLT, Nat.reduceEqDiff, Nat.reduceBneDiff, Int.reduceLE, Int.reduceLT, Int.reduceToNat, Int.reduceBEq, Int.reduceBNe, Int.reduceAdd, Int.reduceSub, Int.cast_ofNat_Int]
    · obtain ⟨j, w, r1, r2, r3, r4, r5, r6⟩ := q3 rfl h3
      obtain ⟨hj, hjw⟩ := List.getElem?_eq_some_iff.1 r1
      rw [show 0 + j + 1 = j + 1 by omega] at r2 r3 r4 r5 r6
      have b1 : (n == 0) = false := by simp [h3]
      have b2 : decide (n < 0) = false := by simp; omega
      have b3 : decide (p.len < n) = false := by simp; omega
      have b4 : decide (((wss.length : Nat) : Int) < n) = false := by simp; omega
      by_cases h4 : n = p.len
      · have b5 : (n == p.len) = true := by simp [h4]
        have b6 : why = 1 := by rw [r4]; exact reas_full hp0 (by omega) r5 (by omega)
        subst b6
        refine ACalls.of ⟨8, []⟩ (fn := Tryz.f6) Tryz.func6 rfl rfl rfl (by kernel_rfl) (by kernel_rfl) (Nat.le_of_ble_eq_true rfl) ?_
        simp -implicitDefEqProofs only [go_sem, awp_seq, Nat.reduceBNe, Nat.reduceBEq, Nat.reduceAdd, Nat.reduceSub, Nat.reduceMul, Nat.reduceLeDiff, Nat.reduceLT, Nat.reduceEqDiff, Nat.reduceBneDiff, Int.reduceLE, Int.reduceLT, Int.reduceToNat, Int.reduceBEq, Int.reduceBNe, Int.reduceAdd, Int.reduceSub, Int.cast_ofNat_Int]
        refine callA_mk F ?_
        simp -implicitDefEqProofs only [bne_self_eq_false, BEq.rfl, List.length_map, b1, b2, b3, b4, b5, go_sem, awp_seq, Nat.reduceBNe, Nat.reduceBEq, Nat.reduceAdd, Nat.reduceSub, Nat.reduceMul, Nat.reduceLeDiff, Nat.reduceLT, Nat.reduceEqDiff, Nat.reduceBneDiff, Int.reduceLE, Int.reduceLT, Int.reduceToNat, Int.reduceBEq, Int.reduceBNe, Int.reduceAdd, Int.reduceSub, Int.cast_ofNat_Int]
        refine callA_mk awake38_c ?_
        simp -implicitDefEqProofs only [go_sem, awp_seq, Nat.reduceBNe, Nat.reduceBEq, Nat.reduceAdd, Nat.reduceSub, Nat.reduceMul, Nat.reduceLeDiff, Nat.reduceLT, Nat.reduceEqDiff, Nat.reduceBneDiff, Int.reduceLE, Int.reduceLT, Int.reduceToNat, Int.reduceBEq, Int.reduceBNe, Int.reduceAdd, Int.reduceSub, Int.cast_ofNat_Int]
      · have b5 : (n == p.len) = false := by simp [h4]
        obtain ⟨m1, m2⟩ := early_ok hp0 (by omega) r5 (by omega) r6
        rw [← r4] at m2
        obtain ⟨hw1, hw2⟩ := hw w (List.mem_of_getElem? r1)
        have E := early_c p hp w hw1 hw2 why m2
        have b6 : decide (p.min ≤ n) = true := by simp; omega
        have w1 : IntKind.i64.wrap (n - 1) = ((j : Nat) : Int) := by rw [IntWalk.i64_in _ (by omega)]; omega
        have e1 : (wss.map (fun ws => nats ws))[j]? = some (nats w) := by simp [r1]
        refine ACalls.of ⟨8, []⟩ (fn := Tryz.f6) Tryz.func6 rfl rfl rfl (by kernel_rfl) (by kernel_rfl) (Nat.le_of_ble_eq_true rfl) ?_
        simp -implicitDefEqProofs only [go_sem, awp_seq, Nat.reduceBNe, Nat.reduceBEq, Nat.reduceAdd, Nat.reduceSub, Nat.reduceMul, Nat.reduceLeDiff, Nat.reduceLT, Nat.reduceEqDiff, Nat.reduceBneDiff, Int.reduceLE, Int.reduceLT, Int.reduceToNat, Int.reduceBEq, Int.reduceBNe, Int.reduceAdd, Int.reduceSub, Int.cast_ofNat_Int]
        refine callA_mk F ?_
        simp -implicitDefEqProofs only [bne_self_eq_false, BEq.rfl, List.length_map, b1, b2, b3, b4, b5, b6, w1, e1, Int.toNat_natCast, Int.natCast_nonneg, go_sem, awp_seq, Nat.reduceBNe, Nat.reduceBEq, Nat.reduceAdd, Nat.reduceSub, Nat.reduceMul, Nat.reduceLeDiff, Nat.reduceLT, Nat.reduceEqDiff, Nat.reduceBneDiff, Int.reduceLE, Int.reduceLT, Int.reduceToNat, Int.reduceBEq, Int.reduceBNe, Int.reduceAdd, Int.reduceSub, Int.cast_ofNat_Int]
        refine callA_mk E ?_
        simp -implicitDefEqProofs only [go_sem, awp_seq, Nat.reduceBNe, Nat.reduceBEq, Nat.reduceAdd, Nat.reduceSub, Nat.reduceMul, Nat.reduceLeDiff, Nat.reduceLT, Nat.reduceEqDiff, Nat.reduceBneDiff, Int.reduceLE, Int.reduceLT, Int.reduceToNat, Int.reduceBEq, Int.reduceBNe, Int.reduceAdd, Int.reduceSub, Int.cast_ofNat_Int]
        refine callA_mk awake38_c ?_
        simp -implicitDefEqProofs only [go_sem, awp_seq, Nat.reduceBNe, Nat.reduceBEq, Nat.reduceAdd, Nat.reduceSub, Nat.reduceMul, Nat.reduceLeDiff, Nat.reduceLT, Nat.reduceEqDiff, Nat.reduceBneDiff, Int.reduceLE, Int.reduceLT, Int.reduceToNat, Int.reduceBEq, Int.reduceBNe, Int.reduceAdd, Int.reduceSub, Int.cast_ofNat_Int]
  · obtain ⟨h2, h3⟩ := kb h1
    generalize firstR p wss = R at *
    obtain ⟨n, why, e⟩ := R
    dsimp only at h1 h2 h3 F
    subst h2 h3
    have g1 : (e != 0) = true := by simpa using h1
    refine ACalls.of ⟨8, []⟩ (fn := Tryz.f6) Tryz.func6 rfl rfl rfl (by kernel_rfl) (by kernel_rfl) (Nat.le_of_ble_eq_true rfl) ?_
    simp -implicitDefEqProofs only [go_sem, awp_seq, Nat.reduceBNe, Nat.reduceBEq, Nat.reduceAdd, Nat.reduceSub, Nat.reduceMul, Nat.reduceLeDiff, Nat.reduceLT, Nat.reduceEqDiff, Nat.reduceBneDiff, Int.reduceLE, Int.reduceLT, Int.reduceToNat, Int.reduceBEq, Int.reduceBNe, Int.reduceAdd, Int.reduceSub, Int.cast_ofNat_Int]
    refine callA_mk F ?_
    simp -implicitDefEqProofs only [g1, BEq.rfl, go_sem, awp_seq, Nat.reduceBNe, Nat.reduceBEq, Nat.reduceAdd, Nat.reduceSub, Nat.reduceMul, Nat.reduceLeDiff, Nat.reduceLT, Nat.reduceEqDiff, Nat.reduceBneDiff, Int.reduceLE, Int.reduceLT, Int.reduceToNat, Int.reduceBEq, Int.reduceBNe, Int.reduceAdd, Int.reduceSub, Int.cast_ofNat_Int]
    refine callA_mk awake38_c ?_
    simp -implicitDefEqProofs only [go_sem, awp_seq, Nat.reduceBNe, Nat.reduceBEq, Nat.reduceAdd, Nat.reduceSub, Nat.reduceMul, Nat.reduceLeDiff, Nat.reduceLT, Nat.reduceEqDiff, Nat.reduceBneDiff, Int.reduceLE, Int.reduceLT, Int.reduceToNat, Int.reduceBEq, Int.reduceBNe, Int.reduceAdd, Int.reduceSub, Int.cast_ofNat_Int]
end Go.Proofs.YtfchbehmeppckaaGreat

/- Chapter 38: the law StoppingPrecision. INTS -/
set_option linter.unusedSimpArgs false
set_option linter.unusedVariables false
namespace Go.Proofs.YtfchbehmeppckaaGreat
open Go.RowKit Lim

theorem prec_key {p q : PolV} (wss : List (List (List Nat))) (e1 : q.pts = p.pts) (e2 : q.prs = p.prs) (e3 : q.len = p.len) (e4 : q.min = p.min) (e5 : q.cut = p.cut) (e6 : q.lv = p.lv)
    (hle : pz p.v.z p.v.d * (pd q.v.d : Int) ≤ pz q.v.z q.v.d * (pd p.v.d : Int)) (hE : (firstR p wss).2.2 = 0) (hF : (firstR q wss).2.2 = 0) (hN : (firstR p wss).1 ≠ 0) : 0 < (firstR q wss).1 ∧ (firstR q wss).1 ≤ (firstR p wss).1 := by
  obtain ⟨h1, h2⟩ := first_e hE
  obtain ⟨h3, h4⟩ := first_e hF
  rw [h2] at hE hN ⊢
  rw [h4] at hF ⊢
  exact (first_mono h1 h3 e1 e2 e3 e4 e5 e6 hle wss 0 hE hF hN).2
set_option maxHeartbeats 4000000 in
theorem precision_c (p : PolV) (hp : POK p) (o : RatV) (ho : ROK o) (wss : List (List (List Nat))) (hw : W3 wss) : AC 8 [polA p, o.a, natss wss] (boo true) := by
  have hq : POK { p with v := o } := ⟨ho, hp.lv, hp.rate⟩
  have n1 := hp.v.len
  have n2 := ho.len
  have C := rcmp_c hp.v.isR ho.isR (by omega) (by omega)
  cases c0 : decide (0 < cmpZ (pz p.v.z p.v.d * (pd o.d : Int)) (pz o.z o.d * (pd p.v.d : Int))) with
  | true =>
    have c1 := cmp_gt.1 (of_decide_eq_true c0)
    have FP := first_c ({ p with v := o }) hq wss hw
    have FQ := first_c (p) hp wss hw
    have S := rsign_c (hq).v.isR
    have key := prec_key (p := { p with v := o }) (q := p) wss rfl rfl rfl rfl rfl rfl (by exact Int.le_of_lt c1)
    generalize firstR ({ p with v := o }) wss = R1 at *
    generalize firstR (p) wss = R2 at *
    obtain ⟨n, nw, e⟩ := R1
    obtain ⟨m, mw, f⟩ := R2
    dsimp only at key FP FQ S
    generalize sgnI _ = sv at S
    refine ACalls.of ⟨14, []⟩ (fn := Tryz.f8) Tryz.func8 rfl rfl rfl (by kernel_rfl) (by kernel_rfl) (Nat.le_of_ble_eq_true rfl) ?_
    simp -implicitDefEqProofs only [go_sem, awp_seq, Nat.reduceBNe, Nat.reduceBEq, Nat.reduceAdd, Nat.reduceSub, Nat.reduceMul, Nat.reduceLeDiff, Nat.reduceLT, Nat.reduceEqDiff, Nat.reduceBneDiff, Int.reduceLE, Int.reduceLT, Int.reduceToNat, Int.reduceBEq, Int.reduceBNe, Int.reduceAdd, Int.reduceSub, Int.cast_ofNat_Int]
    refine callA_mk C ?_
    simp -implicitDefEqProofs only [c0, go_sem, awp_seq, Nat.reduceBNe, Nat.reduceBEq, Nat.reduceAdd, Nat.reduceSub, Nat.reduceMul, Nat.reduceLeDiff, Nat.reduceLT, Nat.reduceEqDiff, Nat.reduceBneDiff, Int.reduceLE, Int.reduceLT, Int.reduceToNat, Int.reduceBEq, Int.reduceBNe, Int.reduceAdd, Int.reduceSub, Int.cast_ofNat_Int]
    refine callA_mk FP ?_
    simp -implicitDefEqProofs only [go_sem, awp_seq, Nat.reduceBNe, Nat.reduceBEq, Nat.reduceAdd, Nat.reduceSub, Nat.reduceMul, Nat.reduceLeDiff, Nat.reduceLT, Nat.reduceEqDiff, Nat.reduceBneDiff, Int.reduceLE, Int.reduceLT, Int.reduceToNat, Int.reduceBEq, Int.reduceBNe, Int.reduceAdd, Int.reduceSub, Int.cast_ofNat_Int]
    refine callA_mk FQ ?_
    by_cases h1 : e = 0
    · subst h1
      by_cases h2 : f = 0
      · subst h2
        have key := key rfl rfl
        simp -implicitDefEqProofs only [bne_self_eq_false, go_sem, awp_seq, Nat.reduceBNe, Nat.reduceBEq, Nat.reduceAdd, Nat.reduceSub, Nat.reduceMul, Nat.reduceLeDiff, Nat.reduceLT, Nat.reduceEqDiff, Nat.reduceBneDiff, Int.reduceLE, Int.reduceLT, Int.reduceToNat, Int.reduceBEq, Int.reduceBNe, Int.reduceAdd, Int.reduceSub, Int.cast_ofNat_Int]
        refine callA_mk S ?_
        by_cases h3 : n = 0
        · subst h3
          cases c1 : (sv == 0) with
          | true =>
            simp -implicitDefEqProofs only [c1, BEq.rfl, go_sem, awp_seq, Nat.reduceBNe, Nat.reduceBEq, Nat.reduceAdd, Nat.reduceSub, Nat.reduceMul, Nat.reduceLeDiff, Nat.reduceLT, Nat.reduceEqDiff, Nat.reduceBneDiff, Int.reduceLE, Int.reduceLT, Int.reduceToNat, Int.reduceBEq, Int.reduceBNe, Int.reduceAdd, Int.reduceSub, Int.cast_ofNat_Int]
            refine callA_mk awake38_c ?_
            simp -implicitDefEqProofs only [go_sem, awp_seq, Nat.reduceBNe, Nat.reduceBEq, Nat.reduceAdd, Nat.reduceSub, Nat.reduceMul, Nat.reduceLeDiff, Nat.reduceLT, Nat.reduceEqDiff, Nat.reduceBneDiff, Int.reduceLE, Int.reduceLT, Int.reduceToNat, Int.reduceBEq, Int.reduceBNe, Int.reduceAdd, Int.reduceSub, Int.cast_ofNat_Int]
          | false =>
            simp -implicitDefEqProofs only [c1, BEq.rfl, go_sem, awp_seq, Nat.reduceBNe, Nat.reduceBEq, Nat.reduceAdd, Nat.reduceSub, Nat.reduceMul, Nat.reduceLeDiff, Nat.reduceLT, Nat.reduceEqDiff, Nat.reduceBneDiff, Int.reduceLE, Int.reduceLT, Int.reduceToNat, Int.reduceBEq, Int.reduceBNe, Int.reduceAdd, Int.reduceSub, Int.cast_ofNat_Int]
            refine callA_mk awake38_c ?_
            simp -implicitDefEqProofs only [go_sem, awp_seq, Nat.reduceBNe, Nat.reduceBEq, Nat.reduceAdd, Nat.reduceSub, Nat.reduceMul, Nat.reduceLeDiff, Nat.reduceLT, Nat.reduceEqDiff, Nat.reduceBneDiff, Int.reduceLE, Int.reduceLT, Int.reduceToNat, Int.reduceBEq, Int.reduceBNe, Int.reduceAdd, Int.reduceSub, Int.cast_ofNat_Int]
        · have b1 : (n == 0) = false := by simp [h3]
          obtain ⟨k1, k2⟩ := key h3
          have b2 : decide (0 < m) = true := by simp [k1]
          have b3 : decide (m ≤ n) = true := by simp [k2]
          cases c1 : (sv == 0) with
          | true =>
            simp -implicitDefEqProofs only [c1, b1, b2, b3, go_sem, awp_seq, Nat.reduceBNe, Nat.reduceBEq, Nat.reduceAdd, Nat.reduceSub, Nat.reduceMul, Nat.reduceLeDiff, Nat.reduceLT, Nat.reduceEqDiff, Nat.reduceBneDiff, Int.reduceLE, Int.reduceLT, Int.reduceToNat, Int.reduceBEq, Int.reduceBNe, Int.reduceAdd, Int.reduceSub, Int.cast_ofNat_Int]
            refine callA_mk awake38_c ?_
            simp -implicitDefEqProofs only [go_sem, awp_seq, Nat.reduceBNe, Nat.reduceBEq, Nat.reduceAdd, Nat.reduceSub, Nat.reduceMul, Nat.reduceLeDiff, Nat.reduceLT, Nat.reduceEqDiff, Nat.reduceBneDiff, Int.reduceLE, Int.reduceLT, Int.reduceToNat, Int.reduceBEq, Int.reduceBNe, Int.reduceAdd, Int.reduceSub, Int.cast_ofNat_Int]
          | false =>
            simp -implicitDefEqProofs only [c1, b1, b2, b3, go_sem, awp_seq, Nat.reduceBNe, Nat.reduceBEq, Nat.reduceAdd, Nat.reduceSub, Nat.reduceMul, Nat.reduceLeDiff, Nat.reduceLT, Nat.reduceEqDiff, Nat.reduceBneDiff, Int.reduceLE, Int.reduceLT, Int.reduceToNat, Int.reduceBEq, Int.reduceBNe, Int.reduceAdd, Int.reduceSub, Int.cast_ofNat_Int]
            refine callA_mk awake38_c ?_
            simp -implicitDefEqProofs only [go_sem, awp_seq, Nat.reduceBNe, Nat.reduceBEq, Nat.reduceAdd, Nat.reduceSub, Nat.reduceMul, Nat.reduceLeDiff, Nat.reduceLT, Nat.reduceEqDiff, Nat.reduceBneDiff, Int.reduceLE, Int.reduceLT, Int.reduceToNat, Int.reduceBEq, Int.reduceBNe, Int.reduceAdd, Int.reduceSub, Int.cast_ofNat_Int]
      · have g2 : (f != 0) = true := by simpa using h2
        simp -implicitDefEqProofs only [bne_self_eq_false, g2, go_sem, awp_seq, Nat.reduceBNe, Nat.reduceBEq, Nat.reduceAdd, Nat.reduceSub, Nat.reduceMul, Nat.reduceLeDiff, Nat.reduceLT, Nat.reduceEqDiff, Nat.reduceBneDiff, Int.reduceLE, Int.reduceLT, Int.reduceToNat, Int.reduceBEq, Int.reduceBNe, Int.reduceAdd, Int.reduceSub, Int.cast_ofNat_Int]
        refine callA_mk awake38_c ?_
        simp -implicitDefEqProofs only [go_sem, awp_seq, Nat.reduceBNe, Nat.reduceBEq, Nat.reduceAdd, Nat.reduceSub, Nat.reduceMul, Nat.reduceLeDiff, Nat.reduceLT, Nat.reduceEqDiff, Nat.reduceBneDiff, Int.reduceLE, Int.reduceLT, Int.reduceToNat, Int.reduceBEq, Int.reduceBNe, Int.reduceAdd, Int.reduceSub, Int.cast_ofNat_Int]
    · have g1 : (e != 0) = true := by simpa using h1
      simp -implicitDefEqProofs only [g1, go_sem, awp_seq, Nat.reduceBNe, Nat.reduceBEq, Nat.reduceAdd, Nat.reduceSub, Nat.reduceMul, Nat.reduceLeDiff, Nat.reduceLT, Nat.reduceEqDiff, Nat.reduceBneDiff, Int.reduceLE, Int.reduceLT, Int.reduceToNat, Int.reduceBEq, Int.reduceBNe, Int.reduceAdd, Int.reduceSub, Int.cast_ofNat_Int]
      refine callA_mk awake38_c ?_
      simp -implicitDefEqProofs only [go_sem, awp_seq, Nat.reduceBNe, Nat.reduceBEq, Nat.reduceAdd, Nat.reduceSub, Nat.reduceMul, Nat.reduceLeDiff, Nat.reduceLT, Nat.reduceEqDiff, Nat.reduceBneDiff, Int.reduceLE, Int.reduceLT, Int.reduceToNat, Int.reduceBEq, Int.reduceBNe, Int.reduceAdd, Int.reduceSub, Int.cast_ofNat_Int]
  | false =>
    have c1 : pz p.v.z p.v.d * (pd o.d : Int) ≤ pz o.z o.d * (pd p.v.d : Int) := Int.not_lt.1 fun h => of_decide_eq_false c0 (cmp_gt.2 h)
    have FP := first_c (p) hp wss hw
    have FQ := first_c ({ p with v := o }) hq wss hw
    have S := rsign_c (hp).v.isR
    have key := prec_key (p := p) (q := { p with v := o }) wss rfl rfl rfl rfl rfl rfl (by exact c1)
    generalize firstR (p) wss = R1 at *
    generalize firstR ({ p with v := o }) wss = R2 at *
    obtain ⟨n, nw, e⟩ := R1
    obtain ⟨m, mw, f⟩ := R2
    dsimp only at key FP FQ S
    generalize sgnI _ = sv at S
    refine ACalls.of ⟨14, []⟩ (fn := Tryz.f8) Tryz.func8 rfl rfl rfl (by kernel_rfl) (by kernel_rfl) (Nat.le_of_ble_eq_true rfl) ?_
    simp -implicitDefEqProofs only [go_sem, awp_seq, Nat.reduceBNe, Nat.reduceBEq, Nat.reduceAdd, Nat.reduceSub, Nat.reduceMul, Nat.reduceLeDiff, Nat.reduceLT, Nat.reduceEqDiff, Nat.reduceBneDiff, Int.reduceLE, Int.reduceLT, Int.reduceToNat, Int.reduceBEq, Int.reduceBNe, Int.reduceAdd, Int.reduceSub, Int.cast_ofNat_Int]
    refine callA_mk C ?_
    simp -implicitDefEqProofs only [c0, go_sem, awp_seq, Nat.reduceBNe, Nat.reduceBEq, Nat.reduceAdd, Nat.reduceSub, Nat.reduceMul, Nat.reduceLeDiff, Nat.reduceLT, Nat.reduceEqDiff, Nat.reduceBneDiff, Int.reduceLE, Int.reduceLT, Int.reduceToNat, Int.reduceBEq, Int.reduceBNe, Int.reduceAdd, Int.reduceSub, Int.cast_ofNat_Int]
    refine callA_mk FP ?_
    simp -implicitDefEqProofs only [go_sem, awp_seq, Nat.reduceBNe, Nat.reduceBEq, Nat.reduceAdd, Nat.reduceSub, Nat.reduceMul, Nat.reduceLeDiff, Nat.reduceLT, Nat.reduceEqDiff, Nat.reduceBneDiff, Int.reduceLE, Int.reduceLT, Int.reduceToNat, Int.reduceBEq, Int.reduceBNe, Int.reduceAdd, Int.reduceSub, Int.cast_ofNat_Int]
    refine callA_mk FQ ?_
    by_cases h1 : e = 0
    · subst h1
      by_cases h2 : f = 0
      · subst h2
        have key := key rfl rfl
        simp -implicitDefEqProofs only [bne_self_eq_false, go_sem, awp_seq, Nat.reduceBNe, Nat.reduceBEq, Nat.reduceAdd, Nat.reduceSub, Nat.reduceMul, Nat.reduceLeDiff, Nat.reduceLT, Nat.reduceEqDiff, Nat.reduceBneDiff, Int.reduceLE, Int.reduceLT, Int.reduceToNat, Int.reduceBEq, Int.reduceBNe, Int.reduceAdd, Int.reduceSub, Int.cast_ofNat_Int]
        refine callA_mk S ?_
        by_cases h3 : n = 0
        · subst h3
          cases c1 : (sv == 0) with
          | true =>
            simp -implicitDefEqProofs only [c1, BEq.rfl, go_sem, awp_seq, Nat.reduceBNe, Nat.reduceBEq, Nat.reduceAdd, Nat.reduceSub, Nat.reduceMul, Nat.reduceLeDiff, Nat.reduceLT, Nat.reduceEqDiff, Nat.reduceBneDiff, Int.reduceLE, Int.reduceLT, Int.reduceToNat, Int.reduceBEq, Int.reduceBNe, Int.reduceAdd, Int.reduceSub, Int.cast_ofNat_Int]
            refine callA_mk awake38_c ?_
            simp -implicitDefEqProofs only [go_sem, awp_seq, Nat.reduceBNe, Nat.reduceBEq, Nat.reduceAdd, Nat.reduceSub, Nat.reduceMul, Nat.reduceLeDiff, Nat.reduceLT, Nat.reduceEqDiff, Nat.reduceBneDiff, Int.reduceLE, Int.reduceLT, Int.reduceToNat, Int.reduceBEq, Int.reduceBNe, Int.reduceAdd, Int.reduceSub, Int.cast_ofNat_Int]
          | false =>
            simp -implicitDefEqProofs only [c1, BEq.rfl, go_sem, awp_seq, Nat.reduceBNe, Nat.reduceBEq, Nat.reduceAdd, Nat.reduceSub, Nat.reduceMul, Nat.reduceLeDiff, Nat.reduceLT, Nat.reduceEqDiff, Nat.reduceBneDiff, Int.reduceLE, Int.reduceLT, Int.reduceToNat, Int.reduceBEq, Int.reduceBNe, Int.reduceAdd, Int.reduceSub, Int.cast_ofNat_Int]
            refine callA_mk awake38_c ?_
            simp -implicitDefEqProofs only [go_sem, awp_seq, Nat.reduceBNe, Nat.reduceBEq, Nat.reduceAdd, Nat.reduceSub, Nat.reduceMul, Nat.reduceLeDiff, Nat.reduceLT, Nat.reduceEqDiff, Nat.reduceBneDiff, Int.reduceLE, Int.reduceLT, Int.reduceToNat, Int.reduceBEq, Int.reduceBNe, Int.reduceAdd, Int.reduceSub, Int.cast_ofNat_Int]
        · have b1 : (n == 0) = false := by simp [h3]
          obtain ⟨k1, k2⟩ := key h3
          have b2 : decide (0 < m) = true := by simp [k1]
          have b3 : decide (m ≤ n) = true := by simp [k2]
          cases c1 : (sv == 0) with
          | true =>
            simp -implicitDefEqProofs only [c1, b1, b2, b3, go_sem, awp_seq, Nat.reduceBNe, Nat.reduceBEq, Nat.reduceAdd, Nat.reduceSub, Nat.reduceMul, Nat.reduceLeDiff, Nat.reduceLT, Nat.reduceEqDiff, Nat.reduceBneDiff, Int.reduceLE, Int.reduceLT, Int.reduceToNat, Int.reduceBEq, Int.reduceBNe, Int.reduceAdd, Int.reduceSub, Int.cast_ofNat_Int]
            refine callA_mk awake38_c ?_
            simp -implicitDefEqProofs only [go_sem, awp_seq, Nat.reduceBNe, Nat.reduceBEq, Nat.reduceAdd, Nat.reduceSub, Nat.reduceMul, Nat.reduceLeDiff, Nat.reduceLT, Nat.reduceEqDiff, Nat.reduceBneDiff, Int.reduceLE, Int.reduceLT, Int.reduceToNat, Int.reduceBEq, Int.reduceBNe, Int.reduceAdd, Int.reduceSub, Int.cast_ofNat_Int]
          | false =>
            simp -implicitDefEqProofs only [c1, b1, b2, b3, go_sem, awp_seq, Nat.reduceBNe, Nat.reduceBEq, Nat.reduceAdd, Nat.reduceSub, Nat.reduceMul, Nat.reduceLeDiff, Nat.reduceLT, Nat.reduceEqDiff, Nat.reduceBneDiff, Int.reduceLE, Int.reduceLT, Int.reduceToNat, Int.reduceBEq, Int.reduceBNe, Int.reduceAdd, Int.reduceSub, Int.cast_ofNat_Int]
            refine callA_mk awake38_c ?_
            simp -implicitDefEqProofs only [go_sem, awp_seq, Nat.reduceBNe, Nat.reduceBEq, Nat.reduceAdd, Nat.reduceSub, Nat.reduceMul, Nat.reduceLeDiff, Nat.reduceLT, Nat.reduceEqDiff, Nat.reduceBneDiff, Int.reduceLE, Int.reduceLT, Int.reduceToNat, Int.reduceBEq, Int.reduceBNe, Int.reduceAdd, Int.reduceSub, Int.cast_ofNat_Int]
      · have g2 : (f != 0) = true := by simpa using h2
        simp -implicitDefEqProofs only [bne_self_eq_false, g2, go_sem, awp_seq, Nat.reduceBNe, Nat.reduceBEq, Nat.reduceAdd, Nat.reduceSub, Nat.reduceMul, Nat.reduceLeDiff, Nat.reduceLT, Nat.reduceEqDiff, Nat.reduceBneDiff, Int.reduceLE, Int.reduceLT, Int.reduceToNat, Int.reduceBEq, Int.reduceBNe, Int.reduceAdd, Int.reduceSub, Int.cast_ofNat_Int]
        refine callA_mk awake38_c ?_
        simp -implicitDefEqProofs only [go_sem, awp_seq, Nat.reduceBNe, Nat.reduceBEq, Nat.reduceAdd, Nat.reduceSub, Nat.reduceMul, Nat.reduceLeDiff, Nat.reduceLT, Nat.reduceEqDiff, Nat.reduceBneDiff, Int.reduceLE, Int.reduceLT, Int.reduceToNat, Int.reduceBEq, Int.reduceBNe, Int.reduceAdd, Int.reduceSub, Int.cast_ofNat_Int]
    · have g1 : (e != 0) = true := by simpa using h1
      simp -implicitDefEqProofs only [g1, go_sem, awp_seq, Nat.reduceBNe, Nat.reduceBEq, Nat.reduceAdd, Nat.reduceSub, Nat.reduceMul, Nat.reduceLeDiff, Nat.reduceLT, Nat.reduceEqDiff, Nat.reduceBneDiff, Int.reduceLE, Int.reduceLT, Int.reduceToNat, Int.reduceBEq, Int.reduceBNe, Int.reduceAdd, Int.reduceSub, Int.cast_ofNat_Int]
      refine callA_mk awake38_c ?_
      simp -implicitDefEqProofs only [go_sem, awp_seq, Nat.reduceBNe, Nat.reduceBEq, Nat.reduceAdd, Nat.reduceSub, Nat.reduceMul, Nat.reduceLeDiff, Nat.reduceLT, Nat.reduceEqDiff, Nat.reduceBneDiff, Int.reduceLE, Int.reduceLT, Int.reduceToNat, Int.reduceBEq, Int.reduceBNe, Int.reduceAdd, Int.reduceSub, Int.cast_ofNat_Int]
end Go.Proofs.YtfchbehmeppckaaGreat

/- Policies and weights as arguments. -/
set_option linter.unusedSimpArgs false
set_option linter.unusedVariables false
namespace Go.Proofs.YtfchbehmeppckaaGreat
open Go.RowKit Lim

section
variable {B : Nat} {cs : List AV}
theorem Ok.pair {f r : SH} (h : Ok B (.cons f r) cs) : ∃ a b, cs = a ++ b ∧ Ok B f a ∧ Ok B r b := by
  cases h with | cons h1 h2 => exact ⟨_, _, rfl, h1, h2⟩
theorem Ok.done (h : Ok B .nil cs) : cs = [] := by cases h; rfl
theorem Ok.i64 (h : Ok B (.int .i64) cs) : ∃ z : Int, cs = [Go.Proofs.YtfchbehmeppckaaGreat.i64 z] ∧ -9223372036854775808 ≤ z ∧ z ≤ 9223372036854775807 := by
  cases h with | int h => exact ⟨_, rfl, h⟩
theorem Ok.boo (h : Ok B .bool cs) : ∃ b : Bool, cs = [Go.Proofs.YtfchbehmeppckaaGreat.boo b] := by cases h; exact ⟨_, rfl⟩
theorem Ok.s (h : Ok B .str cs) : ∃ l : List UInt8, cs = [Go.Proofs.YtfchbehmeppckaaGreat.str l] ∧ l.length ≤ B := by cases h; exact ⟨_, rfl, by assumption⟩
theorem Ok.limbs (h : Ok B .nat cs) : ∃ l : List Nat, cs = [.nat l] ∧ Dig l ∧ l.length ≤ B := by cases h; exact ⟨_, rfl, by assumption, by assumption⟩
theorem Ok.row {e : SH} (h : Ok B (.sl e) cs) : ∃ xs : List (List AV), cs = [.sl e.sz (xs.map (mkEl e.sz))] ∧ xs.length ≤ B ∧ ∀ x, x ∈ xs → Ok B e x := by
  cases h; exact ⟨_, rfl, by assumption, by assumption⟩
theorem map_of {α β : Type} {f : α → β} {Q : α → Prop} : ∀ (xs : List β), (∀ x, x ∈ xs → ∃ r, x = f r ∧ Q r) → ∃ rs : List α, xs = rs.map f ∧ ∀ r ∈ rs, Q r
  | [], _ => ⟨[], rfl, fun r hr => by simp at hr⟩
  | x :: xs, h => by
    obtain ⟨r, rfl, hr⟩ := h x (by simp)
    obtain ⟨rs, rfl, hrs⟩ := map_of xs (fun y hy => h y (by simp [hy]))
    exact ⟨r :: rs, rfl, fun q hq => by
      rcases List.mem_cons.1 hq with rfl | hq
      · exact hr
      · exact hrs q hq⟩
/-- Elements of a shape, each read as a value. -/
theorem Ok.list {e : SH} {α : Type} {f : α → List AV} {Q : α → Prop} (h : Ok B (.sl e) cs) (he : ∀ x, Ok B e x → ∃ r, x = f r ∧ Q r) : ∃ rs : List α, cs = [.sl e.sz (rs.map fun r => mkEl e.sz (f r))] ∧ rs.length ≤ B ∧ ∀ r ∈ rs, Q r := by
  obtain ⟨xs, rfl, h1, h2⟩ := h.row
  obtain ⟨rs, rfl, h3⟩ := map_of xs (fun x hx => he x (h2 x hx))
  refine ⟨rs, ?_, by simpa using h1, h3⟩
  rw [List.map_map]
  rfl
abbrev shI : SH := .int .i64
abbrev shR : SH := .cons (.cons .bool (.cons .nat .nil)) (.cons .nat .nil)
abbrev shRule : SH := .cons shI (.cons shI (.cons shI (.cons shI (.cons .str .nil))))
abbrev shPol : SH := .cons (.cons shI (.cons (.sl shRule) .nil)) (.cons (.cons (.sl shI) (.cons (.sl shI) .nil)) (.cons (.sl (.cons shI (.cons shI .nil))) (.cons shI (.cons shR (.cons shI (.cons shR (.cons shI (.cons shR (.cons shI .nil)))))))))
theorem Ok.rat (h : Ok B shR cs) (hB : B ≤ 2000000) : ∃ r : RatV, cs = [Go.Proofs.YtfchbehmeppckaaGreat.boo r.t, .nat r.l, .nat r.m] ∧ ROK r := by
  obtain ⟨a, b, rfl, h1, h2⟩ := h.pair
  obtain ⟨c, d, rfl, h3, h4⟩ := h1.pair
  obtain ⟨e, f, rfl, h5, h6⟩ := h4.pair
  obtain ⟨g, i, rfl, h7, h8⟩ := h2.pair
  obtain ⟨t, rfl⟩ := h3.boo
  obtain ⟨l, rfl, k1, k2⟩ := h5.limbs
  obtain ⟨m, rfl, k3, k4⟩ := h7.limbs
  rw [h6.done, h8.done]
  exact ⟨⟨t, l, m⟩, rfl, k1, k3, by show l.length ≤ _; omega, by show m.length ≤ _; omega⟩
theorem Ok.ints (h : Ok B (.sl shI) cs) : ∃ l : List Int, cs = [Go.Proofs.YtfchbehmeppckaaGreat.ints l] ∧ l.length ≤ B ∧ ∀ z ∈ l, -9223372036854775808 ≤ z ∧ z ≤ 9223372036854775807 := by
  obtain ⟨l, rfl, h1, h2⟩ := h.list (f := fun z : Int => [Go.Proofs.YtfchbehmeppckaaGreat.i64 z]) (Q := fun z => -9223372036854775808 ≤ z ∧ z ≤ 9223372036854775807) (fun x hx => hx.i64)
  exact ⟨l, rfl, h1, h2⟩
theorem Ok.rule (h : Ok B shRule cs) : ∃ r : RuleV, cs = ruleC r ∧ r.code.length ≤ B := by
  obtain ⟨a, b, rfl, h1, h2⟩ := h.pair
  obtain ⟨c, d, rfl, h3, h4⟩ := h2.pair
  obtain ⟨e, f, rfl, h5, h6⟩ := h4.pair
  obtain ⟨g, i, rfl, h7, h8⟩ := h6.pair
  obtain ⟨j, k, rfl, h9, h10⟩ := h8.pair
  obtain ⟨z1, rfl, _⟩ := h1.i64
  obtain ⟨z2, rfl, _⟩ := h3.i64
  obtain ⟨z3, rfl, _⟩ := h5.i64
  obtain ⟨z4, rfl, _⟩ := h7.i64
  obtain ⟨s, rfl, hs⟩ := h9.s
  rw [h10.done]
  exact ⟨⟨z1, z2, z3, z4, s⟩, rfl, hs⟩
theorem Ok.rules (h : Ok B (.sl shRule) cs) : ∃ rs : List RuleV, cs = [rulesA rs] ∧ rs.length ≤ B := by
  obtain ⟨l, rfl, h1, h2⟩ := h.list (f := ruleC) (Q := fun r => r.code.length ≤ B) (fun x hx => hx.rule)
  exact ⟨l, rfl, h1⟩
theorem Ok.pairs (h : Ok B (.sl (.cons shI (.cons shI .nil))) cs) : ∃ ps : List (Int × Int), cs = [.sl 2 (ps.map pairA)] := by
  obtain ⟨l, rfl, h1, h2⟩ := h.list (f := fun p : Int × Int => [Go.Proofs.YtfchbehmeppckaaGreat.i64 p.1, Go.Proofs.YtfchbehmeppckaaGreat.i64 p.2]) (Q := fun _ => True) (fun x hx => by
    obtain ⟨a, b, rfl, h1, h2⟩ := hx.pair
    obtain ⟨c, d, rfl, h3, h4⟩ := h2.pair
    obtain ⟨z1, rfl, _⟩ := h1.i64
    obtain ⟨z2, rfl, _⟩ := h3.i64
    rw [h4.done]
    exact ⟨(z1, z2), rfl, trivial⟩)
  exact ⟨l, rfl⟩
theorem Ok.pol (h : Ok B shPol cs) (hB : B ≤ 2000000) : ∃ p : PolV, cs = polC p ∧ POK p := by
  obtain ⟨_, _, rfl, h1, h2⟩ := h.pair
  obtain ⟨_, _, rfl, g1, g2⟩ := h1.pair
  obtain ⟨_, _, rfl, g3, g4⟩ := g2.pair
  obtain ⟨len, rfl, _⟩ := g1.i64
  obtain ⟨rs, rfl, _⟩ := g3.rules
  obtain rfl := g4.done
  obtain ⟨_, _, rfl, h3, h4⟩ := h2.pair
  obtain ⟨_, _, rfl, g5, g6⟩ := h3.pair
  obtain ⟨_, _, rfl, g7, g8⟩ := g6.pair
  obtain ⟨pts, rfl, _⟩ := g5.ints
  obtain ⟨prs, rfl, _⟩ := g7.ints
  obtain rfl := g8.done
  obtain ⟨_, _, rfl, h5, h6⟩ := h4.pair
  obtain ⟨en, rfl⟩ := h5.pairs
  obtain ⟨_, _, rfl, h7, h8⟩ := h6.pair
  obtain ⟨mn, rfl, _⟩ := h7.i64
  obtain ⟨_, _, rfl, h9, h10⟩ := h8.pair
  obtain ⟨v, rfl, hv⟩ := h9.rat hB
  obtain ⟨_, _, rfl, h11, h12⟩ := h10.pair
  obtain ⟨cut, rfl, _⟩ := h11.i64
  obtain ⟨_, _, rfl, h13, h14⟩ := h12.pair
  obtain ⟨lv, rfl, hlv⟩ := h13.rat hB
  obtain ⟨_, _, rfl, h15, h16⟩ := h14.pair
  obtain ⟨top, rfl, _⟩ := h15.i64
  obtain ⟨_, _, rfl, h17, h18⟩ := h16.pair
  obtain ⟨rate, rfl, hrate⟩ := h17.rat hB
  obtain ⟨_, _, rfl, h19, h20⟩ := h18.pair
  obtain ⟨sl, rfl, _⟩ := h19.i64
  obtain rfl := h20.done
  exact ⟨⟨len, rs, pts, prs, en, mn, v, cut, lv, top, rate, sl⟩, rfl, hv, hlv, hrate⟩
theorem Ok.weights (h : Ok B (.sl .nat) cs) (hB : B ≤ 2000000) : ∃ ws : List (List Nat), cs = [nats ws] ∧ WOK ws ∧ ws.length ≤ B := by
  obtain ⟨l, rfl, h1, h2⟩ := h.list (f := fun l : List Nat => [AV.nat l]) (Q := fun l => Dig l ∧ l.length ≤ B) (fun x hx => hx.limbs)
  exact ⟨l, rfl, fun x hx => ⟨(h2 x hx).1, by have := (h2 x hx).2; omega⟩, h1⟩
end
end Go.Proofs.YtfchbehmeppckaaGreat

/- Chapter 38: content codes and rules in the reference. INTS -/
set_option linter.unusedSimpArgs false
set_option linter.unusedVariables false
namespace Go.Proofs.YtfchbehmeppckaaGreat
open Go.RowKit Lim

/-- The reference's reading of a code: what is left, the number of segments, the size of the present one. -/
def r13 : List UInt8 → Nat → Nat → Bool
  | [], sg, sz => decide (0 < sz) && decide (sg ≤ 5)
  | c :: r, sg, sz => if c.toNat = 46 then (if sz = 0 then false else r13 r (sg + 1) 0) else if okByte c = false then false else if 8 < sz + 1 then false else r13 r sg (sz + 1)
def r13V (s : List UInt8) : Bool := !(decide ((24 : Int) < (s.length : Nat))) && r13 s 1 0
set_option maxHeartbeats 1000000 in
theorem r13_c (s : List UInt8) : AT 73 [str s] (boo (r13V s)) := by
  unfold r13V
  cases c1 : decide ((24 : Int) < (s.length : Nat)) with
  | true =>
    refine ACalls.of ⟨7, []⟩ (fn := Tryz.f73) Tryz.func73 rfl rfl rfl (by kernel_rfl) (by kernel_rfl) (Nat.le_of_ble_eq_true rfl) ?_
    simp -implicitDefEqProofs only [bs_size, c1, go_sem, awp_seq, Nat.reduceBNe, Nat.reduceBEq, Nat.reduceAdd, Nat.reduceSub, Nat.reduceMul, Nat.reduceLeDiff, Nat.reduceLT, Nat.reduceEqDiff, Nat.reduceBneDiff, Int.reduceLE, Int.reduceLT, Int.reduceToNat, Int.reduceBEq, Int.reduceBNe, Int.reduceAdd, Int.reduceSub, Int.cast_ofNat_Int]
  | false =>
    have hs : s.length ≤ 24 := by simp at c1; omega
    obtain ⟨R, hR⟩ : ∃ R, R = r13 s 1 0 := ⟨_, rfl⟩
    rw [← hR]
    refine ACalls.of ⟨7, []⟩ (fn := Tryz.f73) Tryz.func73 rfl rfl rfl (by kernel_rfl) (by kernel_rfl) (Nat.le_of_ble_eq_true rfl) ?_
    simp -implicitDefEqProofs only [bs_size, c1, go_sem, awp_seq, Nat.reduceBNe, Nat.reduceBEq, Nat.reduceAdd, Nat.reduceSub, Nat.reduceMul, Nat.reduceLeDiff, Nat.reduceLT, Nat.reduceEqDiff, Nat.reduceBneDiff, Int.reduceLE, Int.reduceLT, Int.reduceToNat, Int.reduceBEq, Int.reduceBNe, Int.reduceAdd, Int.reduceSub, Int.cast_ofNat_Int]
    refine loop_mk (α := {x : Nat × Nat × Nat // x.1 ≤ s.length ∧ x.2.1 ≤ x.1 + 1 ∧ x.2.2 ≤ x.1 ∧ R = r13 (s.drop x.1) x.2.1 x.2.2}) (fun x => [(0, some (.av (str s))), (2, some (.av (boo false))), (3, some (.av (i64 (x.1.2.1 : Nat)))), (4, some (.av (i64 (x.1.2.2 : Nat)))), (5, some (.av (i64 (x.1.1 : Nat))))]) (fun _ => []) (fun _ => []) (fun x => s.length - x.1.1) ⟨(0, 1, 0), Nat.zero_le _, by simp, by simp, hR⟩ ?_ ?_
    · simp -implicitDefEqProofs only [go_sem, awp_seq, Nat.reduceBNe, Nat.reduceBEq, Nat.reduceAdd, Nat.reduceSub, Nat.reduceMul, Nat.reduceLeDiff, Nat.reduceLT, Nat.reduceEqDiff, Nat.reduceBneDiff, Int.reduceLE, Int.reduceLT, Int.reduceToNat, Int.reduceBEq, Int.reduceBNe, Int.reduceAdd, Int.reduceSub, Int.cast_ofNat_Int]
    · clear hR
      rintro ⟨⟨k, sg, sz⟩, hk, h1, h2, hR⟩
      dsimp only at hk h1 h2 hR
      by_cases hlt : k < s.length
      · have g1 : decide (((k : Nat) : Int) < (s.length : Nat)) = true := by simp; omega
        have e1 : s[k]? = some s[k] := List.getElem?_eq_getElem hlt
        have w1 : IntKind.i64.wrap ((k : Int) + 1) = ((k + 1 : Nat) : Int) := by rw [IntWalk.i64_in _ (by omega)]; omega
        have w2 : IntKind.i64.wrap ((sg : Int) + 1) = ((sg + 1 : Nat) : Int) := by rw [IntWalk.i64_in _ (by omega)]; omega
        have w3 : IntKind.i64.wrap ((sz : Int) + 1) = ((sz + 1 : Nat) : Int) := by rw [IntWalk.i64_in _ (by omega)]; omega
        rw [List.drop_eq_getElem_cons hlt] at hR
        generalize s[k] = c at *
        unfold r13 at hR
        by_cases h46 : c.toNat = 46
        · have g2 : ((c.toNat : Int) == 46) = true := by simp; omega
          rw [if_pos h46] at hR
          by_cases h0 : sz = 0
          · have g3 : (((sz : Nat) : Int) == 0) = true := by simp; omega
            rw [if_pos h0] at hR
            subst hR
            simp -implicitDefEqProofs only [bs_size, strK_bs, g1, g2, g3, e1, Int.toNat_natCast, Int.natCast_nonneg, go_sem, awp_seq, Nat.reduceBNe, Nat.reduceBEq, Nat.reduceAdd, Nat.reduceSub, Nat.reduceMul, Nat.reduceLeDiff, Nat.reduceLT, Nat.reduceEqDiff, Nat.reduceBneDiff, Int.reduceLE, Int.reduceLT, Int.reduceToNat, Int.reduceBEq, Int.reduceBNe, Int.reduceAdd, Int.reduceSub, Int.cast_ofNat_Int]
          · have g3 : (((sz : Nat) : Int) == 0) = false := by simp; omega
            rw [if_neg h0] at hR
            simp -implicitDefEqProofs only [bs_size, strK_bs, g1, g2, g3, e1, w1, w2, Int.toNat_natCast, Int.natCast_nonneg, go_sem, awp_seq, Nat.reduceBNe, Nat.reduceBEq, Nat.reduceAdd, Nat.reduceSub, Nat.reduceMul, Nat.reduceLeDiff, Nat.reduceLT, Nat.reduceEqDiff, Nat.reduceBneDiff, Int.reduceLE, Int.reduceLT, Int.reduceToNat, Int.reduceBEq, Int.reduceBNe, Int.reduceAdd, Int.reduceSub, Int.cast_ofNat_Int]
            refine roundK_mk ⟨(k + 1, sg + 1, 0), by show k + 1 ≤ _; omega, by show sg + 1 ≤ k + 1 + 1; omega, by show 0 ≤ k + 1; omega, hR⟩ ?_ (by show s.length - (k + 1) < s.length - k; omega)
            simp -implicitDefEqProofs only [go_sem, awp_seq, Nat.reduceBNe, Nat.reduceBEq, Nat.reduceAdd, Nat.reduceSub, Nat.reduceMul, Nat.reduceLeDiff, Nat.reduceLT, Nat.reduceEqDiff, Nat.reduceBneDiff, Int.reduceLE, Int.reduceLT, Int.reduceToNat, Int.reduceBEq, Int.reduceBNe, Int.reduceAdd, Int.reduceSub, Int.cast_ofNat_Int]
        · have g2 : ((c.toNat : Int) == 46) = false := by simp; omega
          rw [if_neg h46] at hR
          have fin : okByte c = true → R = (if 8 < sz + 1 then false else r13 (s.drop (k + 1)) sg (sz + 1)) := fun h => by rw [if_neg (by simp [h])] at hR; exact hR
          have bad : okByte c = false → R = false := fun h => by rw [if_pos h] at hR; exact hR
          clear hR
          cases b1 : decide ((c.toNat : Int) < 65) with
          | true =>
            cases b3 : decide ((c.toNat : Int) < 48) with
            | true =>
              have := bad (by simp [okByte, b1, b3])
              subst this
              simp -implicitDefEqProofs only [bs_size, strK_bs, g1, g2, e1, b1, b3, Int.toNat_natCast, Int.natCast_nonneg, go_sem, awp_seq, Nat.reduceBNe, Nat.reduceBEq, Nat.reduceAdd, Nat.reduceSub, Nat.reduceMul, Nat.reduceLeDiff, Nat.reduceLT, Nat.reduceEqDiff, Nat.reduceBneDiff, Int.reduceLE, Int.reduceLT, Int.reduceToNat, Int.reduceBEq, Int.reduceBNe, Int.reduceAdd, Int.reduceSub, Int.cast_ofNat_Int]
            | false =>
              cases b4 : decide ((57 : Int) < c.toNat) with
              | true =>
                have := bad (by simp [okByte, b1, b4])
                subst this
                simp -implicitDefEqProofs only [bs_size, strK_bs, g1, g2, e1, b1, b3, b4, Int.toNat_natCast, Int.natCast_nonneg, go_sem, awp_seq, Nat.reduceBNe, Nat.reduceBEq, Nat.reduceAdd, Nat.reduceSub, Nat.reduceMul, Nat.reduceLeDiff, Nat.reduceLT, Nat.reduceEqDiff, Nat.reduceBneDiff, Int.reduceLE, Int.reduceLT, Int.reduceToNat, Int.reduceBEq, Int.reduceBNe, Int.reduceAdd, Int.reduceSub, Int.cast_ofNat_Int]
              | false =>
                have hR := fin (by simp [okByte, b1, b3, b4])
                by_cases h8 : 8 < sz + 1
                · have g8 : decide ((8 : Int) < ((sz + 1 : Nat) : Int)) = true := by simp; omega
                  rw [if_pos h8] at hR
                  subst hR
                  simp -implicitDefEqProofs only [bs_size, strK_bs, g1, g2, e1, b1, b3, b4, w3, g8, Int.toNat_natCast, Int.natCast_nonneg, go_sem, awp_seq, Nat.reduceBNe, Nat.reduceBEq, Nat.reduceAdd, Nat.reduceSub, Nat.reduceMul, Nat.reduceLeDiff, Nat.reduceLT, Nat.reduceEqDiff, Nat.reduceBneDiff, Int.reduceLE, Int.reduceLT, Int.reduceToNat, Int.reduceBEq, Int.reduceBNe, Int.reduceAdd, Int.reduceSub, Int.cast_ofNat_Int]
                · have g8 : decide ((8 : Int) < ((sz + 1 : Nat) : Int)) = false := by simp; omega
                  rw [if_neg h8] at hR
                  simp -implicitDefEqProofs only [bs_size, strK_bs, g1, g2, e1, b1, b3, b4, w1, w3, g8, Int.toNat_natCast, Int.natCast_nonneg, go_sem, awp_seq, Nat.reduceBNe, Nat.reduceBEq, Nat.reduceAdd, Nat.reduceSub, Nat.reduceMul, Nat.reduceLeDiff, Nat.reduceLT, Nat.reduceEqDiff, Nat.reduceBneDiff, Int.reduceLE, Int.reduceLT, Int.reduceToNat, Int.reduceBEq, Int.reduceBNe, Int.reduceAdd, Int.reduceSub, Int.cast_ofNat_Int]
                  refine roundK_mk ⟨(k + 1, sg, sz + 1), by show k + 1 ≤ _; omega, by show sg ≤ k + 1 + 1; omega, by show sz + 1 ≤ k + 1; omega, hR⟩ ?_ (by show s.length - (k + 1) < s.length - k; omega)
                  simp -implicitDefEqProofs only [go_sem, awp_seq, Nat.reduceBNe, Nat.reduceBEq, Nat.reduceAdd, Nat.reduceSub, Nat.reduceMul, Nat.reduceLeDiff, Nat.reduceLT, Nat.reduceEqDiff, Nat.reduceBneDiff, Int.reduceLE, Int.reduceLT, Int.reduceToNat, Int.reduceBEq, Int.reduceBNe, Int.reduceAdd, Int.reduceSub, Int.cast_ofNat_Int]
          | false =>
            cases b2 : decide ((90 : Int) < c.toNat) with
            | true =>
              cases b3 : decide ((c.toNat : Int) < 48) with
              | true =>
                have := bad (by simp [okByte, b2, b3])
                subst this
                simp -implicitDefEqProofs only [bs_size, strK_bs, g1, g2, e1, b1, b2, b3, Int.toNat_natCast, Int.natCast_nonneg, go_sem, awp_seq, Nat.reduceBNe, Nat.reduceBEq, Nat.reduceAdd, Nat.reduceSub, Nat.reduceMul, Nat.reduceLeDiff, Nat.reduceLT, Nat.reduceEqDiff, Nat.reduceBneDiff, Int.reduceLE, Int.reduceLT, Int.reduceToNat, Int.reduceBEq, Int.reduceBNe, Int.reduceAdd, Int.reduceSub, Int.cast_ofNat_Int]
              | false =>
                cases b4 : decide ((57 : Int) < c.toNat) with
                | true =>
                  have := bad (by simp [okByte, b2, b4])
                  subst this
                  simp -implicitDefEqProofs only [bs_size, strK_bs, g1, g2, e1, b1, b2, b3, b4, Int.toNat_natCast, Int.natCast_nonneg, go_sem, awp_seq, Nat.reduceBNe, Nat.reduceBEq, Nat.reduceAdd, Nat.reduceSub, Nat.reduceMul, Nat.reduceLeDiff, Nat.reduceLT, Nat.reduceEqDiff, Nat.reduceBneDiff, Int.reduceLE, Int.reduceLT, Int.reduceToNat, Int.reduceBEq, Int.reduceBNe, Int.reduceAdd, Int.reduceSub, Int.cast_ofNat_Int]
                | false =>
                  have hR := fin (by simp [okByte, b1, b2, b3, b4])
                  by_cases h8 : 8 < sz + 1
                  · have g8 : decide ((8 : Int) < ((sz + 1 : Nat) : Int)) = true := by simp; omega
                    rw [if_pos h8] at hR
                    subst hR
                    simp -implicitDefEqProofs only [bs_size, strK_bs, g1, g2, e1, b1, b2, b3, b4, w3, g8, Int.toNat_natCast, Int.natCast_nonneg, go_sem, awp_seq, Nat.reduceBNe, Nat.reduceBEq, Nat.reduceAdd, Nat.reduceSub, Nat.reduceMul, Nat.reduceLeDiff, Nat.reduceLT, Nat.reduceEqDiff, Nat.reduceBneDiff, Int.reduceLE, Int.reduceLT, Int.reduceToNat, Int.reduceBEq, Int.reduceBNe, Int.reduceAdd, Int.reduceSub, Int.cast_ofNat_Int]
                  · have g8 : decide ((8 : Int) < ((sz + 1 : Nat) : Int)) = false := by simp; omega
                    rw [if_neg h8] at hR
                    simp -implicitDefEqProofs only [bs_size, strK_bs, g1, g2, e1, b1, b2, b3, b4, w1, w3, g8, Int.toNat_natCast, Int.natCast_nonneg, go_sem, awp_seq, Nat.reduceBNe, Nat.reduceBEq, Nat.reduceAdd, Nat.reduceSub, Nat.reduceMul, Nat.reduceLeDiff, Nat.reduceLT, Nat.reduceEqDiff, Nat.reduceBneDiff, Int.reduceLE, Int.reduceLT, Int.reduceToNat, Int.reduceBEq, Int.reduceBNe, Int.reduceAdd, Int.reduceSub, Int.cast_ofNat_Int]
                    refine roundK_mk ⟨(k + 1, sg, sz + 1), by show k + 1 ≤ _; omega, by show sg ≤ k + 1 + 1; omega, by show sz + 1 ≤ k + 1; omega, hR⟩ ?_ (by show s.length - (k + 1) < s.length - k; omega)
                    simp -implicitDefEqProofs only [go_sem, awp_seq, Nat.reduceBNe, Nat.reduceBEq, Nat.reduceAdd, Nat.reduceSub, Nat.reduceMul, Nat.reduceLeDiff, Nat.reduceLT, Nat.reduceEqDiff, Nat.reduceBneDiff, Int.reduceLE, Int.reduceLT, Int.reduceToNat, Int.reduceBEq, Int.reduceBNe, Int.reduceAdd, Int.reduceSub, Int.cast_ofNat_Int]
            | false =>
              have hR := fin (by simp [okByte, b1, b2])
              by_cases h8 : 8 < sz + 1
              · have g8 : decide ((8 : Int) < ((sz + 1 : Nat) : Int)) = true := by simp; omega
                rw [if_pos h8] at hR
                subst hR
                simp -implicitDefEqProofs only [bs_size, strK_bs, g1, g2, e1, b1, b2, w3, g8, Int.toNat_natCast, Int.natCast_nonneg, go_sem, awp_seq, Nat.reduceBNe, Nat.reduceBEq, Nat.reduceAdd, Nat.reduceSub, Nat.reduceMul, Nat.reduceLeDiff, Nat.reduceLT, Nat.reduceEqDiff, Nat.reduceBneDiff, Int.reduceLE, Int.reduceLT, Int.reduceToNat, Int.reduceBEq, Int.reduceBNe, Int.reduceAdd, Int.reduceSub, Int.cast_ofNat_Int]
              · have g8 : decide ((8 : Int) < ((sz + 1 : Nat) : Int)) = false := by simp; omega
                rw [if_neg h8] at hR
                simp -implicitDefEqProofs only [bs_size, strK_bs, g1, g2, e1, b1, b2, w1, w3, g8, Int.toNat_natCast, Int.natCast_nonneg, go_sem, awp_seq, Nat.reduceBNe, Nat.reduceBEq, Nat.reduceAdd, Nat.reduceSub, Nat.reduceMul, Nat.reduceLeDiff, Nat.reduceLT, Nat.reduceEqDiff, Nat.reduceBneDiff, Int.reduceLE, Int.reduceLT, Int.reduceToNat, Int.reduceBEq, Int.reduceBNe, Int.reduceAdd, Int.reduceSub, Int.cast_ofNat_Int]
                refine roundK_mk ⟨(k + 1, sg, sz + 1), by show k + 1 ≤ _; omega, by show sg ≤ k + 1 + 1; omega, by show sz + 1 ≤ k + 1; omega, hR⟩ ?_ (by show s.length - (k + 1) < s.length - k; omega)
                simp -implicitDefEqProofs only [go_sem, awp_seq, Nat.reduceBNe, Nat.reduceBEq, Nat.reduceAdd, Nat.reduceSub, Nat.reduceMul, Nat.reduceLeDiff, Nat.reduceLT, Nat.reduceEqDiff, Nat.reduceBneDiff, Int.reduceLE, Int.reduceLT, Int.reduceToNat, Int.reduceBEq, Int.reduceBNe, Int.reduceAdd, Int.reduceSub, Int.cast_ofNat_Int]
      · have g1 : decide (((k : Nat) : Int) < (s.length : Nat)) = false := by simp; omega
        rw [List.drop_of_length_le (by omega)] at hR
        unfold r13 at hR
        subst hR
        have q1 : decide ((0 : Int) < ((sz : Nat) : Int)) = decide (0 < sz) := by simp
        have q2 : decide (((sg : Nat) : Int) ≤ 5) = decide (sg ≤ 5) := by simp; omega
        rcases Bool.eq_false_or_eq_true (decide (0 < sz)) with c3 | c3
        · simp -implicitDefEqProofs only [bs_size, g1, q1, q2, c3, go_sem, awp_seq, Nat.reduceBNe, Nat.reduceBEq, Nat.reduceAdd, Nat.reduceSub, Nat.reduceMul, Nat.reduceLeDiff, Nat.reduceLT, Nat.reduceEqDiff, Nat.reduceBneDiff, Int.reduceLE, Int.reduceLT, Int.reduceToNat, Int.reduceBEq, Int.reduceBNe, Int.reduceAdd, Int.reduceSub, Int.cast_ofNat_Int]
        · simp -implicitDefEqProofs only [bs_size, g1, q1, q2, c3, go_sem, awp_seq, Nat.reduceBNe, Nat.reduceBEq, Nat.reduceAdd, Nat.reduceSub, Nat.reduceMul, Nat.reduceLeDiff, Nat.reduceLT, Nat.reduceEqDiff, Nat.reduceBneDiff, Int.reduceLE, Int.reduceLT, Int.reduceToNat, Int.reduceBEq, Int.reduceBNe, Int.reduceAdd, Int.reduceSub, Int.cast_ofNat_Int]
theorem index_miss {s : List UInt8} (h : (46 : UInt8) ∉ s) : Lib.index s [46] = -1 := by
  induction s with
  | nil => rfl
  | cons c s ih =>
    simp only [List.mem_cons, not_or] at h
    unfold Lib.index
    have : ([46] : List UInt8).isPrefixOf (c :: s) = false := by
      simp [List.isPrefixOf]
      exact h.1
    rw [this, ih h.2]
    rfl
theorem index_at {a b : List UInt8} (h : (46 : UInt8) ∉ a) : Lib.index (a ++ 46 :: b) [46] = (a.length : Int) := by
  induction a with
  | nil =>
    rw [List.nil_append]
    unfold Lib.index
    simp [List.isPrefixOf]
  | cons c a ih =>
    simp only [List.mem_cons, not_or] at h
    rw [List.cons_append]
    unfold Lib.index
    have : ([46] : List UInt8).isPrefixOf (c :: (a ++ 46 :: b)) = false := by
      simp [List.isPrefixOf]
      exact h.1
    rw [this, ih h.2]
    have h2 : ((a.length : Int) == -1) = false := by rw [beq_eq_false_iff_ne]; omega
    simp [h2]
theorem cut_miss {s : List UInt8} (h : (46 : UInt8) ∉ s) : Lib.cut s [46] = (s, [], false) := by
  unfold Lib.cut
  rw [index_miss h]
  rfl
theorem cut_at {a b : List UInt8} (h : (46 : UInt8) ∉ a) : Lib.cut (a ++ 46 :: b) [46] = (a, b, true) := by
  unfold Lib.cut
  rw [index_at h, if_pos (by omega)]
  simp
theorem cut_cases (s : List UInt8) : ((46 : UInt8) ∉ s) ∨ ∃ a b, s = a ++ 46 :: b ∧ (46 : UInt8) ∉ a := by
  induction s with
  | nil => left; simp
  | cons c s ih =>
    by_cases hc : c = 46
    · exact .inr ⟨[], s, by rw [hc]; rfl, by simp⟩
    · rcases ih with h | ⟨a, b, rfl, h⟩
      · left; simp [h]; exact fun hq => hc hq.symm
      · exact .inr ⟨c :: a, b, rfl, by simp [h]; exact fun hq => hc hq.symm⟩
theorem cut_point (s : List UInt8) : Lib.cut (46 :: s) [46] = ([], s, true) := cut_at (a := []) (by simp)
theorem cut_cons {c : UInt8} (h : c ≠ 46) (s : List UInt8) : Lib.cut (c :: s) [46] = (c :: (Lib.cut s [46]).1, (Lib.cut s [46]).2.1, (Lib.cut s [46]).2.2) := by
  rcases cut_cases s with hs | ⟨a, b, rfl, hs⟩
  · rw [cut_miss hs, cut_miss (by simp [hs]; exact fun hq => h hq.symm)]
  · rw [cut_at hs, ← List.cons_append, cut_at (by simp [hs]; exact fun hq => h hq.symm)]
theorem r13_many : ∀ (s : List UInt8) (sg sz : Nat), 5 < sg → r13 s sg sz = false
  | [], sg, sz, h => by simp [r13]; omega
  | c :: s, sg, sz, h => by
    unfold r13
    rw [r13_many s (sg + 1) 0 (by omega), r13_many s sg (sz + 1) h]
    simp
def segH (sz : Nat) (h : List UInt8) : Bool := h.all okByte && (decide (1 ≤ sz + h.length) && decide (sz + h.length ≤ 8))
theorem segH_zero (h : List UInt8) : segH 0 h = segB h := by
  unfold segH segB
  congr 2
  · apply decide_eq_decide.2; omega
  · apply decide_eq_decide.2; omega
theorem segH_cons (sz : Nat) (c : UInt8) (h : List UInt8) : segH sz (c :: h) = (okByte c && segH (sz + 1) h) := by
  unfold segH
  have e1 : decide (1 ≤ sz + (c :: h).length) = decide (1 ≤ sz + 1 + h.length) := decide_eq_decide.2 (by simp only [List.length_cons]; omega)
  have e2 : decide (sz + (c :: h).length ≤ 8) = decide (sz + 1 + h.length ≤ 8) := decide_eq_decide.2 (by simp only [List.length_cons]; omega)
  rw [e1, e2, List.all_cons, Bool.and_assoc]
theorem point_bad {c : UInt8} (h : c.toNat = 46) : c = 46 := UInt8.toNat_inj.1 h
/-- What the segments of a code must be, behind sz bytes of the first one. -/
def segsB (r : List (List UInt8) × Bool) (sz : Nat) : Bool := r.2 && (match r.1 with | [] => false | h :: t => segH sz h && t.all segB)
theorem r13_segs : ∀ (s : List UInt8) (n sg sz : Nat), sg + n = 5 → sz ≤ 8 → r13 s sg sz = segsB (segL (n + 1) s) sz
  | [], n, sg, sz, h1, h2 => by
    have e : Lib.cut [] [46] = (([] : List UInt8), [], false) := cut_miss (by simp)
    unfold segL
    rw [e]
    have q1 : decide (sg ≤ 5) = true := by simp; omega
    have q2 : decide (sz ≤ 8) = true := by simp [h2]
    have q3 : decide (0 < sz) = decide (1 ≤ sz) := decide_eq_decide.2 (by omega)
    simp only [r13, segsB, segH, q1, q2, q3, Bool.false_eq_true, if_false, List.all_nil, List.length_nil, Nat.add_zero, Bool.and_true, Bool.true_and]
  | c :: s, n, sg, sz, h1, h2 => by
    unfold r13
    by_cases hc : c.toNat = 46
    · rw [if_pos hc, point_bad hc]
      unfold segL
      rw [cut_point]
      simp only [if_true, segsB, segH]
      by_cases h0 : sz = 0
      · rw [if_pos h0]
        simp [h0]
      · rw [if_neg h0]
        cases n with
        | zero => rw [r13_many s (sg + 1) 0 (by omega)]; simp [segL]
        | succ m =>
          rw [r13_segs s m (sg + 1) 0 (by omega) (by omega)]
          unfold segsB
          have hne : (segL (m + 1) s).1 ≠ [] := by unfold segL; split <;> simp
          cases hs : (segL (m + 1) s).1 with
          | nil => exact absurd hs hne
          | cons a t =>
            simp only [segH_zero, List.all_cons, List.all_nil, List.length_nil, Nat.add_zero, Bool.true_and]
            have : decide (1 ≤ sz) = true := by simp; omega
            have h8 : decide (sz ≤ 8) = true := by simp [h2]
            rw [this, h8]
            simp
    · rw [if_neg hc]
      have hc' : c ≠ 46 := fun h => hc (by rw [h]; rfl)
      have e : segsB (segL (n + 1) (c :: s)) sz = (segsB (segL (n + 1) s) (sz + 1) && okByte c) := by
        unfold segL
        rw [cut_cons hc']
        cases (Lib.cut s [46]).2.2 with
        | true =>
          simp only [if_true, segsB, segH_cons]
          cases okByte c <;> simp
        | false =>
          simp only [Bool.false_eq_true, if_false, segsB, segH_cons]
          cases okByte c <;> simp
      rw [e]
      cases ho : okByte c with
      | false => simp
      | true =>
        rw [if_neg (by simp), Bool.and_true]
        by_cases h8 : 8 < sz + 1
        · rw [if_pos h8]
          unfold segsB segH
          symm
          cases (segL (n + 1) s).1 with
          | nil => simp
          | cons a t =>
            have : decide (sz + 1 + a.length ≤ 8) = false := by simp; omega
            simp [this]
        · rw [if_neg h8]
          exact r13_segs s n sg (sz + 1) h1 (by omega)
theorem content_r13 (s : List UInt8) : contentB s = r13V s := by
  unfold contentB r13V
  rw [r13_segs s 4 1 0 (by omega) (by omega)]
  unfold segsB
  have hne : (segL 5 s).1 ≠ [] := by unfold segL; split <;> simp
  cases hs : (segL 5 s).1 with
  | nil => exact absurd hs hne
  | cons a t => simp only [List.all_cons, segH_zero]
end Go.Proofs.YtfchbehmeppckaaGreat

/- Chapter 38: the rules of a specification in the reference. INTS -/
set_option linter.unusedSimpArgs false
set_option linter.unusedVariables false
namespace Go.Proofs.YtfchbehmeppckaaGreat
open Go.RowKit Lim

def withinB (n lo hi : Int) : Bool := decide (lo ≤ n) && decide (n ≤ hi)
theorem within33_c (n lo hi : Int) : AT 44 [i64 n, i64 lo, i64 hi] (boo (withinB n lo hi)) := by
  unfold withinB
  cases c1 : decide (lo ≤ n) with
  | true =>
    refine ACalls.of ⟨7, []⟩ (fn := Tryz.f44) Tryz.func44 rfl rfl rfl (by kernel_rfl) (by kernel_rfl) (Nat.le_of_ble_eq_true rfl) ?_
    simp -implicitDefEqProofs only [c1, go_sem, awp_seq, Nat.reduceBNe, Nat.reduceBEq, Nat.reduceAdd, Nat.reduceSub, Nat.reduceMul, Nat.reduceLeDiff, Nat.reduceLT, Nat.reduceEqDiff, Nat.reduceBneDiff, Int.reduceLE, Int.reduceLT, Int.reduceToNat, Int.reduceBEq, Int.reduceBNe, Int.reduceAdd, Int.reduceSub, Int.cast_ofNat_Int]
  | false =>
    refine ACalls.of ⟨7, []⟩ (fn := Tryz.f44) Tryz.func44 rfl rfl rfl (by kernel_rfl) (by kernel_rfl) (Nat.le_of_ble_eq_true rfl) ?_
    simp -implicitDefEqProofs only [c1, go_sem, awp_seq, Nat.reduceBNe, Nat.reduceBEq, Nat.reduceAdd, Nat.reduceSub, Nat.reduceMul, Nat.reduceLeDiff, Nat.reduceLT, Nat.reduceEqDiff, Nat.reduceBneDiff, Int.reduceLE, Int.reduceLT, Int.reduceToNat, Int.reduceBEq, Int.reduceBNe, Int.reduceAdd, Int.reduceSub, Int.cast_ofNat_Int]
theorem uses1 : AT 72 [i64 1] (.tup [boo true, boo false, boo true, boo true]) := by
  refine ACalls.of ⟨18, []⟩ (fn := Tryz.f72) Tryz.func72 rfl rfl rfl (by kernel_rfl) (by kernel_rfl) (Nat.le_of_ble_eq_true rfl) ?_
  simp -implicitDefEqProofs only [go_sem, awp_seq, Nat.reduceBNe, Nat.reduceBEq, Nat.reduceAdd, Nat.reduceSub, Nat.reduceMul, Nat.reduceLeDiff, Nat.reduceLT, Nat.reduceEqDiff, Nat.reduceBneDiff, Int.reduceLE, Int.reduceLT, Int.reduceToNat, Int.reduceBEq, Int.reduceBNe, Int.reduceAdd, Int.reduceSub, Int.cast_ofNat_Int]
theorem uses2 : AT 72 [i64 2] (.tup [boo false, boo false, boo false, boo true]) := by
  refine ACalls.of ⟨18, []⟩ (fn := Tryz.f72) Tryz.func72 rfl rfl rfl (by kernel_rfl) (by kernel_rfl) (Nat.le_of_ble_eq_true rfl) ?_
  simp -implicitDefEqProofs only [go_sem, awp_seq, Nat.reduceBNe, Nat.reduceBEq, Nat.reduceAdd, Nat.reduceSub, Nat.reduceMul, Nat.reduceLeDiff, Nat.reduceLT, Nat.reduceEqDiff, Nat.reduceBneDiff, Int.reduceLE, Int.reduceLT, Int.reduceToNat, Int.reduceBEq, Int.reduceBNe, Int.reduceAdd, Int.reduceSub, Int.cast_ofNat_Int]
theorem uses3 : AT 72 [i64 3] (.tup [boo false, boo false, boo false, boo true]) := by
  refine ACalls.of ⟨18, []⟩ (fn := Tryz.f72) Tryz.func72 rfl rfl rfl (by kernel_rfl) (by kernel_rfl) (Nat.le_of_ble_eq_true rfl) ?_
  simp -implicitDefEqProofs only [go_sem, awp_seq, Nat.reduceBNe, Nat.reduceBEq, Nat.reduceAdd, Nat.reduceSub, Nat.reduceMul, Nat.reduceLeDiff, Nat.reduceLT, Nat.reduceEqDiff, Nat.reduceBneDiff, Int.reduceLE, Int.reduceLT, Int.reduceToNat, Int.reduceBEq, Int.reduceBNe, Int.reduceAdd, Int.reduceSub, Int.cast_ofNat_Int]
theorem uses4 : AT 72 [i64 4] (.tup [boo false, boo false, boo true, boo true]) := by
  refine ACalls.of ⟨18, []⟩ (fn := Tryz.f72) Tryz.func72 rfl rfl rfl (by kernel_rfl) (by kernel_rfl) (Nat.le_of_ble_eq_true rfl) ?_
  simp -implicitDefEqProofs only [go_sem, awp_seq, Nat.reduceBNe, Nat.reduceBEq, Nat.reduceAdd, Nat.reduceSub, Nat.reduceMul, Nat.reduceLeDiff, Nat.reduceLT, Nat.reduceEqDiff, Nat.reduceBneDiff, Int.reduceLE, Int.reduceLT, Int.reduceToNat, Int.reduceBEq, Int.reduceBNe, Int.reduceAdd, Int.reduceSub, Int.cast_ofNat_Int]
theorem uses5 : AT 72 [i64 5] (.tup [boo false, boo true, boo true, boo true]) := by
  refine ACalls.of ⟨18, []⟩ (fn := Tryz.f72) Tryz.func72 rfl rfl rfl (by kernel_rfl) (by kernel_rfl) (Nat.le_of_ble_eq_true rfl) ?_
  simp -implicitDefEqProofs only [go_sem, awp_seq, Nat.reduceBNe, Nat.reduceBEq, Nat.reduceAdd, Nat.reduceSub, Nat.reduceMul, Nat.reduceLeDiff, Nat.reduceLT, Nat.reduceEqDiff, Nat.reduceBneDiff, Int.reduceLE, Int.reduceLT, Int.reduceToNat, Int.reduceBEq, Int.reduceBNe, Int.reduceAdd, Int.reduceSub, Int.cast_ofNat_Int]
theorem uses6 : AT 72 [i64 6] (.tup [boo false, boo true, boo true, boo true]) := by
  refine ACalls.of ⟨18, []⟩ (fn := Tryz.f72) Tryz.func72 rfl rfl rfl (by kernel_rfl) (by kernel_rfl) (Nat.le_of_ble_eq_true rfl) ?_
  simp -implicitDefEqProofs only [go_sem, awp_seq, Nat.reduceBNe, Nat.reduceBEq, Nat.reduceAdd, Nat.reduceSub, Nat.reduceMul, Nat.reduceLeDiff, Nat.reduceLT, Nat.reduceEqDiff, Nat.reduceBneDiff, Int.reduceLE, Int.reduceLT, Int.reduceToNat, Int.reduceBEq, Int.reduceBNe, Int.reduceAdd, Int.reduceSub, Int.cast_ofNat_Int]
theorem uses7 : AT 72 [i64 7] (.tup [boo false, boo true, boo false, boo false]) := by
  refine ACalls.of ⟨18, []⟩ (fn := Tryz.f72) Tryz.func72 rfl rfl rfl (by kernel_rfl) (by kernel_rfl) (Nat.le_of_ble_eq_true rfl) ?_
  simp -implicitDefEqProofs only [go_sem, awp_seq, Nat.reduceBNe, Nat.reduceBEq, Nat.reduceAdd, Nat.reduceSub, Nat.reduceMul, Nat.reduceLeDiff, Nat.reduceLT, Nat.reduceEqDiff, Nat.reduceBneDiff, Int.reduceLE, Int.reduceLT, Int.reduceToNat, Int.reduceBEq, Int.reduceBNe, Int.reduceAdd, Int.reduceSub, Int.cast_ofNat_Int]
theorem uses8 : AT 72 [i64 8] (.tup [boo false, boo true, boo false, boo false]) := by
  refine ACalls.of ⟨18, []⟩ (fn := Tryz.f72) Tryz.func72 rfl rfl rfl (by kernel_rfl) (by kernel_rfl) (Nat.le_of_ble_eq_true rfl) ?_
  simp -implicitDefEqProofs only [go_sem, awp_seq, Nat.reduceBNe, Nat.reduceBEq, Nat.reduceAdd, Nat.reduceSub, Nat.reduceMul, Nat.reduceLeDiff, Nat.reduceLT, Nat.reduceEqDiff, Nat.reduceBneDiff, Int.reduceLE, Int.reduceLT, Int.reduceToNat, Int.reduceBEq, Int.reduceBNe, Int.reduceAdd, Int.reduceSub, Int.cast_ofNat_Int]
theorem uses9 : AT 72 [i64 9] (.tup [boo false, boo false, boo false, boo false]) := by
  refine ACalls.of ⟨18, []⟩ (fn := Tryz.f72) Tryz.func72 rfl rfl rfl (by kernel_rfl) (by kernel_rfl) (Nat.le_of_ble_eq_true rfl) ?_
  simp -implicitDefEqProofs only [go_sem, awp_seq, Nat.reduceBNe, Nat.reduceBEq, Nat.reduceAdd, Nat.reduceSub, Nat.reduceMul, Nat.reduceLeDiff, Nat.reduceLT, Nat.reduceEqDiff, Nat.reduceBneDiff, Int.reduceLE, Int.reduceLT, Int.reduceToNat, Int.reduceBEq, Int.reduceBNe, Int.reduceAdd, Int.reduceSub, Int.cast_ofNat_Int]
def r33E1 (n lo hi : Int) (code : List UInt8) : Int := bif (n != 0) then 1 else bif !(r13V code) then 2 else bif !(withinB lo 0 9999999) then 3 else bif !(withinB hi 0 9999999) then 3 else bif decide (hi < lo) then 23 else 0
set_option maxRecDepth 10000 in
set_option maxHeartbeats 2000000 in
theorem rule1_c (n lo hi : Int) (code : List UInt8) : AT 45 [ruleA ⟨1, n, lo, hi, code⟩] (i64 (r33E1 n lo hi code)) := by
  unfold r33E1
  have W0 := within33_c 1 1 9
  rw [show withinB 1 1 9 = true from rfl] at W0
  have C1 := r13_c code
  have C2 := within33_c lo 0 9999999
  have C3 := within33_c hi 0 9999999
  generalize r13V code = q1 at *
  generalize withinB lo 0 9999999 = q2 at *
  generalize withinB hi 0 9999999 = q3 at *
  refine ACalls.of ⟨8, []⟩ (fn := Tryz.f45) Tryz.func45 rfl rfl rfl (by kernel_rfl) (by kernel_rfl) (Nat.le_of_ble_eq_true rfl) ?_
  simp -implicitDefEqProofs only [go_sem, awp_seq, Nat.reduceBNe, Nat.reduceBEq, Nat.reduceAdd, Nat.reduceSub, Nat.reduceMul, Nat.reduceLeDiff, Nat.reduceLT, Nat.reduceEqDiff, Nat.reduceBneDiff, Int.reduceLE, Int.reduceLT, Int.reduceToNat, Int.reduceBEq, Int.reduceBNe, Int.reduceAdd, Int.reduceSub, Int.cast_ofNat_Int]
  refine callA_tt W0 ?_
  simp -implicitDefEqProofs only [go_sem, awp_seq, Nat.reduceBNe, Nat.reduceBEq, Nat.reduceAdd, Nat.reduceSub, Nat.reduceMul, Nat.reduceLeDiff, Nat.reduceLT, Nat.reduceEqDiff, Nat.reduceBneDiff, Int.reduceLE, Int.reduceLT, Int.reduceToNat, Int.reduceBEq, Int.reduceBNe, Int.reduceAdd, Int.reduceSub, Int.cast_ofNat_Int]
  refine callA_tt uses1 ?_
  simp -implicitDefEqProofs only [mk_bs, toList_bs, seq_nil, go_sem, awp_seq, Nat.reduceBNe, Nat.reduceBEq, Nat.reduceAdd, Nat.reduceSub, Nat.reduceMul, Nat.reduceLeDiff, Nat.reduceLT, Nat.reduceEqDiff, Nat.reduceBneDiff, Int.reduceLE, Int.reduceLT, Int.reduceToNat, Int.reduceBEq, Int.reduceBNe, Int.reduceAdd, Int.reduceSub, Int.cast_ofNat_Int]
  cases c0 : (n != 0) with
  | true => simp -implicitDefEqProofs only [c0, go_sem, awp_seq, Nat.reduceBNe, Nat.reduceBEq, Nat.reduceAdd, Nat.reduceSub, Nat.reduceMul, Nat.reduceLeDiff, Nat.reduceLT, Nat.reduceEqDiff, Nat.reduceBneDiff, Int.reduceLE, Int.reduceLT, Int.reduceToNat, Int.reduceBEq, Int.reduceBNe, Int.reduceAdd, Int.reduceSub, Int.cast_ofNat_Int]
  | false =>
  simp -implicitDefEqProofs only [c0, go_sem, awp_seq, Nat.reduceBNe, Nat.reduceBEq, Nat.reduceAdd, Nat.reduceSub, Nat.reduceMul, Nat.reduceLeDiff, Nat.reduceLT, Nat.reduceEqDiff, Nat.reduceBneDiff, Int.reduceLE, Int.reduceLT, Int.reduceToNat, Int.reduceBEq, Int.reduceBNe, Int.reduceAdd, Int.reduceSub, Int.cast_ofNat_Int]
  refine callA_tt C1 ?_
  cases q1 with
  | false => simp -implicitDefEqProofs only [go_sem, awp_seq, Nat.reduceBNe, Nat.reduceBEq, Nat.reduceAdd, Nat.reduceSub, Nat.reduceMul, Nat.reduceLeDiff, Nat.reduceLT, Nat.reduceEqDiff, Nat.reduceBneDiff, Int.reduceLE, Int.reduceLT, Int.reduceToNat, Int.reduceBEq, Int.reduceBNe, Int.reduceAdd, Int.reduceSub, Int.cast_ofNat_Int]
  | true =>
  simp -implicitDefEqProofs only [go_sem, awp_seq, Nat.reduceBNe, Nat.reduceBEq, Nat.reduceAdd, Nat.reduceSub, Nat.reduceMul, Nat.reduceLeDiff, Nat.reduceLT, Nat.reduceEqDiff, Nat.reduceBneDiff, Int.reduceLE, Int.reduceLT, Int.reduceToNat, Int.reduceBEq, Int.reduceBNe, Int.reduceAdd, Int.reduceSub, Int.cast_ofNat_Int]
  refine callA_tt C2 ?_
  cases q2 with
  | false => simp -implicitDefEqProofs only [go_sem, awp_seq, Nat.reduceBNe, Nat.reduceBEq, Nat.reduceAdd, Nat.reduceSub, Nat.reduceMul, Nat.reduceLeDiff, Nat.reduceLT, Nat.reduceEqDiff, Nat.reduceBneDiff, Int.reduceLE, Int.reduceLT, Int.reduceToNat, Int.reduceBEq, Int.reduceBNe, Int.reduceAdd, Int.reduceSub, Int.cast_ofNat_Int]
  | true =>
  simp -implicitDefEqProofs only [go_sem, awp_seq, Nat.reduceBNe, Nat.reduceBEq, Nat.reduceAdd, Nat.reduceSub, Nat.reduceMul, Nat.reduceLeDiff, Nat.reduceLT, Nat.reduceEqDiff, Nat.reduceBneDiff, Int.reduceLE, Int.reduceLT, Int.reduceToNat, Int.reduceBEq, Int.reduceBNe, Int.reduceAdd, Int.reduceSub, Int.cast_ofNat_Int]
  refine callA_tt C3 ?_
  cases q3 with
  | false => simp -implicitDefEqProofs only [go_sem, awp_seq, Nat.reduceBNe, Nat.reduceBEq, Nat.reduceAdd, Nat.reduceSub, Nat.reduceMul, Nat.reduceLeDiff, Nat.reduceLT, Nat.reduceEqDiff, Nat.reduceBneDiff, Int.reduceLE, Int.reduceLT, Int.reduceToNat, Int.reduceBEq, Int.reduceBNe, Int.reduceAdd, Int.reduceSub, Int.cast_ofNat_Int]
  | true =>
  simp -implicitDefEqProofs only [go_sem, awp_seq, Nat.reduceBNe, Nat.reduceBEq, Nat.reduceAdd, Nat.reduceSub, Nat.reduceMul, Nat.reduceLeDiff, Nat.reduceLT, Nat.reduceEqDiff, Nat.reduceBneDiff, Int.reduceLE, Int.reduceLT, Int.reduceToNat, Int.reduceBEq, Int.reduceBNe, Int.reduceAdd, Int.reduceSub, Int.cast_ofNat_Int]
  cases c4 : decide (hi < lo) with
  | true => simp -implicitDefEqProofs only [c4, go_sem, awp_seq, Nat.reduceBNe, Nat.reduceBEq, Nat.reduceAdd, Nat.reduceSub, Nat.reduceMul, Nat.reduceLeDiff, Nat.reduceLT, Nat.reduceEqDiff, Nat.reduceBneDiff, Int.reduceLE, Int.reduceLT, Int.reduceToNat, Int.reduceBEq, Int.reduceBNe, Int.reduceAdd, Int.reduceSub, Int.cast_ofNat_Int]
  | false => simp -implicitDefEqProofs only [c4, go_sem, awp_seq, Nat.reduceBNe, Nat.reduceBEq, Nat.reduceAdd, Nat.reduceSub, Nat.reduceMul, Nat.reduceLeDiff, Nat.reduceLT, Nat.reduceEqDiff, Nat.reduceBneDiff, Int.reduceLE, Int.reduceLT, Int.reduceToNat, Int.reduceBEq, Int.reduceBNe, Int.reduceAdd, Int.reduceSub, Int.cast_ofNat_Int]
def r33E2 (n lo hi : Int) (code : List UInt8) : Int := bif !(code.isEmpty) then 1 else bif (n != 0) then 1 else bif (lo != 0) then 1 else bif !(withinB lo 0 9999999) then 3 else bif !(withinB hi 0 9999999) then 3 else bif decide (hi < lo) then 23 else 0
set_option maxRecDepth 10000 in
set_option maxHeartbeats 2000000 in
theorem rule2_c (n lo hi : Int) (code : List UInt8) : AT 45 [ruleA ⟨2, n, lo, hi, code⟩] (i64 (r33E2 n lo hi code)) := by
  unfold r33E2
  have W0 := within33_c 2 1 9
  rw [show withinB 2 1 9 = true from rfl] at W0
  have C3 := within33_c lo 0 9999999
  have C4 := within33_c hi 0 9999999
  generalize withinB lo 0 9999999 = q3 at *
  generalize withinB hi 0 9999999 = q4 at *
  refine ACalls.of ⟨8, []⟩ (fn := Tryz.f45) Tryz.func45 rfl rfl rfl (by kernel_rfl) (by kernel_rfl) (Nat.le_of_ble_eq_true rfl) ?_
  simp -implicitDefEqProofs only [go_sem, awp_seq, Nat.reduceBNe, Nat.reduceBEq, Nat.reduceAdd, Nat.reduceSub, Nat.reduceMul, Nat.reduceLeDiff, Nat.reduceLT, Nat.reduceEqDiff, Nat.reduceBneDiff, Int.reduceLE, Int.reduceLT, Int.reduceToNat, Int.reduceBEq, Int.reduceBNe, Int.reduceAdd, Int.reduceSub, Int.cast_ofNat_Int]
  refine callA_tt W0 ?_
  simp -implicitDefEqProofs only [go_sem, awp_seq, Nat.reduceBNe, Nat.reduceBEq, Nat.reduceAdd, Nat.reduceSub, Nat.reduceMul, Nat.reduceLeDiff, Nat.reduceLT, Nat.reduceEqDiff, Nat.reduceBneDiff, Int.reduceLE, Int.reduceLT, Int.reduceToNat, Int.reduceBEq, Int.reduceBNe, Int.reduceAdd, Int.reduceSub, Int.cast_ofNat_Int]
  refine callA_tt uses2 ?_
  simp -implicitDefEqProofs only [mk_bs, toList_bs, seq_nil, go_sem, awp_seq, Nat.reduceBNe, Nat.reduceBEq, Nat.reduceAdd, Nat.reduceSub, Nat.reduceMul, Nat.reduceLeDiff, Nat.reduceLT, Nat.reduceEqDiff, Nat.reduceBneDiff, Int.reduceLE, Int.reduceLT, Int.reduceToNat, Int.reduceBEq, Int.reduceBNe, Int.reduceAdd, Int.reduceSub, Int.cast_ofNat_Int]
  cases c0 : code.isEmpty with
  | false => simp -implicitDefEqProofs only [c0, go_sem, awp_seq, Nat.reduceBNe, Nat.reduceBEq, Nat.reduceAdd, Nat.reduceSub, Nat.reduceMul, Nat.reduceLeDiff, Nat.reduceLT, Nat.reduceEqDiff, Nat.reduceBneDiff, Int.reduceLE, Int.reduceLT, Int.reduceToNat, Int.reduceBEq, Int.reduceBNe, Int.reduceAdd, Int.reduceSub, Int.cast_ofNat_Int]
  | true =>
  simp -implicitDefEqProofs only [c0, go_sem, awp_seq, Nat.reduceBNe, Nat.reduceBEq, Nat.reduceAdd, Nat.reduceSub, Nat.reduceMul, Nat.reduceLeDiff, Nat.reduceLT, Nat.reduceEqDiff, Nat.reduceBneDiff, Int.reduceLE, Int.reduceLT, Int.reduceToNat, Int.reduceBEq, Int.reduceBNe, Int.reduceAdd, Int.reduceSub, Int.cast_ofNat_Int]
  cases c1 : (n != 0) with
  | true => simp -implicitDefEqProofs only [c1, go_sem, awp_seq, Nat.reduceBNe, Nat.reduceBEq, Nat.reduceAdd, Nat.reduceSub, Nat.reduceMul, Nat.reduceLeDiff, Nat.reduceLT, Nat.reduceEqDiff, Nat.reduceBneDiff, Int.reduceLE, Int.reduceLT, Int.reduceToNat, Int.reduceBEq, Int.reduceBNe, Int.reduceAdd, Int.reduceSub, Int.cast_ofNat_Int]
  | false =>
  simp -implicitDefEqProofs only [c1, go_sem, awp_seq, Nat.reduceBNe, Nat.reduceBEq, Nat.reduceAdd, Nat.reduceSub, Nat.reduceMul, Nat.reduceLeDiff, Nat.reduceLT, Nat.reduceEqDiff, Nat.reduceBneDiff, Int.reduceLE, Int.reduceLT, Int.reduceToNat, Int.reduceBEq, Int.reduceBNe, Int.reduceAdd, Int.reduceSub, Int.cast_ofNat_Int]
  cases c2 : (lo != 0) with
  | true => simp -implicitDefEqProofs only [c2, go_sem, awp_seq, Nat.reduceBNe, Nat.reduceBEq, Nat.reduceAdd, Nat.reduceSub, Nat.reduceMul, Nat.reduceLeDiff, Nat.reduceLT, Nat.reduceEqDiff, Nat.reduceBneDiff, Int.reduceLE, Int.reduceLT, Int.reduceToNat, Int.reduceBEq, Int.reduceBNe, Int.reduceAdd, Int.reduceSub, Int.cast_ofNat_Int]
  | false =>
  simp -implicitDefEqProofs only [c2, go_sem, awp_seq, Nat.reduceBNe, Nat.reduceBEq, Nat.reduceAdd, Nat.reduceSub, Nat.reduceMul, Nat.reduceLeDiff, Nat.reduceLT, Nat.reduceEqDiff, Nat.reduceBneDiff, Int.reduceLE, Int.reduceLT, Int.reduceToNat, Int.reduceBEq, Int.reduceBNe, Int.reduceAdd, Int.reduceSub, Int.cast_ofNat_Int]
  refine callA_tt C3 ?_
  cases q3 with
  | false => simp -implicitDefEqProofs only [go_sem, awp_seq, Nat.reduceBNe, Nat.reduceBEq, Nat.reduceAdd, Nat.reduceSub, Nat.reduceMul, Nat.reduceLeDiff, Nat.reduceLT, Nat.reduceEqDiff, Nat.reduceBneDiff, Int.reduceLE, Int.reduceLT, Int.reduceToNat, Int.reduceBEq, Int.reduceBNe, Int.reduceAdd, Int.reduceSub, Int.cast_ofNat_Int]
  | true =>
  simp -implicitDefEqProofs only [go_sem, awp_seq, Nat.reduceBNe, Nat.reduceBEq, Nat.reduceAdd, Nat.reduceSub, Nat.reduceMul, Nat.reduceLeDiff, Nat.reduceLT, Nat.reduceEqDiff, Nat.reduceBneDiff, Int.reduceLE, Int.reduceLT, Int.reduceToNat, Int.reduceBEq, Int.reduceBNe, Int.reduceAdd, Int.reduceSub, Int.cast_ofNat_Int]
  refine callA_tt C4 ?_
  cases q4 with
  | false => simp -implicitDefEqProofs only [go_sem, awp_seq, Nat.reduceBNe, Nat.reduceBEq, Nat.reduceAdd, Nat.reduceSub, Nat.reduceMul, Nat.reduceLeDiff, Nat.reduceLT, Nat.reduceEqDiff, Nat.reduceBneDiff, Int.reduceLE, Int.reduceLT, Int.reduceToNat, Int.reduceBEq, Int.reduceBNe, Int.reduceAdd, Int.reduceSub, Int.cast_ofNat_Int]
  | true =>
  simp -implicitDefEqProofs only [go_sem, awp_seq, Nat.reduceBNe, Nat.reduceBEq, Nat.reduceAdd, Nat.reduceSub, Nat.reduceMul, Nat.reduceLeDiff, Nat.reduceLT, Nat.reduceEqDiff, Nat.reduceBneDiff, Int.reduceLE, Int.reduceLT, Int.reduceToNat, Int.reduceBEq, Int.reduceBNe, Int.reduceAdd, Int.reduceSub, Int.cast_ofNat_Int]
  cases c5 : decide (hi < lo) with
  | true => simp -implicitDefEqProofs only [c5, go_sem, awp_seq, Nat.reduceBNe, Nat.reduceBEq, Nat.reduceAdd, Nat.reduceSub, Nat.reduceMul, Nat.reduceLeDiff, Nat.reduceLT, Nat.reduceEqDiff, Nat.reduceBneDiff, Int.reduceLE, Int.reduceLT, Int.reduceToNat, Int.reduceBEq, Int.reduceBNe, Int.reduceAdd, Int.reduceSub, Int.cast_ofNat_Int]
  | false => simp -implicitDefEqProofs only [c5, go_sem, awp_seq, Nat.reduceBNe, Nat.reduceBEq, Nat.reduceAdd, Nat.reduceSub, Nat.reduceMul, Nat.reduceLeDiff, Nat.reduceLT, Nat.reduceEqDiff, Nat.reduceBneDiff, Int.reduceLE, Int.reduceLT, Int.reduceToNat, Int.reduceBEq, Int.reduceBNe, Int.reduceAdd, Int.reduceSub, Int.cast_ofNat_Int]
def r33E3 (n lo hi : Int) (code : List UInt8) : Int := bif !(code.isEmpty) then 1 else bif (n != 0) then 1 else bif (lo != 0) then 1 else bif !(withinB lo 0 9999999) then 3 else bif !(withinB hi 0 9999999) then 3 else bif decide (hi < lo) then 23 else 0
set_option maxRecDepth 10000 in
set_option maxHeartbeats 2000000 in
theorem rule3_c (n lo hi : Int) (code : List UInt8) : AT 45 [ruleA ⟨3, n, lo, hi, code⟩] (i64 (r33E3 n lo hi code)) := by
  unfold r33E3
  have W0 := within33_c 3 1 9
  rw [show withinB 3 1 9 = true from rfl] at W0
  have C3 := within33_c lo 0 9999999
  have C4 := within33_c hi 0 9999999
  generalize withinB lo 0 9999999 = q3 at *
  generalize withinB hi 0 9999999 = q4 at *
  refine ACalls.of ⟨8, []⟩ (fn := Tryz.f45) Tryz.func45 rfl rfl rfl (by kernel_rfl) (by kernel_rfl) (Nat.le_of_ble_eq_true rfl) ?_
  simp -implicitDefEqProofs only [go_sem, awp_seq, Nat.reduceBNe, Nat.reduceBEq, Nat.reduceAdd, Nat.reduceSub, Nat.reduceMul, Nat.reduceLeDiff, Nat.reduceLT, Nat.reduceEqDiff, Nat.reduceBneDiff, Int.reduceLE, Int.reduceLT, Int.reduceToNat, Int.reduceBEq, Int.reduceBNe, Int.reduceAdd, Int.reduceSub, Int.cast_ofNat_Int]
  refine callA_tt W0 ?_
  simp -implicitDefEqProofs only [go_sem, awp_seq, Nat.reduceBNe, Nat.reduceBEq, Nat.reduceAdd, Nat.reduceSub, Nat.reduceMul, Nat.reduceLeDiff, Nat.reduceLT, Nat.reduceEqDiff, Nat.reduceBneDiff, Int.reduceLE, Int.reduceLT, Int.reduceToNat, Int.reduceBEq, Int.reduceBNe, Int.reduceAdd, Int.reduceSub, Int.cast_ofNat_Int]
  refine callA_tt uses3 ?_
  simp -implicitDefEqProofs only [mk_bs, toList_bs, seq_nil, go_sem, awp_seq, Nat.reduceBNe, Nat.reduceBEq, Nat.reduceAdd, Nat.reduceSub, Nat.reduceMul, Nat.reduceLeDiff, Nat.reduceLT, Nat.reduceEqDiff, Nat.reduceBneDiff, Int.reduceLE, Int.reduceLT, Int.reduceToNat, Int.reduceBEq, Int.reduceBNe, Int.reduceAdd, Int.reduceSub, Int.cast_ofNat_Int]
  cases c0 : code.isEmpty with
  | false => simp -implicitDefEqProofs only [c0, go_sem, awp_seq, Nat.reduceBNe, Nat.reduceBEq, Nat.reduceAdd, Nat.reduceSub, Nat.reduceMul, Nat.reduceLeDiff, Nat.reduceLT, Nat.reduceEqDiff, Nat.reduceBneDiff, Int.reduceLE, Int.reduceLT, Int.reduceToNat, Int.reduceBEq, Int.reduceBNe, Int.reduceAdd, Int.reduceSub, Int.cast_ofNat_Int]
  | true =>
  simp -implicitDefEqProofs only [c0, go_sem, awp_seq, Nat.reduceBNe, Nat.reduceBEq, Nat.reduceAdd, Nat.reduceSub, Nat.reduceMul, Nat.reduceLeDiff, Nat.reduceLT, Nat.reduceEqDiff, Nat.reduceBneDiff, Int.reduceLE, Int.reduceLT, Int.reduceToNat, Int.reduceBEq, Int.reduceBNe, Int.reduceAdd, Int.reduceSub, Int.cast_ofNat_Int]
  cases c1 : (n != 0) with
  | true => simp -implicitDefEqProofs only [c1, go_sem, awp_seq, Nat.reduceBNe, Nat.reduceBEq, Nat.reduceAdd, Nat.reduceSub, Nat.reduceMul, Nat.reduceLeDiff, Nat.reduceLT, Nat.reduceEqDiff, Nat.reduceBneDiff, Int.reduceLE, Int.reduceLT, Int.reduceToNat, Int.reduceBEq, Int.reduceBNe, Int.reduceAdd, Int.reduceSub, Int.cast_ofNat_Int]
  | false =>
  simp -implicitDefEqProofs only [c1, go_sem, awp_seq, Nat.reduceBNe, Nat.reduceBEq, Nat.reduceAdd, Nat.reduceSub, Nat.reduceMul, Nat.reduceLeDiff, Nat.reduceLT, Nat.reduceEqDiff, Nat.reduceBneDiff, Int.reduceLE, Int.reduceLT, Int.reduceToNat, Int.reduceBEq, Int.reduceBNe, Int.reduceAdd, Int.reduceSub, Int.cast_ofNat_Int]
  cases c2 : (lo != 0) with
  | true => simp -implicitDefEqProofs only [c2, go_sem, awp_seq, Nat.reduceBNe, Nat.reduceBEq, Nat.reduceAdd, Nat.reduceSub, Nat.reduceMul, Nat.reduceLeDiff, Nat.reduceLT, Nat.reduceEqDiff, Nat.reduceBneDiff, Int.reduceLE, Int.reduceLT, Int.reduceToNat, Int.reduceBEq, Int.reduceBNe, Int.reduceAdd, Int.reduceSub, Int.cast_ofNat_Int]
  | false =>
  simp -implicitDefEqProofs only [c2, go_sem, awp_seq, Nat.reduceBNe, Nat.reduceBEq, Nat.reduceAdd, Nat.reduceSub, Nat.reduceMul, Nat.reduceLeDiff, Nat.reduceLT, Nat.reduceEqDiff, Nat.reduceBneDiff, Int.reduceLE, Int.reduceLT, Int.reduceToNat, Int.reduceBEq, Int.reduceBNe, Int.reduceAdd, Int.reduceSub, Int.cast_ofNat_Int]
  refine callA_tt C3 ?_
  cases q3 with
  | false => simp -implicitDefEqProofs only [go_sem, awp_seq, Nat.reduceBNe, Nat.reduceBEq, Nat.reduceAdd, Nat.reduceSub, Nat.reduceMul, Nat.reduceLeDiff, Nat.reduceLT, Nat.reduceEqDiff, Nat.reduceBneDiff, Int.reduceLE, Int.reduceLT, Int.reduceToNat, Int.reduceBEq, Int.reduceBNe, Int.reduceAdd, Int.reduceSub, Int.cast_ofNat_Int]
  | true =>
  simp -implicitDefEqProofs only [go_sem, awp_seq, Nat.reduceBNe, Nat.reduceBEq, Nat.reduceAdd, Nat.reduceSub, Nat.reduceMul, Nat.reduceLeDiff, Nat.reduceLT, Nat.reduceEqDiff, Nat.reduceBneDiff, Int.reduceLE, Int.reduceLT, Int.reduceToNat, Int.reduceBEq, Int.reduceBNe, Int.reduceAdd, Int.reduceSub, Int.cast_ofNat_Int]
  refine callA_tt C4 ?_
  cases q4 with
  | false => simp -implicitDefEqProofs only [go_sem, awp_seq, Nat.reduceBNe, Nat.reduceBEq, Nat.reduceAdd, Nat.reduceSub, Nat.reduceMul, Nat.reduceLeDiff, Nat.reduceLT, Nat.reduceEqDiff, Nat.reduceBneDiff, Int.reduceLE, Int.reduceLT, Int.reduceToNat, Int.reduceBEq, Int.reduceBNe, Int.reduceAdd, Int.reduceSub, Int.cast_ofNat_Int]
  | true =>
  simp -implicitDefEqProofs only [go_sem, awp_seq, Nat.reduceBNe, Nat.reduceBEq, Nat.reduceAdd, Nat.reduceSub, Nat.reduceMul, Nat.reduceLeDiff, Nat.reduceLT, Nat.reduceEqDiff, Nat.reduceBneDiff, Int.reduceLE, Int.reduceLT, Int.reduceToNat, Int.reduceBEq, Int.reduceBNe, Int.reduceAdd, Int.reduceSub, Int.cast_ofNat_Int]
  cases c5 : decide (hi < lo) with
  | true => simp -implicitDefEqProofs only [c5, go_sem, awp_seq, Nat.reduceBNe, Nat.reduceBEq, Nat.reduceAdd, Nat.reduceSub, Nat.reduceMul, Nat.reduceLeDiff, Nat.reduceLT, Nat.reduceEqDiff, Nat.reduceBneDiff, Int.reduceLE, Int.reduceLT, Int.reduceToNat, Int.reduceBEq, Int.reduceBNe, Int.reduceAdd, Int.reduceSub, Int.cast_ofNat_Int]
  | false => simp -implicitDefEqProofs only [c5, go_sem, awp_seq, Nat.reduceBNe, Nat.reduceBEq, Nat.reduceAdd, Nat.reduceSub, Nat.reduceMul, Nat.reduceLeDiff, Nat.reduceLT, Nat.reduceEqDiff, Nat.reduceBneDiff, Int.reduceLE, Int.reduceLT, Int.reduceToNat, Int.reduceBEq, Int.reduceBNe, Int.reduceAdd, Int.reduceSub, Int.cast_ofNat_Int]
def r33E4 (n lo hi : Int) (code : List UInt8) : Int := bif !(code.isEmpty) then 1 else bif (n != 0) then 1 else bif !(withinB lo 0 9999999) then 3 else bif !(withinB hi 0 9999999) then 3 else bif decide (hi < lo) then 23 else 0
set_option maxRecDepth 10000 in
set_option maxHeartbeats 2000000 in
theorem rule4_c (n lo hi : Int) (code : List UInt8) : AT 45 [ruleA ⟨4, n, lo, hi, code⟩] (i64 (r33E4 n lo hi code)) := by
  unfold r33E4
  have W0 := within33_c 4 1 9
  rw [show withinB 4 1 9 = true from rfl] at W0
  have C2 := within33_c lo 0 9999999
  have C3 := within33_c hi 0 9999999
  generalize withinB lo 0 9999999 = q2 at *
  generalize withinB hi 0 9999999 = q3 at *
  refine ACalls.of ⟨8, []⟩ (fn := Tryz.f45) Tryz.func45 rfl rfl rfl (by kernel_rfl) (by kernel_rfl) (Nat.le_of_ble_eq_true rfl) ?_
  simp -implicitDefEqProofs only [go_sem, awp_seq, Nat.reduceBNe, Nat.reduceBEq, Nat.reduceAdd, Nat.reduceSub, Nat.reduceMul, Nat.reduceLeDiff, Nat.reduceLT, Nat.reduceEqDiff, Nat.reduceBneDiff, Int.reduceLE, Int.reduceLT, Int.reduceToNat, Int.reduceBEq, Int.reduceBNe, Int.reduceAdd, Int.reduceSub, Int.cast_ofNat_Int]
  refine callA_tt W0 ?_
  simp -implicitDefEqProofs only [go_sem, awp_seq, Nat.reduceBNe, Nat.reduceBEq, Nat.reduceAdd, Nat.reduceSub, Nat.reduceMul, Nat.reduceLeDiff, Nat.reduceLT, Nat.reduceEqDiff, Nat.reduceBneDiff, Int.reduceLE, Int.reduceLT, Int.reduceToNat, Int.reduceBEq, Int.reduceBNe, Int.reduceAdd, Int.reduceSub, Int.cast_ofNat_Int]
  refine callA_tt uses4 ?_
  simp -implicitDefEqProofs only [mk_bs, toList_bs, seq_nil, go_sem, awp_seq, Nat.reduceBNe, Nat.reduceBEq, Nat.reduceAdd, Nat.reduceSub, Nat.reduceMul, Nat.reduceLeDiff, Nat.reduceLT, Nat.reduceEqDiff, Nat.reduceBneDiff, Int.reduceLE, Int.reduceLT, Int.reduceToNat, Int.reduceBEq, Int.reduceBNe, Int.reduceAdd, Int.reduceSub, Int.cast_ofNat_Int]
  cases c0 : code.isEmpty with
  | false => simp -implicitDefEqProofs only [c0, go_sem, awp_seq, Nat.reduceBNe, Nat.reduceBEq, Nat.reduceAdd, Nat.reduceSub, Nat.reduceMul, Nat.reduceLeDiff, Nat.reduceLT, Nat.reduceEqDiff, Nat.reduceBneDiff, Int.reduceLE, Int.reduceLT, Int.reduceToNat, Int.reduceBEq, Int.reduceBNe, Int.reduceAdd, Int.reduceSub, Int.cast_ofNat_Int]
  | true =>
  simp -implicitDefEqProofs only [c0, go_sem, awp_seq, Nat.reduceBNe, Nat.reduceBEq, Nat.reduceAdd, Nat.reduceSub, Nat.reduceMul, Nat.reduceLeDiff, Nat.reduceLT, Nat.reduceEqDiff, Nat.reduceBneDiff, Int.reduceLE, Int.reduceLT, Int.reduceToNat, Int.reduceBEq, Int.reduceBNe, Int.reduceAdd, Int.reduceSub, Int.cast_ofNat_Int]
  cases c1 : (n != 0) with
  | true => simp -implicitDefEqProofs only [c1, go_sem, awp_seq, Nat.reduceBNe, Nat.reduceBEq, Nat.reduceAdd, Nat.reduceSub, Nat.reduceMul, Nat.reduceLeDiff, Nat.reduceLT, Nat.reduceEqDiff, Nat.reduceBneDiff, Int.reduceLE, Int.reduceLT, Int.reduceToNat, Int.reduceBEq, Int.reduceBNe, Int.reduceAdd, Int.reduceSub, Int.cast_ofNat_Int]
  | false =>
  simp -implicitDefEqProofs only [c1, go_sem, awp_seq, Nat.reduceBNe, Nat.reduceBEq, Nat.reduceAdd, Nat.reduceSub, Nat.reduceMul, Nat.reduceLeDiff, Nat.reduceLT, Nat.reduceEqDiff, Nat.reduceBneDiff, Int.reduceLE, Int.reduceLT, Int.reduceToNat, Int.reduceBEq, Int.reduceBNe, Int.reduceAdd, Int.reduceSub, Int.cast_ofNat_Int]
  refine callA_tt C2 ?_
  cases q2 with
  | false => simp -implicitDefEqProofs only [go_sem, awp_seq, Nat.reduceBNe, Nat.reduceBEq, Nat.reduceAdd, Nat.reduceSub, Nat.reduceMul, Nat.reduceLeDiff, Nat.reduceLT, Nat.reduceEqDiff, Nat.reduceBneDiff, Int.reduceLE, Int.reduceLT, Int.reduceToNat, Int.reduceBEq, Int.reduceBNe, Int.reduceAdd, Int.reduceSub, Int.cast_ofNat_Int]
  | true =>
  simp -implicitDefEqProofs only [go_sem, awp_seq, Nat.reduceBNe, Nat.reduceBEq, Nat.reduceAdd, Nat.reduceSub, Nat.reduceMul, Nat.reduceLeDiff, Nat.reduceLT, Nat.reduceEqDiff, Nat.reduceBneDiff, Int.reduceLE, Int.reduceLT, Int.reduceToNat, Int.reduceBEq, Int.reduceBNe, Int.reduceAdd, Int.reduceSub, Int.cast_ofNat_Int]
  refine callA_tt C3 ?_
  cases q3 with
  | false => simp -implicitDefEqProofs only [go_sem, awp_seq, Nat.reduceBNe, Nat.reduceBEq, Nat.reduceAdd, Nat.reduceSub, Nat.reduceMul, Nat.reduceLeDiff, Nat.reduceLT, Nat.reduceEqDiff, Nat.reduceBneDiff, Int.reduceLE, Int.reduceLT, Int.reduceToNat, Int.reduceBEq, Int.reduceBNe, Int.reduceAdd, Int.reduceSub, Int.cast_ofNat_Int]
  | true =>
  simp -implicitDefEqProofs only [go_sem, awp_seq, Nat.reduceBNe, Nat.reduceBEq, Nat.reduceAdd, Nat.reduceSub, Nat.reduceMul, Nat.reduceLeDiff, Nat.reduceLT, Nat.reduceEqDiff, Nat.reduceBneDiff, Int.reduceLE, Int.reduceLT, Int.reduceToNat, Int.reduceBEq, Int.reduceBNe, Int.reduceAdd, Int.reduceSub, Int.cast_ofNat_Int]
  cases c4 : decide (hi < lo) with
  | true => simp -implicitDefEqProofs only [c4, go_sem, awp_seq, Nat.reduceBNe, Nat.reduceBEq, Nat.reduceAdd, Nat.reduceSub, Nat.reduceMul, Nat.reduceLeDiff, Nat.reduceLT, Nat.reduceEqDiff, Nat.reduceBneDiff, Int.reduceLE, Int.reduceLT, Int.reduceToNat, Int.reduceBEq, Int.reduceBNe, Int.reduceAdd, Int.reduceSub, Int.cast_ofNat_Int]
  | false => simp -implicitDefEqProofs only [c4, go_sem, awp_seq, Nat.reduceBNe, Nat.reduceBEq, Nat.reduceAdd, Nat.reduceSub, Nat.reduceMul, Nat.reduceLeDiff, Nat.reduceLT, Nat.reduceEqDiff, Nat.reduceBneDiff, Int.reduceLE, Int.reduceLT, Int.reduceToNat, Int.reduceBEq, Int.reduceBNe, Int.reduceAdd, Int.reduceSub, Int.cast_ofNat_Int]
def r33E5 (n lo hi : Int) (code : List UInt8) : Int := bif !(code.isEmpty) then 1 else bif !(withinB lo 0 9999999) then 3 else bif !(withinB hi 0 9999999) then 3 else bif !(withinB n 1 10) then 3 else bif decide (hi < lo) then 23 else 0
set_option maxRecDepth 10000 in
set_option maxHeartbeats 2000000 in
theorem rule5_c (n lo hi : Int) (code : List UInt8) : AT 45 [ruleA ⟨5, n, lo, hi, code⟩] (i64 (r33E5 n lo hi code)) := by
  unfold r33E5
  have W0 := within33_c 5 1 9
  rw [show withinB 5 1 9 = true from rfl] at W0
  have C1 := within33_c lo 0 9999999
  have C2 := within33_c hi 0 9999999
  have C3 := within33_c n 1 10
  generalize withinB lo 0 9999999 = q1 at *
  generalize withinB hi 0 9999999 = q2 at *
  generalize withinB n 1 10 = q3 at *
  refine ACalls.of ⟨8, []⟩ (fn := Tryz.f45) Tryz.func45 rfl rfl rfl (by kernel_rfl) (by kernel_rfl) (Nat.le_of_ble_eq_true rfl) ?_
  simp -implicitDefEqProofs only [go_sem, awp_seq, Nat.reduceBNe, Nat.reduceBEq, Nat.reduceAdd, Nat.reduceSub, Nat.reduceMul, Nat.reduceLeDiff, Nat.reduceLT, Nat.reduceEqDiff, Nat.reduceBneDiff, Int.reduceLE, Int.reduceLT, Int.reduceToNat, Int.reduceBEq, Int.reduceBNe, Int.reduceAdd, Int.reduceSub, Int.cast_ofNat_Int]
  refine callA_tt W0 ?_
  simp -implicitDefEqProofs only [go_sem, awp_seq, Nat.reduceBNe, Nat.reduceBEq, Nat.reduceAdd, Nat.reduceSub, Nat.reduceMul, Nat.reduceLeDiff, Nat.reduceLT, Nat.reduceEqDiff, Nat.reduceBneDiff, Int.reduceLE, Int.reduceLT, Int.reduceToNat, Int.reduceBEq, Int.reduceBNe, Int.reduceAdd, Int.reduceSub, Int.cast_ofNat_Int]
  refine callA_tt uses5 ?_
  simp -implicitDefEqProofs only [mk_bs, toList_bs, seq_nil, go_sem, awp_seq, Nat.reduceBNe, Nat.reduceBEq, Nat.reduceAdd, Nat.reduceSub, Nat.reduceMul, Nat.reduceLeDiff, Nat.reduceLT, Nat.reduceEqDiff, Nat.reduceBneDiff, Int.reduceLE, Int.reduceLT, Int.reduceToNat, Int.reduceBEq, Int.reduceBNe, Int.reduceAdd, Int.reduceSub, Int.cast_ofNat_Int]
  cases c0 : code.isEmpty with
  | false => simp -implicitDefEqProofs only [c0, go_sem, awp_seq, Nat.reduceBNe, Nat.reduceBEq, Nat.reduceAdd, Nat.reduceSub, Nat.reduceMul, Nat.reduceLeDiff, Nat.reduceLT, Nat.reduceEqDiff, Nat.reduceBneDiff, Int.reduceLE, Int.reduceLT, Int.reduceToNat, Int.reduceBEq, Int.reduceBNe, Int.reduceAdd, Int.reduceSub, Int.cast_ofNat_Int]
  | true =>
  simp -implicitDefEqProofs only [c0, go_sem, awp_seq, Nat.reduceBNe, Nat.reduceBEq, Nat.reduceAdd, Nat.reduceSub, Nat.reduceMul, Nat.reduceLeDiff, Nat.reduceLT, Nat.reduceEqDiff, Nat.reduceBneDiff, Int.reduceLE, Int.reduceLT, Int.reduceToNat, Int.reduceBEq, Int.reduceBNe, Int.reduceAdd, Int.reduceSub, Int.cast_ofNat_Int]
  refine callA_tt C1 ?_
  cases q1 with
  | false => simp -implicitDefEqProofs only [go_sem, awp_seq, Nat.reduceBNe, Nat.reduceBEq, Nat.reduceAdd, Nat.reduceSub, Nat.reduceMul, Nat.reduceLeDiff, Nat.reduceLT, Nat.reduceEqDiff, Nat.reduceBneDiff, Int.reduceLE, Int.reduceLT, Int.reduceToNat, Int.reduceBEq, Int.reduceBNe, Int.reduceAdd, Int.reduceSub, Int.cast_ofNat_Int]
  | true =>
  simp -implicitDefEqProofs only [go_sem, awp_seq, Nat.reduceBNe, Nat.reduceBEq, Nat.reduceAdd, Nat.reduceSub, Nat.reduceMul, Nat.reduceLeDiff, Nat.reduceLT, Nat.reduceEqDiff, Nat.reduceBneDiff, Int.reduceLE, Int.reduceLT, Int.reduceToNat, Int.reduceBEq, Int.reduceBNe, Int.reduceAdd, Int.reduceSub, Int.cast_ofNat_Int]
  refine callA_tt C2 ?_
  cases q2 with
  | false => simp -implicitDefEqProofs only [go_sem, awp_seq, Nat.reduceBNe, Nat.reduceBEq, Nat.reduceAdd, Nat.reduceSub, Nat.reduceMul, Nat.reduceLeDiff, Nat.reduceLT, Nat.reduceEqDiff, Nat.reduceBneDiff, Int.reduceLE, Int.reduceLT, Int.reduceToNat, Int.reduceBEq, Int.reduceBNe, Int.reduceAdd, Int.reduceSub, Int.cast_ofNat_Int]
  | true =>
  simp -implicitDefEqProofs only [go_sem, awp_seq, Nat.reduceBNe, Nat.reduceBEq, Nat.reduceAdd, Nat.reduceSub, Nat.reduceMul, Nat.reduceLeDiff, Nat.reduceLT, Nat.reduceEqDiff, Nat.reduceBneDiff, Int.reduceLE, Int.reduceLT, Int.reduceToNat, Int.reduceBEq, Int.reduceBNe, Int.reduceAdd, Int.reduceSub, Int.cast_ofNat_Int]
  refine callA_tt C3 ?_
  cases q3 with
  | false => simp -implicitDefEqProofs only [go_sem, awp_seq, Nat.reduceBNe, Nat.reduceBEq, Nat.reduceAdd, Nat.reduceSub, Nat.reduceMul, Nat.reduceLeDiff, Nat.reduceLT, Nat.reduceEqDiff, Nat.reduceBneDiff, Int.reduceLE, Int.reduceLT, Int.reduceToNat, Int.reduceBEq, Int.reduceBNe, Int.reduceAdd, Int.reduceSub, Int.cast_ofNat_Int]
  | true =>
  simp -implicitDefEqProofs only [go_sem, awp_seq, Nat.reduceBNe, Nat.reduceBEq, Nat.reduceAdd, Nat.reduceSub, Nat.reduceMul, Nat.reduceLeDiff, Nat.reduceLT, Nat.reduceEqDiff, Nat.reduceBneDiff, Int.reduceLE, Int.reduceLT, Int.reduceToNat, Int.reduceBEq, Int.reduceBNe, Int.reduceAdd, Int.reduceSub, Int.cast_ofNat_Int]
  cases c4 : decide (hi < lo) with
  | true => simp -implicitDefEqProofs only [c4, go_sem, awp_seq, Nat.reduceBNe, Nat.reduceBEq, Nat.reduceAdd, Nat.reduceSub, Nat.reduceMul, Nat.reduceLeDiff, Nat.reduceLT, Nat.reduceEqDiff, Nat.reduceBneDiff, Int.reduceLE, Int.reduceLT, Int.reduceToNat, Int.reduceBEq, Int.reduceBNe, Int.reduceAdd, Int.reduceSub, Int.cast_ofNat_Int]
  | false => simp -implicitDefEqProofs only [c4, go_sem, awp_seq, Nat.reduceBNe, Nat.reduceBEq, Nat.reduceAdd, Nat.reduceSub, Nat.reduceMul, Nat.reduceLeDiff, Nat.reduceLT, Nat.reduceEqDiff, Nat.reduceBneDiff, Int.reduceLE, Int.reduceLT, Int.reduceToNat, Int.reduceBEq, Int.reduceBNe, Int.reduceAdd, Int.reduceSub, Int.cast_ofNat_Int]
def r33E6 (n lo hi : Int) (code : List UInt8) : Int := bif !(code.isEmpty) then 1 else bif !(withinB lo 0 9999999) then 3 else bif !(withinB hi 0 9999999) then 3 else bif !(withinB n 1 9999999) then 3 else bif (lo == 0) then 3 else bif decide (hi < lo) then 23 else 0
set_option maxRecDepth 10000 in
set_option maxHeartbeats 2000000 in
theorem rule6_c (n lo hi : Int) (code : List UInt8) : AT 45 [ruleA ⟨6, n, lo, hi, code⟩] (i64 (r33E6 n lo hi code)) := by
  unfold r33E6
  have W0 := within33_c 6 1 9
  rw [show withinB 6 1 9 = true from rfl] at W0
  have C1 := within33_c lo 0 9999999
  have C2 := within33_c hi 0 9999999
  have C3 := within33_c n 1 9999999
  generalize withinB lo 0 9999999 = q1 at *
  generalize withinB hi 0 9999999 = q2 at *
  generalize withinB n 1 9999999 = q3 at *
  refine ACalls.of ⟨8, []⟩ (fn := Tryz.f45) Tryz.func45 rfl rfl rfl (by kernel_rfl) (by kernel_rfl) (Nat.le_of_ble_eq_true rfl) ?_
  simp -implicitDefEqProofs only [go_sem, awp_seq, Nat.reduceBNe, Nat.reduceBEq, Nat.reduceAdd, Nat.reduceSub, Nat.reduceMul, Nat.reduceLeDiff, Nat.reduceLT, Nat.reduceEqDiff, Nat.reduceBneDiff, Int.reduceLE, Int.reduceLT, Int.reduceToNat, Int.reduceBEq, Int.reduceBNe, Int.reduceAdd, Int.reduceSub, Int.cast_ofNat_Int]
  refine callA_tt W0 ?_
  simp -implicitDefEqProofs only [go_sem, awp_seq, Nat.reduceBNe, Nat.reduceBEq, Nat.reduceAdd, Nat.reduceSub, Nat.reduceMul, Nat.reduceLeDiff, Nat.reduceLT, Nat.reduceEqDiff, Nat.reduceBneDiff, Int.reduceLE, Int.reduceLT, Int.reduceToNat, Int.reduceBEq, Int.reduceBNe, Int.reduceAdd, Int.reduceSub, Int.cast_ofNat_Int]
  refine callA_tt uses6 ?_
  simp -implicitDefEqProofs only [mk_bs, toList_bs, seq_nil, go_sem, awp_seq, Nat.reduceBNe, Nat.reduceBEq, Nat.reduceAdd, Nat.reduceSub, Nat.reduceMul, Nat.reduceLeDiff, Nat.reduceLT, Nat.reduceEqDiff, Nat.reduceBneDiff, Int.reduceLE, Int.reduceLT, Int.reduceToNat, Int.reduceBEq, Int.reduceBNe, Int.reduceAdd, Int.reduceSub, Int.cast_ofNat_Int]
  cases c0 : code.isEmpty with
  | false => simp -implicitDefEqProofs only [c0, go_sem, awp_seq, Nat.reduceBNe, Nat.reduceBEq, Nat.reduceAdd, Nat.reduceSub, Nat.reduceMul, Nat.reduceLeDiff, Nat.reduceLT, Nat.reduceEqDiff, Nat.reduceBneDiff, Int.reduceLE, Int.reduceLT, Int.reduceToNat, Int.reduceBEq, Int.reduceBNe, Int.reduceAdd, Int.reduceSub, Int.cast_ofNat_Int]
  | true =>
  simp -implicitDefEqProofs only [c0, go_sem, awp_seq, Nat.reduceBNe, Nat.reduceBEq, Nat.reduceAdd, Nat.reduceSub, Nat.reduceMul, Nat.reduceLeDiff, Nat.reduceLT, Nat.reduceEqDiff, Nat.reduceBneDiff, Int.reduceLE, Int.reduceLT, Int.reduceToNat, Int.reduceBEq, Int.reduceBNe, Int.reduceAdd, Int.reduceSub, Int.cast_ofNat_Int]
  refine callA_tt C1 ?_
  cases q1 with
  | false => simp -implicitDefEqProofs only [go_sem, awp_seq, Nat.reduceBNe, Nat.reduceBEq, Nat.reduceAdd, Nat.reduceSub, Nat.reduceMul, Nat.reduceLeDiff, Nat.reduceLT, Nat.reduceEqDiff, Nat.reduceBneDiff, Int.reduceLE, Int.reduceLT, Int.reduceToNat, Int.reduceBEq, Int.reduceBNe, Int.reduceAdd, Int.reduceSub, Int.cast_ofNat_Int]
  | true =>
  simp -implicitDefEqProofs only [go_sem, awp_seq, Nat.reduceBNe, Nat.reduceBEq, Nat.reduceAdd, Nat.reduceSub, Nat.reduceMul, Nat.reduceLeDiff, Nat.reduceLT, Nat.reduceEqDiff, Nat.reduceBneDiff, Int.reduceLE, Int.reduceLT, Int.reduceToNat, Int.reduceBEq, Int.reduceBNe, Int.reduceAdd, Int.reduceSub, Int.cast_ofNat_Int]
  refine callA_tt C2 ?_
  cases q2 with
  | false => simp -implicitDefEqProofs only [go_sem, awp_seq, Nat.reduceBNe, Nat.reduceBEq, Nat.reduceAdd, Nat.reduceSub, Nat.reduceMul, Nat.reduceLeDiff, Nat.reduceLT, Nat.reduceEqDiff, Nat.reduceBneDiff, Int.reduceLE, Int.reduceLT, Int.reduceToNat, Int.reduceBEq, Int.reduceBNe, Int.reduceAdd, Int.reduceSub, Int.cast_ofNat_Int]
  | true =>
  simp -implicitDefEqProofs only [go_sem, awp_seq, Nat.reduceBNe, Nat.reduceBEq, Nat.reduceAdd, Nat.reduceSub, Nat.reduceMul, Nat.reduceLeDiff, Nat.reduceLT, Nat.reduceEqDiff, Nat.reduceBneDiff, Int.reduceLE, Int.reduceLT, Int.reduceToNat, Int.reduceBEq, Int.reduceBNe, Int.reduceAdd, Int.reduceSub, Int.cast_ofNat_Int]
  refine callA_tt C3 ?_
  cases q3 with
  | false => simp -implicitDefEqProofs only [go_sem, awp_seq, Nat.reduceBNe, Nat.reduceBEq, Nat.reduceAdd, Nat.reduceSub, Nat.reduceMul, Nat.reduceLeDiff, Nat.reduceLT, Nat.reduceEqDiff, Nat.reduceBneDiff, Int.reduceLE, Int.reduceLT, Int.reduceToNat, Int.reduceBEq, Int.reduceBNe, Int.reduceAdd, Int.reduceSub, Int.cast_ofNat_Int]
  | true =>
  simp -implicitDefEqProofs only [go_sem, awp_seq, Nat.reduceBNe, Nat.reduceBEq, Nat.reduceAdd, Nat.reduceSub, Nat.reduceMul, Nat.reduceLeDiff, Nat.reduceLT, Nat.reduceEqDiff, Nat.reduceBneDiff, Int.reduceLE, Int.reduceLT, Int.reduceToNat, Int.reduceBEq, Int.reduceBNe, Int.reduceAdd, Int.reduceSub, Int.cast_ofNat_Int]
  cases c4 : (lo == 0) with
  | true => simp -implicitDefEqProofs only [c4, go_sem, awp_seq, Nat.reduceBNe, Nat.reduceBEq, Nat.reduceAdd, Nat.reduceSub, Nat.reduceMul, Nat.reduceLeDiff, Nat.reduceLT, Nat.reduceEqDiff, Nat.reduceBneDiff, Int.reduceLE, Int.reduceLT, Int.reduceToNat, Int.reduceBEq, Int.reduceBNe, Int.reduceAdd, Int.reduceSub, Int.cast_ofNat_Int]
  | false =>
  simp -implicitDefEqProofs only [c4, go_sem, awp_seq, Nat.reduceBNe, Nat.reduceBEq, Nat.reduceAdd, Nat.reduceSub, Nat.reduceMul, Nat.reduceLeDiff, Nat.reduceLT, Nat.reduceEqDiff, Nat.reduceBneDiff, Int.reduceLE, Int.reduceLT, Int.reduceToNat, Int.reduceBEq, Int.reduceBNe, Int.reduceAdd, Int.reduceSub, Int.cast_ofNat_Int]
  cases c5 : decide (hi < lo) with
  | true => simp -implicitDefEqProofs only [c5, go_sem, awp_seq, Nat.reduceBNe, Nat.reduceBEq, Nat.reduceAdd, Nat.reduceSub, Nat.reduceMul, Nat.reduceLeDiff, Nat.reduceLT, Nat.reduceEqDiff, Nat.reduceBneDiff, Int.reduceLE, Int.reduceLT, Int.reduceToNat, Int.reduceBEq, Int.reduceBNe, Int.reduceAdd, Int.reduceSub, Int.cast_ofNat_Int]
  | false => simp -implicitDefEqProofs only [c5, go_sem, awp_seq, Nat.reduceBNe, Nat.reduceBEq, Nat.reduceAdd, Nat.reduceSub, Nat.reduceMul, Nat.reduceLeDiff, Nat.reduceLT, Nat.reduceEqDiff, Nat.reduceBneDiff, Int.reduceLE, Int.reduceLT, Int.reduceToNat, Int.reduceBEq, Int.reduceBNe, Int.reduceAdd, Int.reduceSub, Int.cast_ofNat_Int]
def r33E7 (n lo hi : Int) (code : List UInt8) : Int := bif !(code.isEmpty) then 1 else bif (lo != 0) then 1 else bif (hi != 0) then 1 else bif !(withinB lo 0 9999999) then 3 else bif !(withinB hi 0 9999999) then 3 else bif !(withinB n 1 9999999) then 3 else bif decide (hi < lo) then 23 else 0
set_option maxRecDepth 10000 in
set_option maxHeartbeats 2000000 in
theorem rule7_c (n lo hi : Int) (code : List UInt8) : AT 45 [ruleA ⟨7, n, lo, hi, code⟩] (i64 (r33E7 n lo hi code)) := by
  unfold r33E7
  have W0 := within33_c 7 1 9
  rw [show withinB 7 1 9 = true from rfl] at W0
  have C3 := within33_c lo 0 9999999
  have C4 := within33_c hi 0 9999999
  have C5 := within33_c n 1 9999999
  generalize withinB lo 0 9999999 = q3 at *
  generalize withinB hi 0 9999999 = q4 at *
  generalize withinB n 1 9999999 = q5 at *
  refine ACalls.of ⟨8, []⟩ (fn := Tryz.f45) Tryz.func45 rfl rfl rfl (by kernel_rfl) (by kernel_rfl) (Nat.le_of_ble_eq_true rfl) ?_
  simp -implicitDefEqProofs only [go_sem, awp_seq, Nat.reduceBNe, Nat.reduceBEq, Nat.reduceAdd, Nat.reduceSub, Nat.reduceMul, Nat.reduceLeDiff, Nat.reduceLT, Nat.reduceEqDiff, Nat.reduceBneDiff, Int.reduceLE, Int.reduceLT, Int.reduceToNat, Int.reduceBEq, Int.reduceBNe, Int.reduceAdd, Int.reduceSub, Int.cast_ofNat_Int]
  refine callA_tt W0 ?_
  simp -implicitDefEqProofs only [go_sem, awp_seq, Nat.reduceBNe, Nat.reduceBEq, Nat.reduceAdd, Nat.reduceSub, Nat.reduceMul, Nat.reduceLeDiff, Nat.reduceLT, Nat.reduceEqDiff, Nat.reduceBneDiff, Int.reduceLE, Int.reduceLT, Int.reduceToNat, Int.reduceBEq, Int.reduceBNe, Int.reduceAdd, Int.reduceSub, Int.cast_ofNat_Int]
  refine callA_tt uses7 ?_
  simp -implicitDefEqProofs only [mk_bs, toList_bs, seq_nil, go_sem, awp_seq, Nat.reduceBNe, Nat.reduceBEq, Nat.reduceAdd, Nat.reduceSub, Nat.reduceMul, Nat.reduceLeDiff, Nat.reduceLT, Nat.reduceEqDiff, Nat.reduceBneDiff, Int.reduceLE, Int.reduceLT, Int.reduceToNat, Int.reduceBEq, Int.reduceBNe, Int.reduceAdd, Int.reduceSub, Int.cast_ofNat_Int]
  cases c0 : code.isEmpty with
  | false => simp -implicitDefEqProofs only [c0, go_sem, awp_seq, Nat.reduceBNe, Nat.reduceBEq, Nat.reduceAdd, Nat.reduceSub, Nat.reduceMul, Nat.reduceLeDiff, Nat.reduceLT, Nat.reduceEqDiff, Nat.reduceBneDiff, Int.reduceLE, Int.reduceLT, Int.reduceToNat, Int.reduceBEq, Int.reduceBNe, Int.reduceAdd, Int.reduceSub, Int.cast_ofNat_Int]
  | true =>
  simp -implicitDefEqProofs only [c0, go_sem, awp_seq, Nat.reduceBNe, Nat.reduceBEq, Nat.reduceAdd, Nat.reduceSub, Nat.reduceMul, Nat.reduceLeDiff, Nat.reduceLT, Nat.reduceEqDiff, Nat.reduceBneDiff, Int.reduceLE, Int.reduceLT, Int.reduceToNat, Int.reduceBEq, Int.reduceBNe, Int.reduceAdd, Int.reduceSub, Int.cast_ofNat_Int]
  cases c1 : (lo != 0) with
  | true => simp -implicitDefEqProofs only [c1, go_sem, awp_seq, Nat.reduceBNe, Nat.reduceBEq, Nat.reduceAdd, Nat.reduceSub, Nat.reduceMul, Nat.reduceLeDiff, Nat.reduceLT, Nat.reduceEqDiff, Nat.reduceBneDiff, Int.reduceLE, Int.reduceLT, Int.reduceToNat, Int.reduceBEq, Int.reduceBNe, Int.reduceAdd, Int.reduceSub, Int.cast_ofNat_Int]
  | false =>
  simp -implicitDefEqProofs only [c1, go_sem, awp_seq, Nat.reduceBNe, Nat.reduceBEq, Nat.reduceAdd, Nat.reduceSub, Nat.reduceMul, Nat.reduceLeDiff, Nat.reduceLT, Nat.reduceEqDiff, Nat.reduceBneDiff, Int.reduceLE, Int.reduceLT, Int.reduceToNat, Int.reduceBEq, Int.reduceBNe, Int.reduceAdd, Int.reduceSub, Int.cast_ofNat_Int]
  cases c2 : (hi != 0) with
  | true => simp -implicitDefEqProofs only [c2, go_sem, awp_seq, Nat.reduceBNe, Nat.reduceBEq, Nat.reduceAdd, Nat.reduceSub, Nat.reduceMul, Nat.reduceLeDiff, Nat.reduceLT, Nat.reduceEqDiff, Nat.reduceBneDiff, Int.reduceLE, Int.reduceLT, Int.reduceToNat, Int.reduceBEq, Int.reduceBNe, Int.reduceAdd, Int.reduceSub, Int.cast_ofNat_Int]
  | false =>
  simp -implicitDefEqProofs only [c2, go_sem, awp_seq, Nat.reduceBNe, Nat.reduceBEq, Nat.reduceAdd, Nat.reduceSub, Nat.reduceMul, Nat.reduceLeDiff, Nat.reduceLT, Nat.reduceEqDiff, Nat.reduceBneDiff, Int.reduceLE, Int.reduceLT, Int.reduceToNat, Int.reduceBEq, Int.reduceBNe, Int.reduceAdd, Int.reduceSub, Int.cast_ofNat_Int]
  refine callA_tt C3 ?_
  cases q3 with
  | false => simp -implicitDefEqProofs only [go_sem, awp_seq, Nat.reduceBNe, Nat.reduceBEq, Nat.reduceAdd, Nat.reduceSub, Nat.reduceMul, Nat.reduceLeDiff, Nat.reduceLT, Nat.reduceEqDiff, Nat.reduceBneDiff, Int.reduceLE, Int.reduceLT, Int.reduceToNat, Int.reduceBEq, Int.reduceBNe, Int.reduceAdd, Int.reduceSub, Int.cast_ofNat_Int]
  | true =>
  simp -implicitDefEqProofs only [go_sem, awp_seq, Nat.reduceBNe, Nat.reduceBEq, Nat.reduceAdd, Nat.reduceSub, Nat.reduceMul, Nat.reduceLeDiff, Nat.reduceLT, Nat.reduceEqDiff, Nat.reduceBneDiff, Int.reduceLE, Int.reduceLT, Int.reduceToNat, Int.reduceBEq, Int.reduceBNe, Int.reduceAdd, Int.reduceSub, Int.cast_ofNat_Int]
  refine callA_tt C4 ?_
  cases q4 with
  | false => simp -implicitDefEqProofs only [go_sem, awp_seq, Nat.reduceBNe, Nat.reduceBEq, Nat.reduceAdd, Nat.reduceSub, Nat.reduceMul, Nat.reduceLeDiff, Nat.reduceLT, Nat.reduceEqDiff, Nat.reduceBneDiff, Int.reduceLE, Int.reduceLT, Int.reduceToNat, Int.reduceBEq, Int.reduceBNe, Int.reduceAdd, Int.reduceSub, Int.cast_ofNat_Int]
  | true =>
  simp -implicitDefEqProofs only [go_sem, awp_seq, Nat.reduceBNe, Nat.reduceBEq, Nat.reduceAdd, Nat.reduceSub, Nat.reduceMul, Nat.reduceLeDiff, Nat.reduceLT, Nat.reduceEqDiff, Nat.reduceBneDiff, Int.reduceLE, Int.reduceLT, Int.reduceToNat, Int.reduceBEq, Int.reduceBNe, Int.reduceAdd, Int.reduceSub, Int.cast_ofNat_Int]
  refine callA_tt C5 ?_
  cases q5 with
  | false => simp -implicitDefEqProofs only [go_sem, awp_seq, Nat.reduceBNe, Nat.reduceBEq, Nat.reduceAdd, Nat.reduceSub, Nat.reduceMul, Nat.reduceLeDiff, Nat.reduceLT, Nat.reduceEqDiff, Nat.reduceBneDiff, Int.reduceLE, Int.reduceLT, Int.reduceToNat, Int.reduceBEq, Int.reduceBNe, Int.reduceAdd, Int.reduceSub, Int.cast_ofNat_Int]
  | true =>
  simp -implicitDefEqProofs only [go_sem, awp_seq, Nat.reduceBNe, Nat.reduceBEq, Nat.reduceAdd, Nat.reduceSub, Nat.reduceMul, Nat.reduceLeDiff, Nat.reduceLT, Nat.reduceEqDiff, Nat.reduceBneDiff, Int.reduceLE, Int.reduceLT, Int.reduceToNat, Int.reduceBEq, Int.reduceBNe, Int.reduceAdd, Int.reduceSub, Int.cast_ofNat_Int]
  cases c6 : decide (hi < lo) with
  | true => simp -implicitDefEqProofs only [c6, go_sem, awp_seq, Nat.reduceBNe, Nat.reduceBEq, Nat.reduceAdd, Nat.reduceSub, Nat.reduceMul, Nat.reduceLeDiff, Nat.reduceLT, Nat.reduceEqDiff, Nat.reduceBneDiff, Int.reduceLE, Int.reduceLT, Int.reduceToNat, Int.reduceBEq, Int.reduceBNe, Int.reduceAdd, Int.reduceSub, Int.cast_ofNat_Int]
  | false => simp -implicitDefEqProofs only [c6, go_sem, awp_seq, Nat.reduceBNe, Nat.reduceBEq, Nat.reduceAdd, Nat.reduceSub, Nat.reduceMul, Nat.reduceLeDiff, Nat.reduceLT, Nat.reduceEqDiff, Nat.reduceBneDiff, Int.reduceLE, Int.reduceLT, Int.reduceToNat, Int.reduceBEq, Int.reduceBNe, Int.reduceAdd, Int.reduceSub, Int.cast_ofNat_Int]
def r33E8 (n lo hi : Int) (code : List UInt8) : Int := bif !(code.isEmpty) then 1 else bif (lo != 0) then 1 else bif (hi != 0) then 1 else bif !(withinB lo 0 9999999) then 3 else bif !(withinB hi 0 9999999) then 3 else bif !(withinB n 1 9999999) then 3 else bif decide (hi < lo) then 23 else 0
set_option maxRecDepth 10000 in
set_option maxHeartbeats 2000000 in
theorem rule8_c (n lo hi : Int) (code : List UInt8) : AT 45 [ruleA ⟨8, n, lo, hi, code⟩] (i64 (r33E8 n lo hi code)) := by
  unfold r33E8
  have W0 := within33_c 8 1 9
  rw [show withinB 8 1 9 = true from rfl] at W0
  have C3 := within33_c lo 0 9999999
  have C4 := within33_c hi 0 9999999
  have C5 := within33_c n 1 9999999
  generalize withinB lo 0 9999999 = q3 at *
  generalize withinB hi 0 9999999 = q4 at *
  generalize withinB n 1 9999999 = q5 at *
  refine ACalls.of ⟨8, []⟩ (fn := Tryz.f45) Tryz.func45 rfl rfl rfl (by kernel_rfl) (by kernel_rfl) (Nat.le_of_ble_eq_true rfl) ?_
  simp -implicitDefEqProofs only [go_sem, awp_seq, Nat.reduceBNe, Nat.reduceBEq, Nat.reduceAdd, Nat.reduceSub, Nat.reduceMul, Nat.reduceLeDiff, Nat.reduceLT, Nat.reduceEqDiff, Nat.reduceBneDiff, Int.reduceLE, Int.reduceLT, Int.reduceToNat, Int.reduceBEq, Int.reduceBNe, Int.reduceAdd, Int.reduceSub, Int.cast_ofNat_Int]
  refine callA_tt W0 ?_
  simp -implicitDefEqProofs only [go_sem, awp_seq, Nat.reduceBNe, Nat.reduceBEq, Nat.reduceAdd, Nat.reduceSub, Nat.reduceMul, Nat.reduceLeDiff, Nat.reduceLT, Nat.reduceEqDiff, Nat.reduceBneDiff, Int.reduceLE, Int.reduceLT, Int.reduceToNat, Int.reduceBEq, Int.reduceBNe, Int.reduceAdd, Int.reduceSub, Int.cast_ofNat_Int]
  refine callA_tt uses8 ?_
  simp -implicitDefEqProofs only [mk_bs, toList_bs, seq_nil, go_sem, awp_seq, Nat.reduceBNe, Nat.reduceBEq, Nat.reduceAdd, Nat.reduceSub, Nat.reduceMul, Nat.reduceLeDiff, Nat.reduceLT, Nat.reduceEqDiff, Nat.reduceBneDiff, Int.reduceLE, Int.reduceLT, Int.reduceToNat, Int.reduceBEq, Int.reduceBNe, Int.reduceAdd, Int.reduceSub, Int.cast_ofNat_Int]
  cases c0 : code.isEmpty with
  | false => simp -implicitDefEqProofs only [c0, go_sem, awp_seq, Nat.reduceBNe, Nat.reduceBEq, Nat.reduceAdd, Nat.reduceSub, Nat.reduceMul, Nat.reduceLeDiff, Nat.reduceLT, Nat.reduceEqDiff, Nat.reduceBneDiff, Int.reduceLE, Int.reduceLT, Int.reduceToNat, Int.reduceBEq, Int.reduceBNe, Int.reduceAdd, Int.reduceSub, Int.cast_ofNat_Int]
  | true =>
  simp -implicitDefEqProofs only [c0, go_sem, awp_seq, Nat.reduceBNe, Nat.reduceBEq, Nat.reduceAdd, Nat.reduceSub, Nat.reduceMul, Nat.reduceLeDiff, Nat.reduceLT, Nat.reduceEqDiff, Nat.reduceBneDiff, Int.reduceLE, Int.reduceLT, Int.reduceToNat, Int.reduceBEq, Int.reduceBNe, Int.reduceAdd, Int.reduceSub, Int.cast_ofNat_Int]
  cases c1 : (lo != 0) with
  | true => simp -implicitDefEqProofs only [c1, go_sem, awp_seq, Nat.reduceBNe, Nat.reduceBEq, Nat.reduceAdd, Nat.reduceSub, Nat.reduceMul, Nat.reduceLeDiff, Nat.reduceLT, Nat.reduceEqDiff, Nat.reduceBneDiff, Int.reduceLE, Int.reduceLT, Int.reduceToNat, Int.reduceBEq, Int.reduceBNe, Int.reduceAdd, Int.reduceSub, Int.cast_ofNat_Int]
  | false =>
  simp -implicitDefEqProofs only [c1, go_sem, awp_seq, Nat.reduceBNe, Nat.reduceBEq, Nat.reduceAdd, Nat.reduceSub, Nat.reduceMul, Nat.reduceLeDiff, Nat.reduceLT, Nat.reduceEqDiff, Nat.reduceBneDiff, Int.reduceLE, Int.reduceLT, Int.reduceToNat, Int.reduceBEq, Int.reduceBNe, Int.reduceAdd, Int.reduceSub, Int.cast_ofNat_Int]
  cases c2 : (hi != 0) with
  | true => simp -implicitDefEqProofs only [c2, go_sem, awp_seq, Nat.reduceBNe, Nat.reduceBEq, Nat.reduceAdd, Nat.reduceSub, Nat.reduceMul, Nat.reduceLeDiff, Nat.reduceLT, Nat.reduceEqDiff, Nat.reduceBneDiff, Int.reduceLE, Int.reduceLT, Int.reduceToNat, Int.reduceBEq, Int.reduceBNe, Int.reduceAdd, Int.reduceSub, Int.cast_ofNat_Int]
  | false =>
  simp -implicitDefEqProofs only [c2, go_sem, awp_seq, Nat.reduceBNe, Nat.reduceBEq, Nat.reduceAdd, Nat.reduceSub, Nat.reduceMul, Nat.reduceLeDiff, Nat.reduceLT, Nat.reduceEqDiff, Nat.reduceBneDiff, Int.reduceLE, Int.reduceLT, Int.reduceToNat, Int.reduceBEq, Int.reduceBNe, Int.reduceAdd, Int.reduceSub, Int.cast_ofNat_Int]
  refine callA_tt C3 ?_
  cases q3 with
  | false => simp -implicitDefEqProofs only [go_sem, awp_seq, Nat.reduceBNe, Nat.reduceBEq, Nat.reduceAdd, Nat.reduceSub, Nat.reduceMul, Nat.reduceLeDiff, Nat.reduceLT, Nat.reduceEqDiff, Nat.reduceBneDiff, Int.reduceLE, Int.reduceLT, Int.reduceToNat, Int.reduceBEq, Int.reduceBNe, Int.reduceAdd, Int.reduceSub, Int.cast_ofNat_Int]
  | true =>
  simp -implicitDefEqProofs only [go_sem, awp_seq, Nat.reduceBNe, Nat.reduceBEq, Nat.reduceAdd, Nat.reduceSub, Nat.reduceMul, Nat.reduceLeDiff, Nat.reduceLT, Nat.reduceEqDiff, Nat.reduceBneDiff, Int.reduceLE, Int.reduceLT, Int.reduceToNat, Int.reduceBEq, Int.reduceBNe, Int.reduceAdd, Int.reduceSub, Int.cast_ofNat_Int]
  refine callA_tt C4 ?_
  cases q4 with
  | false => simp -implicitDefEqProofs only [go_sem, awp_seq, Nat.reduceBNe, Nat.reduceBEq, Nat.reduceAdd, Nat.reduceSub, Nat.reduceMul, Nat.reduceLeDiff, Nat.reduceLT, Nat.reduceEqDiff, Nat.reduceBneDiff, Int.reduceLE, Int.reduceLT, Int.reduceToNat, Int.reduceBEq, Int.reduceBNe, Int.reduceAdd, Int.reduceSub, Int.cast_ofNat_Int]
  | true =>
  simp -implicitDefEqProofs only [go_sem, awp_seq, Nat.reduceBNe, Nat.reduceBEq, Nat.reduceAdd, Nat.reduceSub, Nat.reduceMul, Nat.reduceLeDiff, Nat.reduceLT, Nat.reduceEqDiff, Nat.reduceBneDiff, Int.reduceLE, Int.reduceLT, Int.reduceToNat, Int.reduceBEq, Int.reduceBNe, Int.reduceAdd, Int.reduceSub, Int.cast_ofNat_Int]
  refine callA_tt C5 ?_
  cases q5 with
  | false => simp -implicitDefEqProofs only [go_sem, awp_seq, Nat.reduceBNe, Nat.reduceBEq, Nat.reduceAdd, Nat.reduceSub, Nat.reduceMul, Nat.reduceLeDiff, Nat.reduceLT, Nat.reduceEqDiff, Nat.reduceBneDiff, Int.reduceLE, Int.reduceLT, Int.reduceToNat, Int.reduceBEq, Int.reduceBNe, Int.reduceAdd, Int.reduceSub, Int.cast_ofNat_Int]
  | true =>
  simp -implicitDefEqProofs only [go_sem, awp_seq, Nat.reduceBNe, Nat.reduceBEq, Nat.reduceAdd, Nat.reduceSub, Nat.reduceMul, Nat.reduceLeDiff, Nat.reduceLT, Nat.reduceEqDiff, Nat.reduceBneDiff, Int.reduceLE, Int.reduceLT, Int.reduceToNat, Int.reduceBEq, Int.reduceBNe, Int.reduceAdd, Int.reduceSub, Int.cast_ofNat_Int]
  cases c6 : decide (hi < lo) with
  | true => simp -implicitDefEqProofs only [c6, go_sem, awp_seq, Nat.reduceBNe, Nat.reduceBEq, Nat.reduceAdd, Nat.reduceSub, Nat.reduceMul, Nat.reduceLeDiff, Nat.reduceLT, Nat.reduceEqDiff, Nat.reduceBneDiff, Int.reduceLE, Int.reduceLT, Int.reduceToNat, Int.reduceBEq, Int.reduceBNe, Int.reduceAdd, Int.reduceSub, Int.cast_ofNat_Int]
  | false => simp -implicitDefEqProofs only [c6, go_sem, awp_seq, Nat.reduceBNe, Nat.reduceBEq, Nat.reduceAdd, Nat.reduceSub, Nat.reduceMul, Nat.reduceLeDiff, Nat.reduceLT, Nat.reduceEqDiff, Nat.reduceBneDiff, Int.reduceLE, Int.reduceLT, Int.reduceToNat, Int.reduceBEq, Int.reduceBNe, Int.reduceAdd, Int.reduceSub, Int.cast_ofNat_Int]
def r33E9 (n lo hi : Int) (code : List UInt8) : Int := bif !(code.isEmpty) then 1 else bif (n != 0) then 1 else bif (lo != 0) then 1 else bif (hi != 0) then 1 else bif !(withinB lo 0 9999999) then 3 else bif !(withinB hi 0 9999999) then 3 else bif decide (hi < lo) then 23 else 0
set_option maxRecDepth 10000 in
set_option maxHeartbeats 2000000 in
theorem rule9_c (n lo hi : Int) (code : List UInt8) : AT 45 [ruleA ⟨9, n, lo, hi, code⟩] (i64 (r33E9 n lo hi code)) := by
  unfold r33E9
  have W0 := within33_c 9 1 9
  rw [show withinB 9 1 9 = true from rfl] at W0
  have C4 := within33_c lo 0 9999999
  have C5 := within33_c hi 0 9999999
  generalize withinB lo 0 9999999 = q4 at *
  generalize withinB hi 0 9999999 = q5 at *
  refine ACalls.of ⟨8, []⟩ (fn := Tryz.f45) Tryz.func45 rfl rfl rfl (by kernel_rfl) (by kernel_rfl) (Nat.le_of_ble_eq_true rfl) ?_
  simp -implicitDefEqProofs only [go_sem, awp_seq, Nat.reduceBNe, Nat.reduceBEq, Nat.reduceAdd, Nat.reduceSub, Nat.reduceMul, Nat.reduceLeDiff, Nat.reduceLT, Nat.reduceEqDiff, Nat.reduceBneDiff, Int.reduceLE, Int.reduceLT, Int.reduceToNat, Int.reduceBEq, Int.reduceBNe, Int.reduceAdd, Int.reduceSub, Int.cast_ofNat_Int]
  refine callA_tt W0 ?_
  simp -implicitDefEqProofs only [go_sem, awp_seq, Nat.reduceBNe, Nat.reduceBEq, Nat.reduceAdd, Nat.reduceSub, Nat.reduceMul, Nat.reduceLeDiff, Nat.reduceLT, Nat.reduceEqDiff, Nat.reduceBneDiff, Int.reduceLE, Int.reduceLT, Int.reduceToNat, Int.reduceBEq, Int.reduceBNe, Int.reduceAdd, Int.reduceSub, Int.cast_ofNat_Int]
  refine callA_tt uses9 ?_
  simp -implicitDefEqProofs only [mk_bs, toList_bs, seq_nil, go_sem, awp_seq, Nat.reduceBNe, Nat.reduceBEq, Nat.reduceAdd, Nat.reduceSub, Nat.reduceMul, Nat.reduceLeDiff, Nat.reduceLT, Nat.reduceEqDiff, Nat.reduceBneDiff, Int.reduceLE, Int.reduceLT, Int.reduceToNat, Int.reduceBEq, Int.reduceBNe, Int.reduceAdd, Int.reduceSub, Int.cast_ofNat_Int]
  cases c0 : code.isEmpty with
  | false => simp -implicitDefEqProofs only [c0, go_sem, awp_seq, Nat.reduceBNe, Nat.reduceBEq, Nat.reduceAdd, Nat.reduceSub, Nat.reduceMul, Nat.reduceLeDiff, Nat.reduceLT, Nat.reduceEqDiff, Nat.reduceBneDiff, Int.reduceLE, Int.reduceLT, Int.reduceToNat, Int.reduceBEq, Int.reduceBNe, Int.reduceAdd, Int.reduceSub, Int.cast_ofNat_Int]
  | true =>
  simp -implicitDefEqProofs only [c0, go_sem, awp_seq, Nat.reduceBNe, Nat.reduceBEq, Nat.reduceAdd, Nat.reduceSub, Nat.reduceMul, Nat.reduceLeDiff, Nat.reduceLT, Nat.reduceEqDiff, Nat.reduceBneDiff, Int.reduceLE, Int.reduceLT, Int.reduceToNat, Int.reduceBEq, Int.reduceBNe, Int.reduceAdd, Int.reduceSub, Int.cast_ofNat_Int]
  cases c1 : (n != 0) with
  | true => simp -implicitDefEqProofs only [c1, go_sem, awp_seq, Nat.reduceBNe, Nat.reduceBEq, Nat.reduceAdd, Nat.reduceSub, Nat.reduceMul, Nat.reduceLeDiff, Nat.reduceLT, Nat.reduceEqDiff, Nat.reduceBneDiff, Int.reduceLE, Int.reduceLT, Int.reduceToNat, Int.reduceBEq, Int.reduceBNe, Int.reduceAdd, Int.reduceSub, Int.cast_ofNat_Int]
  | false =>
  simp -implicitDefEqProofs only [c1, go_sem, awp_seq, Nat.reduceBNe, Nat.reduceBEq, Nat.reduceAdd, Nat.reduceSub, Nat.reduceMul, Nat.reduceLeDiff, Nat.reduceLT, Nat.reduceEqDiff, Nat.reduceBneDiff, Int.reduceLE, Int.reduceLT, Int.reduceToNat, Int.reduceBEq, Int.reduceBNe, Int.reduceAdd, Int.reduceSub, Int.cast_ofNat_Int]
  cases c2 : (lo != 0) with
  | true => simp -implicitDefEqProofs only [c2, go_sem, awp_seq, Nat.reduceBNe, Nat.reduceBEq, Nat.reduceAdd, Nat.reduceSub, Nat.reduceMul, Nat.reduceLeDiff, Nat.reduceLT, Nat.reduceEqDiff, Nat.reduceBneDiff, Int.reduceLE, Int.reduceLT, Int.reduceToNat, Int.reduceBEq, Int.reduceBNe, Int.reduceAdd, Int.reduceSub, Int.cast_ofNat_Int]
  | false =>
  simp -implicitDefEqProofs only [c2, go_sem, awp_seq, Nat.reduceBNe, Nat.reduceBEq, Nat.reduceAdd, Nat.reduceSub, Nat.reduceMul, Nat.reduceLeDiff, Nat.reduceLT, Nat.reduceEqDiff, Nat.reduceBneDiff, Int.reduceLE, Int.reduceLT, Int.reduceToNat, Int.reduceBEq, Int.reduceBNe, Int.reduceAdd, Int.reduceSub, Int.cast_ofNat_Int]
  cases c3 : (hi != 0) with
  | true => simp -implicitDefEqProofs only [c3, go_sem, awp_seq, Nat.reduceBNe, Nat.reduceBEq, Nat.reduceAdd, Nat.reduceSub, Nat.reduceMul, Nat.reduceLeDiff, Nat.reduceLT, Nat.reduceEqDiff, Nat.reduceBneDiff, Int.reduceLE, Int.reduceLT, Int.reduceToNat, Int.reduceBEq, Int.reduceBNe, Int.reduceAdd, Int.reduceSub, Int.cast_ofNat_Int]
  | false =>
  simp -implicitDefEqProofs only [c3, go_sem, awp_seq, Nat.reduceBNe, Nat.reduceBEq, Nat.reduceAdd, Nat.reduceSub, Nat.reduceMul, Nat.reduceLeDiff, Nat.reduceLT, Nat.reduceEqDiff, Nat.reduceBneDiff, Int.reduceLE, Int.reduceLT, Int.reduceToNat, Int.reduceBEq, Int.reduceBNe, Int.reduceAdd, Int.reduceSub, Int.cast_ofNat_Int]
  refine callA_tt C4 ?_
  cases q4 with
  | false => simp -implicitDefEqProofs only [go_sem, awp_seq, Nat.reduceBNe, Nat.reduceBEq, Nat.reduceAdd, Nat.reduceSub, Nat.reduceMul, Nat.reduceLeDiff, Nat.reduceLT, Nat.reduceEqDiff, Nat.reduceBneDiff, Int.reduceLE, Int.reduceLT, Int.reduceToNat, Int.reduceBEq, Int.reduceBNe, Int.reduceAdd, Int.reduceSub, Int.cast_ofNat_Int]
  | true =>
  simp -implicitDefEqProofs only [go_sem, awp_seq, Nat.reduceBNe, Nat.reduceBEq, Nat.reduceAdd, Nat.reduceSub, Nat.reduceMul, Nat.reduceLeDiff, Nat.reduceLT, Nat.reduceEqDiff, Nat.reduceBneDiff, Int.reduceLE, Int.reduceLT, Int.reduceToNat, Int.reduceBEq, Int.reduceBNe, Int.reduceAdd, Int.reduceSub, Int.cast_ofNat_Int]
  refine callA_tt C5 ?_
  cases q5 with
  | false => simp -implicitDefEqProofs only [go_sem, awp_seq, Nat.reduceBNe, Nat.reduceBEq, Nat.reduceAdd, Nat.reduceSub, Nat.reduceMul, Nat.reduceLeDiff, Nat.reduceLT, Nat.reduceEqDiff, Nat.reduceBneDiff, Int.reduceLE, Int.reduceLT, Int.reduceToNat, Int.reduceBEq, Int.reduceBNe, Int.reduceAdd, Int.reduceSub, Int.cast_ofNat_Int]
  | true =>
  simp -implicitDefEqProofs only [go_sem, awp_seq, Nat.reduceBNe, Nat.reduceBEq, Nat.reduceAdd, Nat.reduceSub, Nat.reduceMul, Nat.reduceLeDiff, Nat.reduceLT, Nat.reduceEqDiff, Nat.reduceBneDiff, Int.reduceLE, Int.reduceLT, Int.reduceToNat, Int.reduceBEq, Int.reduceBNe, Int.reduceAdd, Int.reduceSub, Int.cast_ofNat_Int]
  cases c6 : decide (hi < lo) with
  | true => simp -implicitDefEqProofs only [c6, go_sem, awp_seq, Nat.reduceBNe, Nat.reduceBEq, Nat.reduceAdd, Nat.reduceSub, Nat.reduceMul, Nat.reduceLeDiff, Nat.reduceLT, Nat.reduceEqDiff, Nat.reduceBneDiff, Int.reduceLE, Int.reduceLT, Int.reduceToNat, Int.reduceBEq, Int.reduceBNe, Int.reduceAdd, Int.reduceSub, Int.cast_ofNat_Int]
  | false => simp -implicitDefEqProofs only [c6, go_sem, awp_seq, Nat.reduceBNe, Nat.reduceBEq, Nat.reduceAdd, Nat.reduceSub, Nat.reduceMul, Nat.reduceLeDiff, Nat.reduceLT, Nat.reduceEqDiff, Nat.reduceBneDiff, Int.reduceLE, Int.reduceLT, Int.reduceToNat, Int.reduceBEq, Int.reduceBNe, Int.reduceAdd, Int.reduceSub, Int.cast_ofNat_Int]
theorem ruleNone_c (r : RuleV) (h : r.k < 1 ∨ 9 < r.k) : AT 45 [ruleA r] (i64 1) := by
  have W0 := within33_c r.k 1 9
  rw [show withinB r.k 1 9 = false by simp [withinB]; omega] at W0
  refine ACalls.of ⟨8, []⟩ (fn := Tryz.f45) Tryz.func45 rfl rfl rfl (by kernel_rfl) (by kernel_rfl) (Nat.le_of_ble_eq_true rfl) ?_
  simp -implicitDefEqProofs only [go_sem, awp_seq, Nat.reduceBNe, Nat.reduceBEq, Nat.reduceAdd, Nat.reduceSub, Nat.reduceMul, Nat.reduceLeDiff, Nat.reduceLT, Nat.reduceEqDiff, Nat.reduceBneDiff, Int.reduceLE, Int.reduceLT, Int.reduceToNat, Int.reduceBEq, Int.reduceBNe, Int.reduceAdd, Int.reduceSub, Int.cast_ofNat_Int]
  refine callA_tt W0 ?_
  simp -implicitDefEqProofs only [go_sem, awp_seq, Nat.reduceBNe, Nat.reduceBEq, Nat.reduceAdd, Nat.reduceSub, Nat.reduceMul, Nat.reduceLeDiff, Nat.reduceLT, Nat.reduceEqDiff, Nat.reduceBneDiff, Int.reduceLE, Int.reduceLT, Int.reduceToNat, Int.reduceBEq, Int.reduceBNe, Int.reduceAdd, Int.reduceSub, Int.cast_ofNat_Int]
end Go.Proofs.YtfchbehmeppckaaGreat

/- Chapter 38: specifications in the reference. INTS -/
set_option linter.unusedSimpArgs false
set_option linter.unusedVariables false
namespace Go.Proofs.YtfchbehmeppckaaGreat
open Go.RowKit Lim

def bndE (lo hi : Int) (e : Int) : Int := if lo < 0 ∨ 9999999 < lo ∨ hi < 0 ∨ 9999999 < hi then 3 else e
theorem boundsE_eq (a b : Int) : boundsE a b = bndE a b (if b < a then 23 else 0) := by
  unfold boundsE bndE
  simp only [Bool.or_eq_true, decide_eq_true_eq, or_assoc]
theorem within_bnd (lo hi e : Int) : (bif !(withinB lo 0 9999999) then 3 else bif !(withinB hi 0 9999999) then 3 else e) = bndE lo hi e := by
  have h1 : withinB lo 0 9999999 = decide (0 ≤ lo ∧ lo ≤ 9999999) := by simp [withinB]
  have h2 : withinB hi 0 9999999 = decide (0 ≤ hi ∧ hi ≤ 9999999) := by simp [withinB]
  rw [h1, h2]
  unfold bndE
  by_cases k1 : 0 ≤ lo ∧ lo ≤ 9999999
  · by_cases k2 : 0 ≤ hi ∧ hi ≤ 9999999
    · rw [decide_eq_true k1, decide_eq_true k2, if_neg (by omega)]; rfl
    · rw [decide_eq_true k1, decide_eq_false k2, if_pos (by omega)]; rfl
  · rw [decide_eq_false k1, if_pos (by omega)]; rfl
theorem ord_eq (lo hi : Int) : (bif decide (hi < lo) then (23 : Int) else 0) = if hi < lo then 23 else 0 := by by_cases h : hi < lo <;> simp [h]
theorem within_n (n m : Int) : withinB n 1 m = !(decide (n < 1) || decide (m < n)) := by
  unfold withinB
  by_cases h1 : 1 ≤ n <;> by_cases h2 : n ≤ m
  · rw [decide_eq_true h1, decide_eq_true h2, decide_eq_false (by omega), decide_eq_false (by omega)]; rfl
  · rw [decide_eq_true h1, decide_eq_false h2, decide_eq_false (by omega), decide_eq_true (by omega)]; rfl
  · rw [decide_eq_false h1, decide_eq_true (by omega : n < 1)]; rfl
  · rw [decide_eq_false h1, decide_eq_true (by omega : n < 1)]; rfl
theorem bne_bool (x : Int) : (x != 0) = !(x == 0) := rfl
section
variable (n lo hi : Int) (code : List UInt8)
theorem eq1 : ruleE ⟨1, n, lo, hi, code⟩ = r33E1 n lo hi code := by
  have e : ruleE ⟨1, n, lo, hi, code⟩ = if n == 0 then contE lo hi code else 1 := rfl
  rw [e, r33E1, within_bnd, ord_eq, contE, boundsE_eq, content_r13, bne_bool]
  cases n == 0 <;> cases r13V code <;> rfl
theorem eq2 : ruleE ⟨2, n, lo, hi, code⟩ = r33E2 n lo hi code := by
  have e : ruleE ⟨2, n, lo, hi, code⟩ = if (n == 0) && (lo == 0) && code.isEmpty then boundsE lo hi else 1 := rfl
  rw [e, r33E2, within_bnd, ord_eq, boundsE_eq, bne_bool, bne_bool]
  cases n == 0 <;> cases lo == 0 <;> cases code.isEmpty <;> rfl
theorem eq3 : ruleE ⟨3, n, lo, hi, code⟩ = r33E3 n lo hi code := by
  have e : ruleE ⟨3, n, lo, hi, code⟩ = if (n == 0) && (lo == 0) && code.isEmpty then boundsE lo hi else 1 := rfl
  rw [e, r33E3, within_bnd, ord_eq, boundsE_eq, bne_bool, bne_bool]
  cases n == 0 <;> cases lo == 0 <;> cases code.isEmpty <;> rfl
theorem eq4 : ruleE ⟨4, n, lo, hi, code⟩ = r33E4 n lo hi code := by
  have e : ruleE ⟨4, n, lo, hi, code⟩ = if (n == 0) && code.isEmpty then boundsE lo hi else 1 := rfl
  rw [e, r33E4, within_bnd, ord_eq, boundsE_eq, bne_bool]
  cases n == 0 <;> cases code.isEmpty <;> simp
theorem eq5 : ruleE ⟨5, n, lo, hi, code⟩ = r33E5 n lo hi code := by
  have e : ruleE ⟨5, n, lo, hi, code⟩ = if code.isEmpty then keyE lo hi n else 1 := by unfold ruleE demOk chkE; simp
  rw [e, r33E5, within_bnd, ord_eq, keyE, boundsE_eq, within_n]
  unfold bndE
  cases code.isEmpty <;> cases (decide (n < 1) || decide (10 < n)) <;> simp
theorem eq6 : ruleE ⟨6, n, lo, hi, code⟩ = r33E6 n lo hi code := by
  have e : ruleE ⟨6, n, lo, hi, code⟩ = if code.isEmpty then setE lo hi n else 1 := rfl
  rw [e, r33E6, within_bnd, ord_eq, setE, boundsE_eq, show numB n = withinB n 1 9999999 from rfl]
  unfold bndE
  cases code.isEmpty <;> cases withinB n 1 9999999 <;> cases lo == 0 <;> simp
theorem eq7 : ruleE ⟨7, n, lo, hi, code⟩ = r33E7 n lo hi code := by
  have e : ruleE ⟨7, n, lo, hi, code⟩ = if (lo == 0) && (hi == 0) && code.isEmpty then (if numB n then 0 else 3) else 1 := rfl
  rw [e, r33E7, within_bnd, ord_eq, show numB n = withinB n 1 9999999 from rfl, bne_bool, bne_bool]
  by_cases h1 : lo = 0
  · by_cases h2 : hi = 0
    · subst h1 h2; cases code.isEmpty <;> cases withinB n 1 9999999 <;> rfl
    · have : (hi == 0) = false := by simp [h2]
      rw [this]; cases code.isEmpty <;> cases lo == 0 <;> rfl
  · have : (lo == 0) = false := by simp [h1]
    rw [this]; cases code.isEmpty <;> rfl
theorem eq8 : ruleE ⟨8, n, lo, hi, code⟩ = r33E8 n lo hi code := by
  have e : ruleE ⟨8, n, lo, hi, code⟩ = if (lo == 0) && (hi == 0) && code.isEmpty then (if numB n then 0 else 3) else 1 := rfl
  rw [e, r33E8, within_bnd, ord_eq, show numB n = withinB n 1 9999999 from rfl, bne_bool, bne_bool]
  by_cases h1 : lo = 0
  · by_cases h2 : hi = 0
    · subst h1 h2; cases code.isEmpty <;> cases withinB n 1 9999999 <;> rfl
    · have : (hi == 0) = false := by simp [h2]
      rw [this]; cases code.isEmpty <;> cases lo == 0 <;> rfl
  · have : (lo == 0) = false := by simp [h1]
    rw [this]; cases code.isEmpty <;> rfl
theorem eq9 : ruleE ⟨9, n, lo, hi, code⟩ = r33E9 n lo hi code := by
  have e : ruleE ⟨9, n, lo, hi, code⟩ = if (n == 0) && (lo == 0) && (hi == 0) && code.isEmpty then 0 else 1 := rfl
  rw [e, r33E9, within_bnd, ord_eq, bne_bool, bne_bool, bne_bool]
  by_cases h1 : lo = 0
  · by_cases h2 : hi = 0
    · subst h1 h2; cases code.isEmpty <;> cases n == 0 <;> rfl
    · have : (hi == 0) = false := by simp [h2]
      rw [this]; cases code.isEmpty <;> cases lo == 0 <;> cases n == 0 <;> rfl
  · have : (lo == 0) = false := by simp [h1]
    rw [this]; cases code.isEmpty <;> cases n == 0 <;> rfl
end
theorem rule33_c (r : RuleV) : AT 45 [ruleA r] (i64 (ruleE r)) := by
  by_cases h0 : r.k < 1 ∨ 9 < r.k
  · have e : demOk r = false := by unfold demOk; repeat rw [if_neg (by omega)]
    rw [chk_no e]
    exact ruleNone_c r h0
  obtain ⟨k, n, lo, hi, code⟩ := r
  dsimp only at h0
  have h : k = 1 ∨ k = 2 ∨ k = 3 ∨ k = 4 ∨ k = 5 ∨ k = 6 ∨ k = 7 ∨ k = 8 ∨ k = 9 := by omega
  rcases h with rfl | rfl | rfl | rfl | rfl | rfl | rfl | rfl | rfl
  · rw [eq1]; exact rule1_c n lo hi code
  · rw [eq2]; exact rule2_c n lo hi code
  · rw [eq3]; exact rule3_c n lo hi code
  · rw [eq4]; exact rule4_c n lo hi code
  · rw [eq5]; exact rule5_c n lo hi code
  · rw [eq6]; exact rule6_c n lo hi code
  · rw [eq7]; exact rule7_c n lo hi code
  · rw [eq8]; exact rule8_c n lo hi code
  · rw [eq9]; exact rule9_c n lo hi code
theorem valid33_c (n : Int) (rs : List RuleV) : AT 24 [.agg [i64 n, rulesA rs]] (i64 (specE n rs)) := by
  have W := within33_c n 1 18
  rw [within_n] at W
  unfold specE
  cases c1 : (decide (n < 1) || decide (18 < n)) with
  | true =>
    rw [c1] at W
    rw [if_pos rfl]
    refine ACalls.of ⟨18, []⟩ (fn := Tryz.f24) Tryz.func24 rfl rfl rfl (by kernel_rfl) (by kernel_rfl) (Nat.le_of_ble_eq_true rfl) ?_
    simp -implicitDefEqProofs only [go_sem, awp_seq, Nat.reduceBNe, Nat.reduceBEq, Nat.reduceAdd, Nat.reduceSub, Nat.reduceMul, Nat.reduceLeDiff, Nat.reduceLT, Nat.reduceEqDiff, Nat.reduceBneDiff, Int.reduceLE, Int.reduceLT, Int.reduceToNat, Int.reduceBEq, Int.reduceBNe, Int.reduceAdd, Int.reduceSub, Int.cast_ofNat_Int]
    refine callA_tt W ?_
    simp -implicitDefEqProofs only [go_sem, awp_seq, Nat.reduceBNe, Nat.reduceBEq, Nat.reduceAdd, Nat.reduceSub, Nat.reduceMul, Nat.reduceLeDiff, Nat.reduceLT, Nat.reduceEqDiff, Nat.reduceBneDiff, Int.reduceLE, Int.reduceLT, Int.reduceToNat, Int.reduceBEq, Int.reduceBNe, Int.reduceAdd, Int.reduceSub, Int.cast_ofNat_Int]
  | false =>
  rw [c1] at W
  rw [if_neg (by simp)]
  by_cases h3 : 20 < rs.length
  · have g3 : decide ((20 : Int) < (rs.length : Nat)) = true := by simp; omega
    rw [if_pos h3]
    refine ACalls.of ⟨18, []⟩ (fn := Tryz.f24) Tryz.func24 rfl rfl rfl (by kernel_rfl) (by kernel_rfl) (Nat.le_of_ble_eq_true rfl) ?_
    simp -implicitDefEqProofs only [go_sem, awp_seq, Nat.reduceBNe, Nat.reduceBEq, Nat.reduceAdd, Nat.reduceSub, Nat.reduceMul, Nat.reduceLeDiff, Nat.reduceLT, Nat.reduceEqDiff, Nat.reduceBneDiff, Int.reduceLE, Int.reduceLT, Int.reduceToNat, Int.reduceBEq, Int.reduceBNe, Int.reduceAdd, Int.reduceSub, Int.cast_ofNat_Int]
    refine callA_tt W ?_
    simp -implicitDefEqProofs only [g3, List.length_map, go_sem, awp_seq, Nat.reduceBNe, Nat.reduceBEq, Nat.reduceAdd, Nat.reduceSub, Nat.reduceMul, Nat.reduceLeDiff, Nat.reduceLT, Nat.reduceEqDiff, Nat.reduceBneDiff, Int.reduceLE, Int.reduceLT, Int.reduceToNat, Int.reduceBEq, Int.reduceBNe, Int.reduceAdd, Int.reduceSub, Int.cast_ofNat_Int]
  have g3 : decide ((20 : Int) < (rs.length : Nat)) = false := by simp; omega
  rw [if_neg h3]
  obtain ⟨R, hR⟩ : ∃ R, R = rulesE rs := ⟨_, rfl⟩
  rw [← hR]
  refine ACalls.of ⟨18, []⟩ (fn := Tryz.f24) Tryz.func24 rfl rfl rfl (by kernel_rfl) (by kernel_rfl) (Nat.le_of_ble_eq_true rfl) ?_
  simp -implicitDefEqProofs only [go_sem, awp_seq, Nat.reduceBNe, Nat.reduceBEq, Nat.reduceAdd, Nat.reduceSub, Nat.reduceMul, Nat.reduceLeDiff, Nat.reduceLT, Nat.reduceEqDiff, Nat.reduceBneDiff, Int.reduceLE, Int.reduceLT, Int.reduceToNat, Int.reduceBEq, Int.reduceBNe, Int.reduceAdd, Int.reduceSub, Int.cast_ofNat_Int]
  refine callA_tt W ?_
  simp -implicitDefEqProofs only [g3, List.length_map, go_sem, awp_seq, Nat.reduceBNe, Nat.reduceBEq, Nat.reduceAdd, Nat.reduceSub, Nat.reduceMul, Nat.reduceLeDiff, Nat.reduceLT, Nat.reduceEqDiff, Nat.reduceBneDiff, Int.reduceLE, Int.reduceLT, Int.reduceToNat, Int.reduceBEq, Int.reduceBNe, Int.reduceAdd, Int.reduceSub, Int.cast_ofNat_Int]
  refine loop_mk (α := {k : Nat // k ≤ rs.length ∧ R = rulesE (rs.drop k)}) (fun k => [(0, some (.av (.agg [i64 n, rulesA rs]))), (1, some (.ref 1 0)), (2, some (.av (i64 0))), (15, some (.av (rulesA rs))), (16, some (.av (i64 (rs.length : Nat)))), (17, some (.av (i64 (k.1 : Nat))))]) (fun _ => [(1, [i64 n, rulesA rs])]) (fun _ => []) (fun k => rs.length - k.1) ⟨0, Nat.zero_le _, hR⟩ ?_ ?_
  · simp -implicitDefEqProofs only [go_sem, awp_seq, Nat.reduceBNe, Nat.reduceBEq, Nat.reduceAdd, Nat.reduceSub, Nat.reduceMul, Nat.reduceLeDiff, Nat.reduceLT, Nat.reduceEqDiff, Nat.reduceBneDiff, Int.reduceLE, Int.reduceLT, Int.reduceToNat, Int.reduceBEq, Int.reduceBNe, Int.reduceAdd, Int.reduceSub, Int.cast_ofNat_Int]
  · clear hR
    rintro ⟨k, hk, hR⟩
    by_cases hlt : k < rs.length
    · have g1 : decide (((k : Nat) : Int) < (rs.length : Nat)) = true := by simp; omega
      have e1 := map_get ruleA rs hlt
      have w1 : IntKind.i64.wrap ((k : Int) + 1) = ((k + 1 : Nat) : Int) := by rw [IntWalk.i64_in _ (by omega)]; omega
      rw [List.drop_eq_getElem_cons hlt] at hR
      generalize rs[k] = r at *
      have D := rule33_c r
      unfold rulesE at hR
      generalize ruleE r = e at *
      by_cases h5 : e ≠ 0
      · have g5 : (e != 0) = true := by simpa using h5
        rw [if_pos h5] at hR
        subst hR
        simp -implicitDefEqProofs only [g1, e1, Int.toNat_natCast, Int.natCast_nonneg, go_sem, awp_seq, Nat.reduceBNe, Nat.reduceBEq, Nat.reduceAdd, Nat.reduceSub, Nat.reduceMul, Nat.reduceLeDiff, Nat.reduceLT, Nat.reduceEqDiff, Nat.reduceBneDiff, Int.reduceLE, Int.reduceLT, Int.reduceToNat, Int.reduceBEq, Int.reduceBNe, Int.reduceAdd, Int.reduceSub, Int.cast_ofNat_Int]
        refine callA_tt D ?_
        simp -implicitDefEqProofs only [g5, go_sem, awp_seq, Nat.reduceBNe, Nat.reduceBEq, Nat.reduceAdd, Nat.reduceSub, Nat.reduceMul, Nat.reduceLeDiff, Nat.reduceLT, Nat.reduceEqDiff, Nat.reduceBneDiff, Int.reduceLE, Int.reduceLT, Int.reduceToNat, Int.reduceBEq, Int.reduceBNe, Int.reduceAdd, Int.reduceSub, Int.cast_ofNat_Int]
      · have g5 : (e != 0) = false := by simpa using h5
        rw [if_neg h5] at hR
        simp -implicitDefEqProofs only [g1, e1, Int.toNat_natCast, Int.natCast_nonneg, go_sem, awp_seq, Nat.reduceBNe, Nat.reduceBEq, Nat.reduceAdd, Nat.reduceSub, Nat.reduceMul, Nat.reduceLeDiff, Nat.reduceLT, Nat.reduceEqDiff, Nat.reduceBneDiff, Int.reduceLE, Int.reduceLT, Int.reduceToNat, Int.reduceBEq, Int.reduceBNe, Int.reduceAdd, Int.reduceSub, Int.cast_ofNat_Int]
        refine callA_tt D ?_
        simp -implicitDefEqProofs only [g5, w1, go_sem, awp_seq, Nat.reduceBNe, Nat.reduceBEq, Nat.reduceAdd, Nat.reduceSub, Nat.reduceMul, Nat.reduceLeDiff, Nat.reduceLT, Nat.reduceEqDiff, Nat.reduceBneDiff, Int.reduceLE, Int.reduceLT, Int.reduceToNat, Int.reduceBEq, Int.reduceBNe, Int.reduceAdd, Int.reduceSub, Int.cast_ofNat_Int]
        refine roundK_mk ⟨k + 1, by omega, hR⟩ ?_ (by show rs.length - (k + 1) < rs.length - k; omega)
        simp -implicitDefEqProofs only [go_sem, awp_seq, Nat.reduceBNe, Nat.reduceBEq, Nat.reduceAdd, Nat.reduceSub, Nat.reduceMul, Nat.reduceLeDiff, Nat.reduceLT, Nat.reduceEqDiff, Nat.reduceBneDiff, Int.reduceLE, Int.reduceLT, Int.reduceToNat, Int.reduceBEq, Int.reduceBNe, Int.reduceAdd, Int.reduceSub, Int.cast_ofNat_Int]
    · have g1 : decide (((k : Nat) : Int) < (rs.length : Nat)) = false := by simp; omega
      rw [List.drop_of_length_le (by omega)] at hR
      have hR : R = 0 := hR
      subst hR
      simp -implicitDefEqProofs only [g1, go_sem, awp_seq, Nat.reduceBNe, Nat.reduceBEq, Nat.reduceAdd, Nat.reduceSub, Nat.reduceMul, Nat.reduceLeDiff, Nat.reduceLT, Nat.reduceEqDiff, Nat.reduceBneDiff, Int.reduceLE, Int.reduceLT, Int.reduceToNat, Int.reduceBEq, Int.reduceBNe, Int.reduceAdd, Int.reduceSub, Int.cast_ofNat_Int]
end Go.Proofs.YtfchbehmeppckaaGreat

/- Chapter 38: grids and policies in the reference. INTS -/
set_option linter.unusedSimpArgs false
set_option linter.unusedVariables false
namespace Go.Proofs.YtfchbehmeppckaaGreat
open Go.RowKit Lim

theorem valid18_c (pts prs : List Int) : AT 25 [gridA pts prs] (i64 (gridE pts prs)) := by
  by_cases h1 : 21 < pts.length
  · have f1 : decide ((21 : Int) < (pts.length : Nat)) = true := by simp; omega
    have e : gridE pts prs = 5 := by unfold gridE; rw [if_pos h1]
    rw [e]
    refine ACalls.of ⟨6, []⟩ (fn := Tryz.f25) Tryz.func25 rfl rfl rfl (by kernel_rfl) (by kernel_rfl) (Nat.le_of_ble_eq_true rfl) ?_
    simp -implicitDefEqProofs only [List.length_map, f1, go_sem, awp_seq, Nat.reduceBNe, Nat.reduceBEq, Nat.reduceAdd, Nat.reduceSub, Nat.reduceMul, Nat.reduceLeDiff, Nat.reduceLT, Nat.reduceEqDiff, Nat.reduceBneDiff, Int.reduceLE, Int.reduceLT, Int.reduceToNat, Int.reduceBEq, Int.reduceBNe, Int.reduceAdd, Int.reduceSub, Int.cast_ofNat_Int]
  have f1 : decide ((21 : Int) < (pts.length : Nat)) = false := by simp; omega
  by_cases h2 : pts.length = 0
  · have e : gridE pts prs = 20 := by unfold gridE; rw [if_neg h1, if_pos h2]
    have f2 : (((pts.length : Nat) : Int) == 0) = true := by rw [h2]; rfl
    rw [e]
    refine ACalls.of ⟨6, []⟩ (fn := Tryz.f25) Tryz.func25 rfl rfl rfl (by kernel_rfl) (by kernel_rfl) (Nat.le_of_ble_eq_true rfl) ?_
    simp -implicitDefEqProofs only [List.length_map, f1, f2, go_sem, awp_seq, Nat.reduceBNe, Nat.reduceBEq, Nat.reduceAdd, Nat.reduceSub, Nat.reduceMul, Nat.reduceLeDiff, Nat.reduceLT, Nat.reduceEqDiff, Nat.reduceBneDiff, Int.reduceLE, Int.reduceLT, Int.reduceToNat, Int.reduceBEq, Int.reduceBNe, Int.reduceAdd, Int.reduceSub, Int.cast_ofNat_Int]
  have f2 : (((pts.length : Nat) : Int) == 0) = false := by rw [beq_eq_false_iff_ne]; omega
  by_cases h3 : prs.length ≠ pts.length
  · have e : gridE pts prs = 1 := by unfold gridE; rw [if_neg h1, if_neg h2, if_pos h3]
    have f3 : (((prs.length : Nat) : Int) != (pts.length : Nat)) = true := by rw [bne_iff_ne]; omega
    rw [e]
    refine ACalls.of ⟨6, []⟩ (fn := Tryz.f25) Tryz.func25 rfl rfl rfl (by kernel_rfl) (by kernel_rfl) (Nat.le_of_ble_eq_true rfl) ?_
    simp -implicitDefEqProofs only [List.length_map, f1, f2, f3, go_sem, awp_seq, Nat.reduceBNe, Nat.reduceBEq, Nat.reduceAdd, Nat.reduceSub, Nat.reduceMul, Nat.reduceLeDiff, Nat.reduceLT, Nat.reduceEqDiff, Nat.reduceBneDiff, Int.reduceLE, Int.reduceLT, Int.reduceToNat, Int.reduceBEq, Int.reduceBNe, Int.reduceAdd, Int.reduceSub, Int.cast_ofNat_Int]
  have h3' : prs.length = pts.length := by omega
  have f3 : (((prs.length : Nat) : Int) != (pts.length : Nat)) = false := by rw [h3']; simp
  have bad : ∀ k, k < pts.length → inR (pts.getD k 0) (prs.getD k 0) = false → gridE pts prs = 3 := fun k hk hb => by
    unfold gridE
    rw [if_neg h1, if_neg h2, if_neg h3, if_neg]
    intro hc
    have := List.all_eq_true.1 hc k (List.mem_range.2 hk)
    rw [hb] at this
    cases this
  refine ACalls.of ⟨6, []⟩ (fn := Tryz.f25) Tryz.func25 rfl rfl rfl (by kernel_rfl) (by kernel_rfl) (Nat.le_of_ble_eq_true rfl) ?_
  simp -implicitDefEqProofs only [List.length_map, f1, f2, f3, go_sem, awp_seq, Nat.reduceBNe, Nat.reduceBEq, Nat.reduceAdd, Nat.reduceSub, Nat.reduceMul, Nat.reduceLeDiff, Nat.reduceLT, Nat.reduceEqDiff, Nat.reduceBneDiff, Int.reduceLE, Int.reduceLT, Int.reduceToNat, Int.reduceBEq, Int.reduceBNe, Int.reduceAdd, Int.reduceSub, Int.cast_ofNat_Int]
  refine loop_mk (α := {k : Nat // k ≤ pts.length ∧ ∀ i, i < k → inR (pts.getD i 0) (prs.getD i 0) = true}) (fun k => [(0, some (.av (gridA pts prs))), (1, some (.ref 1 0)), (2, some (.av (i64 0))), (3, some (.av (i64 (pts.length : Nat)))), (4, some (.av (i64 (k.1 : Nat))))]) (fun _ => [(1, [ints pts, ints prs])]) (fun _ => []) (fun k => pts.length - k.1) ⟨0, Nat.zero_le _, fun i hi => by omega⟩ ?_ ?_
  · simp -implicitDefEqProofs only [go_sem, awp_seq, Nat.reduceBNe, Nat.reduceBEq, Nat.reduceAdd, Nat.reduceSub, Nat.reduceMul, Nat.reduceLeDiff, Nat.reduceLT, Nat.reduceEqDiff, Nat.reduceBneDiff, Int.reduceLE, Int.reduceLT, Int.reduceToNat, Int.reduceBEq, Int.reduceBNe, Int.reduceAdd, Int.reduceSub, Int.cast_ofNat_Int]
  · rintro ⟨k, hk, hall⟩
    by_cases hlt : k < pts.length
    · have g1 : decide (((k : Nat) : Int) < (pts.length : Nat)) = true := by simp; omega
      have e1 := map_get (fun x => i64 x) pts hlt
      have e2 := map_get (fun x => i64 x) prs (show k < prs.length by omega)
      have d1 := getD_get pts hlt
      have d2 := getD_get prs (show k < prs.length by omega)
      have w1 : IntKind.i64.wrap ((k : Int) + 1) = ((k + 1 : Nat) : Int) := by rw [IntWalk.i64_in _ (by omega)]; omega
      have b0 := bad k hlt
      rw [d1, d2] at b0
      generalize pts[k] = p at *
      generalize prs[k] = r at *
      cases c1 : decide (p < -1000) with
      | true =>
        have e := b0 (by simp [inR, c1])
        simp -implicitDefEqProofs only [g1, e1, e2, c1, e, Int.toNat_natCast, Int.natCast_nonneg, go_sem, awp_seq, Nat.reduceBNe, Nat.reduceBEq, Nat.reduceAdd, Nat.reduceSub, Nat.reduceMul, Nat.reduceLeDiff, Nat.reduceLT, Nat.reduceEqDiff, Nat.reduceBneDiff, Int.reduceLE, Int.reduceLT, Int.reduceToNat, Int.reduceBEq, Int.reduceBNe, Int.reduceAdd, Int.reduceSub, Int.cast_ofNat_Int]
      | false =>
        cases c2 : decide (1000 < p) with
        | true =>
          have e := b0 (by simp [inR, c2])
          simp -implicitDefEqProofs only [g1, e1, e2, c1, c2, e, Int.toNat_natCast, Int.natCast_nonneg, go_sem, awp_seq, Nat.reduceBNe, Nat.reduceBEq, Nat.reduceAdd, Nat.reduceSub, Nat.reduceMul, Nat.reduceLeDiff, Nat.reduceLT, Nat.reduceEqDiff, Nat.reduceBneDiff, Int.reduceLE, Int.reduceLT, Int.reduceToNat, Int.reduceBEq, Int.reduceBNe, Int.reduceAdd, Int.reduceSub, Int.cast_ofNat_Int]
        | false =>
          cases c3 : decide (r < 1) with
          | true =>
            have e := b0 (by simp [inR, c3])
            simp -implicitDefEqProofs only [g1, e1, e2, c1, c2, c3, e, Int.toNat_natCast, Int.natCast_nonneg, go_sem, awp_seq, Nat.reduceBNe, Nat.reduceBEq, Nat.reduceAdd, Nat.reduceSub, Nat.reduceMul, Nat.reduceLeDiff, Nat.reduceLT, Nat.reduceEqDiff, Nat.reduceBneDiff, Int.reduceLE, Int.reduceLT, Int.reduceToNat, Int.reduceBEq, Int.reduceBNe, Int.reduceAdd, Int.reduceSub, Int.cast_ofNat_Int]
          | false =>
            cases c4 : decide (1000 < r) with
            | true =>
              have e := b0 (by simp [inR, c4])
              simp -implicitDefEqProofs only [g1, e1, e2, c1, c2, c3, c4, e, Int.toNat_natCast, Int.natCast_nonneg, go_sem, awp_seq, Nat.reduceBNe, Nat.reduceBEq, Nat.reduceAdd, Nat.reduceSub, Nat.reduceMul, Nat.reduceLeDiff, Nat.reduceLT, Nat.reduceEqDiff, Nat.reduceBneDiff, Int.reduceLE, Int.reduceLT, Int.reduceToNat, Int.reduceBEq, Int.reduceBNe, Int.reduceAdd, Int.reduceSub, Int.cast_ofNat_Int]
            | false =>
              simp -implicitDefEqProofs only [g1, e1, e2, c1, c2, c3, c4, w1, Int.toNat_natCast, Int.natCast_nonneg, go_sem, awp_seq, Nat.reduceBNe, Nat.reduceBEq, Nat.reduceAdd, Nat.reduceSub, Nat.reduceMul, Nat.reduceLeDiff, Nat.reduceLT, Nat.reduceEqDiff, Nat.reduceBneDiff, Int.reduceLE, Int.reduceLT, Int.reduceToNat, Int.reduceBEq, Int.reduceBNe, Int.reduceAdd, Int.reduceSub, Int.cast_ofNat_Int]
              refine roundK_mk ⟨k + 1, by omega, fun i hi => ?_⟩ ?_ (by show pts.length - (k + 1) < pts.length - k; omega)
              · by_cases hik : i = k
                · subst hik; rw [d1, d2]; simp [inR, c1, c2, c3, c4]
                · exact hall i (by omega)
              · simp -implicitDefEqProofs only [go_sem, awp_seq, Nat.reduceBNe, Nat.reduceBEq, Nat.reduceAdd, Nat.reduceSub, Nat.reduceMul, Nat.reduceLeDiff, Nat.reduceLT, Nat.reduceEqDiff, Nat.reduceBneDiff, Int.reduceLE, Int.reduceLT, Int.reduceToNat, Int.reduceBEq, Int.reduceBNe, Int.reduceAdd, Int.reduceSub, Int.cast_ofNat_Int]
    · have g1 : decide (((k : Nat) : Int) < (pts.length : Nat)) = false := by simp; omega
      have hk' : k = pts.length := by omega
      subst hk'
      have hA : (List.range pts.length).all (fun i => inR (pts.getD i 0) (prs.getD i 0)) = true := List.all_eq_true.2 fun i hi => hall i (List.mem_range.1 hi)
      have bad2 : ∀ j, j + 1 < pts.length → ¬ pts.getD j 0 < pts.getD (j + 1) 0 → gridE pts prs = 23 := fun j hj hb => by
        unfold gridE
        rw [if_neg h1, if_neg h2, if_neg h3, if_pos hA, if_neg]
        intro hc
        have := List.all_eq_true.1 hc j (List.mem_range.2 (by omega))
        exact hb (of_decide_eq_true this)
      simp -implicitDefEqProofs only [g1, go_sem, awp_seq, Nat.reduceBNe, Nat.reduceBEq, Nat.reduceAdd, Nat.reduceSub, Nat.reduceMul, Nat.reduceLeDiff, Nat.reduceLT, Nat.reduceEqDiff, Nat.reduceBneDiff, Int.reduceLE, Int.reduceLT, Int.reduceToNat, Int.reduceBEq, Int.reduceBNe, Int.reduceAdd, Int.reduceSub, Int.cast_ofNat_Int]
      refine loop_mk (α := {j : Nat // j + 1 ≤ pts.length ∧ ∀ i, i < j → pts.getD i 0 < pts.getD (i + 1) 0}) (fun j => [(0, some (.av (gridA pts prs))), (1, some (.ref 1 0)), (2, some (.av (i64 0))), (3, some (.av (i64 (pts.length : Nat)))), (5, some (.av (i64 (j.1 + 1 : Nat))))]) (fun _ => [(1, [ints pts, ints prs])]) (fun _ => []) (fun j => pts.length - j.1) ⟨0, by omega, fun i hi => by omega⟩ ?_ ?_
      · simp -implicitDefEqProofs only [go_sem, awp_seq, Nat.reduceBNe, Nat.reduceBEq, Nat.reduceAdd, Nat.reduceSub, Nat.reduceMul, Nat.reduceLeDiff, Nat.reduceLT, Nat.reduceEqDiff, Nat.reduceBneDiff, Int.reduceLE, Int.reduceLT, Int.reduceToNat, Int.reduceBEq, Int.reduceBNe, Int.reduceAdd, Int.reduceSub, Int.cast_ofNat_Int]
      · rintro ⟨j, hj, hall2⟩
        by_cases hlt2 : j + 1 < pts.length
        · have g2 : decide (((j + 1 : Nat) : Int) < (pts.length : Nat)) = true := by simp only [decide_eq_true_eq]; omega
          have e1 := map_get (fun x => i64 x) pts hlt2
          have e2 := map_get (fun x => i64 x) pts (show j < pts.length by omega)
          have d1 := getD_get pts hlt2
          have d2 := getD_get pts (show j < pts.length by omega)
          have w1 : IntKind.i64.wrap (((j + 1 : Nat) : Int) + 1) = ((j + 1 + 1 : Nat) : Int) := by rw [IntWalk.i64_in _ (by omega)]; omega
          have w2 : IntKind.i64.wrap (((j + 1 : Nat) : Int) - 1) = ((j : Nat) : Int) := by rw [IntWalk.i64_in _ (by omega)]; omega
          have b0 := bad2 j hlt2
          rw [d1, d2] at b0
          generalize pts[j + 1] = p at *
          generalize pts[j] = r at *
          cases c1 : decide (p ≤ r) with
          | true =>
            have e := b0 (by simp at c1; omega)
            simp -implicitDefEqProofs only [List.length_map, g2, e1, e2, w2, c1, e, Int.toNat_natCast, Int.natCast_nonneg, go_sem, awp_seq, Nat.reduceBNe, Nat.reduceBEq, Nat.reduceAdd, Nat.reduceSub, Nat.reduceMul, Nat.reduceLeDiff, Nat.reduceLT, Nat.reduceEqDiff, Nat.reduceBneDiff, Int.reduceLE, Int.reduceLT, Int.reduceToNat, Int.reduceBEq, Int.reduceBNe, Int.reduceAdd, Int.reduceSub, Int.cast_ofNat_Int]
          | false =>
            simp -implicitDefEqProofs only [List.length_map, g2, e1, e2, w1, w2, c1, Int.toNat_natCast, Int.natCast_nonneg, go_sem, awp_seq, Nat.reduceBNe, Nat.reduceBEq, Nat.reduceAdd, Nat.reduceSub, Nat.reduceMul, Nat.reduceLeDiff, Nat.reduceLT, Nat.reduceEqDiff, Nat.reduceBneDiff, Int.reduceLE, Int.reduceLT, Int.reduceToNat, Int.reduceBEq, Int.reduceBNe, Int.reduceAdd, Int.reduceSub, Int.cast_ofNat_Int]
            refine roundK_mk ⟨j + 1, by omega, fun i hi => ?_⟩ ?_ (by show pts.length - (j + 1) < pts.length - j; omega)
            · by_cases hik : i = j
              · subst hik; rw [d1, d2]; simp at c1; omega
              · exact hall2 i (by omega)
            · simp -implicitDefEqProofs only [go_sem, awp_seq, Nat.reduceBNe, Nat.reduceBEq, Nat.reduceAdd, Nat.reduceSub, Nat.reduceMul, Nat.reduceLeDiff, Nat.reduceLT, Nat.reduceEqDiff, Nat.reduceBneDiff, Int.reduceLE, Int.reduceLT, Int.reduceToNat, Int.reduceBEq, Int.reduceBNe, Int.reduceAdd, Int.reduceSub, Int.cast_ofNat_Int]
        · have g2 : decide (((j + 1 : Nat) : Int) < (pts.length : Nat)) = false := by simp only [decide_eq_false_iff_not]; omega
          have e : gridE pts prs = 0 := by
            unfold gridE
            rw [if_neg h1, if_neg h2, if_neg h3, if_pos hA, if_pos]
            exact List.all_eq_true.2 fun i hi => decide_eq_true (hall2 i (by have := List.mem_range.1 hi; omega))
          simp -implicitDefEqProofs only [List.length_map, g2, e, go_sem, awp_seq, Nat.reduceBNe, Nat.reduceBEq, Nat.reduceAdd, Nat.reduceSub, Nat.reduceMul, Nat.reduceLeDiff, Nat.reduceLT, Nat.reduceEqDiff, Nat.reduceBneDiff, Int.reduceLE, Int.reduceLT, Int.reduceToNat, Int.reduceBEq, Int.reduceBNe, Int.reduceAdd, Int.reduceSub, Int.cast_ofNat_Int]
end Go.Proofs.YtfchbehmeppckaaGreat
