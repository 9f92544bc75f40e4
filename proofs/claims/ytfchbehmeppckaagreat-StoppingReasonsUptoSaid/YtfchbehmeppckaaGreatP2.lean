import Derived.Test.YtfchbehmeppckaaGreatP1
/- Texts merged: Ws3 Ws4 Ws5 Ws6 Ws7 Ws8 Ws9 WsA WsB WsC WsD WsE. -/
/- Chapter 38: moments of weights on a grid; the variance. INTS -/
set_option linter.unusedSimpArgs false
set_option linter.unusedVariables false
namespace Go.Proofs.YtfchbehmeppckaaGreat
open Go.RowKit Lim

abbrev nats (ws : List (List Nat)) : AV := .sl 1 (ws.map AV.nat)
abbrev int0 : AV := .agg [boo false, .nat []]
/-- The sum of the first k weights, each times f of its point. -/
def mom (f : Int → Int) (pts : List Int) (ws : List (List Nat)) : Nat → Int
  | 0 => 0
  | k + 1 => mom f pts ws k + (val (ws.getD k []) : Int) * f (pts.getD k 0)
abbrev intC (z : Int) : List AV := [boo (decide (z < 0)), .nat (limbs z.natAbs)]
theorem intC_zero : intC 0 = [boo false, .nat []] := by simp [limbs_zero]
/-- Weights that are not too long. -/
def WOK (ws : List (List Nat)) : Prop := ∀ x ∈ ws, Dig x ∧ x.length ≤ 2000000
theorem WOK.get {ws : List (List Nat)} (h : WOK ws) (k : Nat) : Dig (ws.getD k []) ∧ (ws.getD k []).length ≤ 2000000 := by
  by_cases hk : k < ws.length
  · have : ws.getD k [] = ws[k] := by simp [List.getD, hk]
    rw [this]
    exact h _ (List.getElem_mem hk)
  · have : ws.getD k [] = [] := by simp [List.getD, hk]
    rw [this]
    exact ⟨dig_nil, by simp⟩
theorem nlen_small32 {z : Int} (h : z.natAbs < 4294967296) : nlen z.natAbs ≤ 1 := nlen_u32 h
theorem mom_len {f : Int → Int} {pts : List Int} {ws : List (List Nat)} (hw : WOK ws) (hf : ∀ i, (f (pts.getD i 0)).natAbs < 4294967296) : ∀ k, nlen (mom f pts ws k).natAbs ≤ 2000002 + k
  | 0 => by simp [mom, nlen_zero]
  | k + 1 => by
    have ih := mom_len hw hf k
    obtain ⟨h1, h2⟩ := hw.get k
    have h3 := nlen_val h1
    have h4 : nlen ((val (ws.getD k []) : Int) * f (pts.getD k 0)).natAbs ≤ nlen (val (ws.getD k [])) + nlen (f (pts.getD k 0)).natAbs := by rw [Int.natAbs_mul, Int.natAbs_natCast]; exact nlen_mul _ _
    have h5 := nlen_small32 (hf k)
    have h6 := nlen_mono (Int.natAbs_add_le (mom f pts ws k) ((val (ws.getD k []) : Int) * f (pts.getD k 0)))
    have h7 := nlen_add (mom f pts ws k).natAbs ((val (ws.getD k []) : Int) * f (pts.getD k 0)).natAbs
    show nlen (mom f pts ws k + (val (ws.getD k []) : Int) * f (pts.getD k 0)).natAbs ≤ _
    omega
theorem grid_ok {pts prs : List Int} (h : gridE pts prs = 0) : pts.length ≤ 21 ∧ 0 < pts.length ∧ prs.length = pts.length ∧ ∀ i, -1000 ≤ pts.getD i 0 ∧ pts.getD i 0 ≤ 1000 := by
  unfold gridE at h
  by_cases h1 : 21 < pts.length
  · rw [if_pos h1] at h; cases h
  rw [if_neg h1] at h
  by_cases h2 : pts.length = 0
  · rw [if_pos h2] at h; cases h
  rw [if_neg h2] at h
  by_cases h3 : prs.length ≠ pts.length
  · rw [if_pos h3] at h; cases h
  rw [if_neg h3] at h
  by_cases h4 : (List.range pts.length).all (fun i => inR (pts.getD i 0) (prs.getD i 0)) = true
  · refine ⟨by omega, by omega, by omega, fun i => ?_⟩
    by_cases hi : i < pts.length
    · have := List.all_eq_true.1 h4 i (List.mem_range.2 hi)
      simp only [inR, Bool.not_eq_true', Bool.or_eq_false_iff, decide_eq_false_iff_not] at this
      omega
    · have : pts.getD i 0 = 0 := by simp [List.getD, hi]
      omega
  · rw [if_neg h4] at h; cases h
def f0 (_ : Int) : Int := 1
def f1 (x : Int) : Int := x
def f2 (x : Int) : Int := x * x
/-- What 'sums' returns. -/
def sumsR (pts prs : List Int) (ws : List (List Nat)) : AV :=
  if gridE pts prs ≠ 0 then .tup [int0, int0, int0, i64 (gridE pts prs)]
  else if ws.length ≠ pts.length then .tup [int0, int0, int0, i64 1]
  else if mom f0 pts ws pts.length = 0 then .tup [int0, int0, int0, i64 20]
  else .tup [intN (mom f0 pts ws pts.length), intN (mom f1 pts ws pts.length), intN (mom f2 pts ws pts.length), i64 0]
set_option maxHeartbeats 2000000 in
theorem sums_c (pts prs : List Int) (ws : List (List Nat)) (hw : WOK ws) : AC 77 [gridA pts prs, nats ws] (sumsR pts prs ws) := by
  have G := gvalid_c pts prs
  by_cases h1 : gridE pts prs ≠ 0
  · have g1 : (gridE pts prs != 0) = true := by simpa using h1
    rw [show sumsR pts prs ws = .tup [int0, int0, int0, i64 (gridE pts prs)] by unfold sumsR; rw [if_pos h1]]
    refine ACalls.of ⟨38, []⟩ (fn := Tryz.f77) Tryz.func77 rfl rfl rfl (by kernel_rfl) (by kernel_rfl) (Nat.le_of_ble_eq_true rfl) ?_
    simp -implicitDefEqProofs only [go_sem, awp_seq, Nat.reduceBNe, Nat.reduceBEq, Nat.reduceAdd, Nat.reduceSub, Nat.reduceMul, Nat.reduceLeDiff, Nat.reduceLT, Nat.reduceEqDiff, Nat.reduceBneDiff, Int.reduceLE, Int.reduceLT, Int.reduceToNat, Int.reduceBEq, Int.reduceBNe, Int.reduceAdd, Int.reduceSub, Int.cast_ofNat_Int]
    refine callA_t G ?_
    simp -implicitDefEqProofs only [g1, go_sem, awp_seq, Nat.reduceBNe, Nat.reduceBEq, Nat.reduceAdd, Nat.reduceSub, Nat.reduceMul, Nat.reduceLeDiff, Nat.reduceLT, Nat.reduceEqDiff, Nat.reduceBneDiff, Int.reduceLE, Int.reduceLT, Int.reduceToNat, Int.reduceBEq, Int.reduceBNe, Int.reduceAdd, Int.reduceSub, Int.cast_ofNat_Int]
  have h1' : gridE pts prs = 0 := by omega
  have g1 : (gridE pts prs != 0) = false := by simp [h1']
  obtain ⟨k1, k2, k3, k4⟩ := grid_ok h1'
  by_cases h2 : ws.length ≠ pts.length
  · have g2 : (((ws.length : Nat) : Int) != (pts.length : Nat)) = true := by rw [bne_iff_ne]; omega
    rw [show sumsR pts prs ws = .tup [int0, int0, int0, i64 1] by unfold sumsR; rw [if_neg h1, if_pos h2]]
    refine ACalls.of ⟨38, []⟩ (fn := Tryz.f77) Tryz.func77 rfl rfl rfl (by kernel_rfl) (by kernel_rfl) (Nat.le_of_ble_eq_true rfl) ?_
    simp -implicitDefEqProofs only [go_sem, awp_seq, Nat.reduceBNe, Nat.reduceBEq, Nat.reduceAdd, Nat.reduceSub, Nat.reduceMul, Nat.reduceLeDiff, Nat.reduceLT, Nat.reduceEqDiff, Nat.reduceBneDiff, Int.reduceLE, Int.reduceLT, Int.reduceToNat, Int.reduceBEq, Int.reduceBNe, Int.reduceAdd, Int.reduceSub, Int.cast_ofNat_Int]
    refine callA_t G ?_
    simp -implicitDefEqProofs only [g1, g2, List.length_map, go_sem, awp_seq, Nat.reduceBNe, Nat.reduceBEq, Nat.reduceAdd, Nat.reduceSub, Nat.reduceMul, Nat.reduceLeDiff, Nat.reduceLT, Nat.reduceEqDiff, Nat.reduceBneDiff, Int.reduceLE, Int.reduceLT, Int.reduceToNat, Int.reduceBEq, Int.reduceBNe, Int.reduceAdd, Int.reduceSub, Int.cast_ofNat_Int]
  have h2' : ws.length = pts.length := by omega
  have g2 : (((ws.length : Nat) : Int) != (pts.length : Nat)) = false := by rw [h2']; simp
  have b0 := mom_len (f := f0) (pts := pts) hw (fun i => by simp [f0])
  have b1 := mom_len (f := f1) (pts := pts) hw (fun i => by have := k4 i; simp only [f1]; omega)
  have sq : ∀ i, (f2 (pts.getD i 0)).natAbs < 4294967296 := fun i => by
    have := k4 i
    simp only [f2]
    rw [Int.natAbs_mul]
    have h : (pts.getD i 0).natAbs ≤ 1000 := by omega
    have := Nat.mul_le_mul h h
    omega
  have b2 := mom_len (f := f2) (pts := pts) hw sq
  refine ACalls.of ⟨38, []⟩ (fn := Tryz.f77) Tryz.func77 rfl rfl rfl (by kernel_rfl) (by kernel_rfl) (Nat.le_of_ble_eq_true rfl) ?_
  simp -implicitDefEqProofs only [go_sem, awp_seq, Nat.reduceBNe, Nat.reduceBEq, Nat.reduceAdd, Nat.reduceSub, Nat.reduceMul, Nat.reduceLeDiff, Nat.reduceLT, Nat.reduceEqDiff, Nat.reduceBneDiff, Int.reduceLE, Int.reduceLT, Int.reduceToNat, Int.reduceBEq, Int.reduceBNe, Int.reduceAdd, Int.reduceSub, Int.cast_ofNat_Int]
  refine callA_t G ?_
  simp -implicitDefEqProofs only [g1, g2, List.length_map, go_sem, awp_seq, Nat.reduceBNe, Nat.reduceBEq, Nat.reduceAdd, Nat.reduceSub, Nat.reduceMul, Nat.reduceLeDiff, Nat.reduceLT, Nat.reduceEqDiff, Nat.reduceBneDiff, Int.reduceLE, Int.reduceLT, Int.reduceToNat, Int.reduceBEq, Int.reduceBNe, Int.reduceAdd, Int.reduceSub, Int.cast_ofNat_Int]
  refine loop_mk (α := {k : Nat // k ≤ pts.length}) (fun k => [(0, some (.av (gridA pts prs))), (1, some (.av (nats ws))), (2, some (.ref 2 0)), (4, some (.ref 4 0)), (5, some (.ref 5 0)), (6, some (.ref 6 0)), (7, some (.av (i64 0))), (9, some (.ref 9 0)), (10, some (.ref 10 0)), (11, some (.ref 11 0)), (35, some (.av (ints pts))), (36, some (.av (i64 (pts.length : Nat)))), (37, some (.av (i64 (k.1 : Nat))))])
    (fun k => [(2, [ints pts, ints prs]), (4, [boo false, .nat []]), (5, [boo false, .nat []]), (6, [boo false, .nat []]), (9, intC (mom f0 pts ws k.1)), (10, intC (mom f1 pts ws k.1)), (11, intC (mom f2 pts ws k.1))]) (fun _ => []) (fun k => pts.length - k.1) ⟨0, Nat.zero_le _⟩ ?_ ?_
  · simp -implicitDefEqProofs only [mom, intC_zero, go_sem, awp_seq, Nat.reduceBNe, Nat.reduceBEq, Nat.reduceAdd, Nat.reduceSub, Nat.reduceMul, Nat.reduceLeDiff, Nat.reduceLT, Nat.reduceEqDiff, Nat.reduceBneDiff, Int.reduceLE, Int.reduceLT, Int.reduceToNat, Int.reduceBEq, Int.reduceBNe, Int.reduceAdd, Int.reduceSub, Int.cast_ofNat_Int]
  · rintro ⟨k, hk⟩
    by_cases hlt : k < pts.length
    · have q1 : decide (((k : Nat) : Int) < (pts.length : Nat)) = true := by simp; omega
      have e1 := map_get (fun x => i64 x) pts hlt
      have e2 := map_get AV.nat ws (show k < ws.length by omega)
      have d1 := getD_get pts hlt
      have d2 : ws.getD k [] = ws[k] := by simp [List.getD, show k < ws.length by omega]
      have w1 : IntKind.i64.wrap ((k : Int) + 1) = ((k + 1 : Nat) : Int) := by rw [IntWalk.i64_in _ (by omega)]; omega
      obtain ⟨v1, v2⟩ := hw.get k
      have v3 := nlen_val v1
      have p1 := k4 k
      have hp : nlen (pts.getD k 0).natAbs ≤ 1 := nlen_small32 (by omega)
      have a0 := b0 k
      have a1 := b1 k
      have a2 := b2 k
      have m1 : mom f0 pts ws (k + 1) = mom f0 pts ws k + (val (ws.getD k []) : Int) := by simp [mom, f0]
      have m2 : mom f1 pts ws (k + 1) = mom f1 pts ws k + (val (ws.getD k []) : Int) * pts.getD k 0 := by simp [mom, f1]
      have m3 : mom f2 pts ws (k + 1) = mom f2 pts ws k + (val (ws.getD k []) : Int) * pts.getD k 0 * pts.getD k 0 := by simp [mom, f2, Int.mul_assoc]
      rw [d1] at p1 hp m2 m3
      rw [d2] at v1 v2 v3 m1 m2 m3
      generalize pts[k] = p at *
      generalize ws[k] = x at *
      have n1 : nlen ((val x : Int) * p).natAbs ≤ nlen (val x) + nlen p.natAbs := by rw [Int.natAbs_mul, Int.natAbs_natCast]; exact nlen_mul _ _
      have n2 : nlen ((val x : Int) * p * p).natAbs ≤ nlen ((val x : Int) * p).natAbs + nlen p.natAbs := by rw [Int.natAbs_mul]; exact nlen_mul _ _
      simp -implicitDefEqProofs only [q1, e1, e2, Int.toNat_natCast, Int.natCast_nonneg, go_sem, awp_seq, Nat.reduceBNe, Nat.reduceBEq, Nat.reduceAdd, Nat.reduceSub, Nat.reduceMul, Nat.reduceLeDiff, Nat.reduceLT, Nat.reduceEqDiff, Nat.reduceBneDiff, Int.reduceLE, Int.reduceLT, Int.reduceToNat, Int.reduceBEq, Int.reduceBNe, Int.reduceAdd, Int.reduceSub, Int.cast_ofNat_Int]
      refine callA_mk (imake_c false (n := val x) ⟨x, rfl, rfl, by omega⟩) ?_
      simp -implicitDefEqProofs only [sg_false, go_sem, awp_seq, Nat.reduceBNe, Nat.reduceBEq, Nat.reduceAdd, Nat.reduceSub, Nat.reduceMul, Nat.reduceLeDiff, Nat.reduceLT, Nat.reduceEqDiff, Nat.reduceBneDiff, Int.reduceLE, Int.reduceLT, Int.reduceToNat, Int.reduceBEq, Int.reduceBNe, Int.reduceAdd, Int.reduceSub, Int.cast_ofNat_Int]
      refine callA_mk (iof_c p (by omega) (by omega)) ?_
      simp -implicitDefEqProofs only [go_sem, awp_seq, Nat.reduceBNe, Nat.reduceBEq, Nat.reduceAdd, Nat.reduceSub, Nat.reduceMul, Nat.reduceLeDiff, Nat.reduceLT, Nat.reduceEqDiff, Nat.reduceBneDiff, Int.reduceLE, Int.reduceLT, Int.reduceToNat, Int.reduceBEq, Int.reduceBNe, Int.reduceAdd, Int.reduceSub, Int.cast_ofNat_Int]
      refine callA_mk (imul_c (isI (val x : Int) (by rw [Int.natAbs_natCast]; omega)) (isI p (by omega)) (by rw [Int.natAbs_natCast]; omega)) ?_
      simp -implicitDefEqProofs only [go_sem, awp_seq, Nat.reduceBNe, Nat.reduceBEq, Nat.reduceAdd, Nat.reduceSub, Nat.reduceMul, Nat.reduceLeDiff, Nat.reduceLT, Nat.reduceEqDiff, Nat.reduceBneDiff, Int.reduceLE, Int.reduceLT, Int.reduceToNat, Int.reduceBEq, Int.reduceBNe, Int.reduceAdd, Int.reduceSub, Int.cast_ofNat_Int]
      refine callA_mk (iadd_c (isI (mom f0 pts ws k) (by omega)) (isI (val x : Int) (by rw [Int.natAbs_natCast]; omega)) (by rw [Int.natAbs_natCast]; omega)) ?_
      simp -implicitDefEqProofs only [go_sem, awp_seq, Nat.reduceBNe, Nat.reduceBEq, Nat.reduceAdd, Nat.reduceSub, Nat.reduceMul, Nat.reduceLeDiff, Nat.reduceLT, Nat.reduceEqDiff, Nat.reduceBneDiff, Int.reduceLE, Int.reduceLT, Int.reduceToNat, Int.reduceBEq, Int.reduceBNe, Int.reduceAdd, Int.reduceSub, Int.cast_ofNat_Int]
      refine callA_mk (iadd_c (isI (mom f1 pts ws k) (by omega)) (isI ((val x : Int) * p) (by omega)) (by omega)) ?_
      simp -implicitDefEqProofs only [go_sem, awp_seq, Nat.reduceBNe, Nat.reduceBEq, Nat.reduceAdd, Nat.reduceSub, Nat.reduceMul, Nat.reduceLeDiff, Nat.reduceLT, Nat.reduceEqDiff, Nat.reduceBneDiff, Int.reduceLE, Int.reduceLT, Int.reduceToNat, Int.reduceBEq, Int.reduceBNe, Int.reduceAdd, Int.reduceSub, Int.cast_ofNat_Int]
      refine callA_mk (imul_c (isI ((val x : Int) * p) (by omega)) (isI p (by omega)) (by omega)) ?_
      simp -implicitDefEqProofs only [go_sem, awp_seq, Nat.reduceBNe, Nat.reduceBEq, Nat.reduceAdd, Nat.reduceSub, Nat.reduceMul, Nat.reduceLeDiff, Nat.reduceLT, Nat.reduceEqDiff, Nat.reduceBneDiff, Int.reduceLE, Int.reduceLT, Int.reduceToNat, Int.reduceBEq, Int.reduceBNe, Int.reduceAdd, Int.reduceSub, Int.cast_ofNat_Int]
      refine callA_mk (iadd_c (isI (mom f2 pts ws k) (by omega)) (isI ((val x : Int) * p * p) (by omega)) (by omega)) ?_
      simp -implicitDefEqProofs only [w1, ← m1, ← m2, ← m3, go_sem, awp_seq, Nat.reduceBNe, Nat.reduceBEq, Nat.reduceAdd, Nat.reduceSub, Nat.reduceMul, Nat.reduceLeDiff, Nat.reduceLT, Nat.reduceEqDiff, Nat.reduceBneDiff, Int.reduceLE, Int.reduceLT, Int.reduceToNat, Int.reduceBEq, Int.reduceBNe, Int.reduceAdd, Int.reduceSub, Int.cast_ofNat_Int]
      refine roundK_mk ⟨k + 1, hlt⟩ ?_ (by show pts.length - (k + 1) < pts.length - k; omega)
      simp -implicitDefEqProofs only [go_sem, awp_seq, Nat.reduceBNe, Nat.reduceBEq, Nat.reduceAdd, Nat.reduceSub, Nat.reduceMul, Nat.reduceLeDiff, Nat.reduceLT, Nat.reduceEqDiff, Nat.reduceBneDiff, Int.reduceLE, Int.reduceLT, Int.reduceToNat, Int.reduceBEq, Int.reduceBNe, Int.reduceAdd, Int.reduceSub, Int.cast_ofNat_Int]
    · have q1 : decide (((k : Nat) : Int) < (pts.length : Nat)) = false := by simp; omega
      have hk' : k = pts.length := by omega
      subst hk'
      have a0 := b0 pts.length
      simp -implicitDefEqProofs only [q1, go_sem, awp_seq, Nat.reduceBNe, Nat.reduceBEq, Nat.reduceAdd, Nat.reduceSub, Nat.reduceMul, Nat.reduceLeDiff, Nat.reduceLT, Nat.reduceEqDiff, Nat.reduceBneDiff, Int.reduceLE, Int.reduceLT, Int.reduceToNat, Int.reduceBEq, Int.reduceBNe, Int.reduceAdd, Int.reduceSub, Int.cast_ofNat_Int]
      refine callA_mk (isign_c (isI (mom f0 pts ws pts.length) (by omega))) ?_
      by_cases h3 : mom f0 pts ws pts.length = 0
      · have q2 : (sgnI (mom f0 pts ws pts.length) == 0) = true := by rw [h3]; rfl
        rw [show sumsR pts prs ws = .tup [int0, int0, int0, i64 20] by unfold sumsR; rw [if_neg h1, if_neg h2, if_pos h3]]
        simp -implicitDefEqProofs only [q2, go_sem, awp_seq, Nat.reduceBNe, Nat.reduceBEq, Nat.reduceAdd, Nat.reduceSub, Nat.reduceMul, Nat.reduceLeDiff, Nat.reduceLT, Nat.reduceEqDiff, Nat.reduceBneDiff, Int.reduceLE, Int.reduceLT, Int.reduceToNat, Int.reduceBEq, Int.reduceBNe, Int.reduceAdd, Int.reduceSub, Int.cast_ofNat_Int]
      · have q2 : (sgnI (mom f0 pts ws pts.length) == 0) = false := by
          rw [beq_eq_false_iff_ne]
          unfold sgnI
          split <;> (try split) <;> omega
        rw [show sumsR pts prs ws = .tup [intN (mom f0 pts ws pts.length), intN (mom f1 pts ws pts.length), intN (mom f2 pts ws pts.length), i64 0] by unfold sumsR; rw [if_neg h1, if_neg h2, if_neg h3]]
        simp -implicitDefEqProofs only [q2, go_sem, awp_seq, Nat.reduceBNe, Nat.reduceBEq, Nat.reduceAdd, Nat.reduceSub, Nat.reduceMul, Nat.reduceLeDiff, Nat.reduceLT, Nat.reduceEqDiff, Nat.reduceBneDiff, Int.reduceLE, Int.reduceLT, Int.reduceToNat, Int.reduceBEq, Int.reduceBNe, Int.reduceAdd, Int.reduceSub, Int.cast_ofNat_Int]
end Go.Proofs.YtfchbehmeppckaaGreat

/- Chapter 38: the variance; estimates. INTS -/
set_option linter.unusedSimpArgs false
set_option linter.unusedVariables false
namespace Go.Proofs.YtfchbehmeppckaaGreat
open Go.RowKit Lim

/-- The first error of weights on a grid. -/
def varE (pts prs : List Int) (ws : List (List Nat)) : Int :=
  if gridE pts prs ≠ 0 then gridE pts prs else if ws.length ≠ pts.length then 1 else if mom f0 pts ws pts.length = 0 then 20 else 0
theorem sums_bad {pts prs : List Int} {ws : List (List Nat)} (h : varE pts prs ws ≠ 0) : sumsR pts prs ws = .tup [int0, int0, int0, i64 (varE pts prs ws)] := by
  unfold varE at h ⊢
  unfold sumsR
  by_cases h1 : gridE pts prs ≠ 0
  · rw [if_pos h1, if_pos h1]
  · rw [if_neg h1] at h ⊢
    rw [if_neg h1]
    by_cases h2 : ws.length ≠ pts.length
    · rw [if_pos h2, if_pos h2]
    · rw [if_neg h2] at h ⊢
      rw [if_neg h2]
      by_cases h3 : mom f0 pts ws pts.length = 0
      · rw [if_pos h3, if_pos h3]
      · rw [if_neg h3] at h; exact absurd rfl h
theorem var_ok {pts prs : List Int} {ws : List (List Nat)} (h : varE pts prs ws = 0) : gridE pts prs = 0 ∧ ws.length = pts.length ∧ mom f0 pts ws pts.length ≠ 0 := by
  unfold varE at h
  by_cases h1 : gridE pts prs ≠ 0
  · rw [if_pos h1] at h; exact absurd h h1
  · rw [if_neg h1] at h
    by_cases h2 : ws.length ≠ pts.length
    · rw [if_pos h2] at h; cases h
    · rw [if_neg h2] at h
      by_cases h3 : mom f0 pts ws pts.length = 0
      · rw [if_pos h3] at h; cases h
      · exact ⟨by omega, by omega, h3⟩
theorem sums_ok {pts prs : List Int} {ws : List (List Nat)} (h : varE pts prs ws = 0) : sumsR pts prs ws = .tup [intN (mom f0 pts ws pts.length), intN (mom f1 pts ws pts.length), intN (mom f2 pts ws pts.length), i64 0] := by
  obtain ⟨h1, h2, h3⟩ := var_ok h
  unfold sumsR
  rw [if_neg (by omega), if_neg (by omega), if_neg h3]
/-- The variance, as a fraction. -/
def varN (pts : List Int) (ws : List (List Nat)) : Int := mom f0 pts ws pts.length * mom f2 pts ws pts.length - mom f1 pts ws pts.length * mom f1 pts ws pts.length
def varD (pts : List Int) (ws : List (List Nat)) : Nat := (mom f0 pts ws pts.length * mom f0 pts ws pts.length).natAbs
def varR (pts prs : List Int) (ws : List (List Nat)) : AV :=
  if varE pts prs ws = 0 then ratN (rn (varN pts ws) (varD pts ws)) (rd (varN pts ws) (varD pts ws)) else ratN 0 1
theorem rat01 : ratN (rn 0 1) (rd 0 1) = ratN 0 1 := by
  have e1 : rn 0 1 = 0 := by simp [rn, sg]
  have e2 : rd 0 1 = 1 := by simp [rd]
  rw [e1, e2]
theorem gzero_c : AC 78 [] (ratN 0 1) := by
  have h := rof_c 0 1 (by omega) (by omega) (by omega) (by omega)
  rw [rat01] at h
  refine ACalls.of ⟨2, []⟩ (fn := Tryz.f78) Tryz.func78 rfl rfl rfl (by kernel_rfl) (by kernel_rfl) (Nat.le_of_ble_eq_true rfl) ?_
  simp -implicitDefEqProofs only [go_sem, awp_seq, Nat.reduceBNe, Nat.reduceBEq, Nat.reduceAdd, Nat.reduceSub, Nat.reduceMul, Nat.reduceLeDiff, Nat.reduceLT, Nat.reduceEqDiff, Nat.reduceBneDiff, Int.reduceLE, Int.reduceLT, Int.reduceToNat, Int.reduceBEq, Int.reduceBNe, Int.reduceAdd, Int.reduceSub, Int.cast_ofNat_Int]
  refine callA_mk h ?_
  simp -implicitDefEqProofs only [go_sem, awp_seq, Nat.reduceBNe, Nat.reduceBEq, Nat.reduceAdd, Nat.reduceSub, Nat.reduceMul, Nat.reduceLeDiff, Nat.reduceLT, Nat.reduceEqDiff, Nat.reduceBneDiff, Int.reduceLE, Int.reduceLT, Int.reduceToNat, Int.reduceBEq, Int.reduceBNe, Int.reduceAdd, Int.reduceSub, Int.cast_ofNat_Int]
theorem mom_bounds {pts prs : List Int} {ws : List (List Nat)} (hw : WOK ws) (hg : gridE pts prs = 0) : nlen (mom f0 pts ws pts.length).natAbs ≤ 3000000 ∧ nlen (mom f1 pts ws pts.length).natAbs ≤ 3000000 ∧ nlen (mom f2 pts ws pts.length).natAbs ≤ 3000000 := by
  obtain ⟨k1, k2, k3, k4⟩ := grid_ok hg
  have b0 := mom_len (f := f0) (pts := pts) hw (fun i => by simp [f0]) pts.length
  have b1 := mom_len (f := f1) (pts := pts) hw (fun i => by have := k4 i; simp only [f1]; omega) pts.length
  have sq : ∀ i, (f2 (pts.getD i 0)).natAbs < 4294967296 := fun i => by
    have := k4 i
    simp only [f2]
    rw [Int.natAbs_mul]
    have h : (pts.getD i 0).natAbs ≤ 1000 := by omega
    have := Nat.mul_le_mul h h
    omega
  have b2 := mom_len (f := f2) (pts := pts) hw sq pts.length
  omega
theorem nlen_mulI (a b : Int) : nlen (a * b).natAbs ≤ nlen a.natAbs + nlen b.natAbs := by rw [Int.natAbs_mul]; exact nlen_mul _ _
theorem nlen_subI (a b : Int) : nlen (a - b).natAbs ≤ max (nlen a.natAbs) (nlen b.natAbs) + 1 := by
  have h1 := nlen_mono (show (a - b).natAbs ≤ a.natAbs + b.natAbs by omega)
  have h2 := nlen_add a.natAbs b.natAbs
  omega
set_option maxHeartbeats 2000000 in
theorem gvar_c (pts prs : List Int) (ws : List (List Nat)) (hw : WOK ws) : AC 48 [gridA pts prs, nats ws] (.tup [varR pts prs ws, i64 (varE pts prs ws)]) := by
  have S := sums_c pts prs ws hw
  by_cases h : varE pts prs ws = 0
  · rw [sums_ok h] at S
    have e : varR pts prs ws = ratN (rn (varN pts ws) (varD pts ws)) (rd (varN pts ws) (varD pts ws)) := by unfold varR; rw [if_pos h]
    rw [e, h]
    obtain ⟨h1, h2, h3⟩ := var_ok h
    obtain ⟨b0, b1, b2⟩ := mom_bounds hw h1
    have hN : mom f0 pts ws pts.length * mom f2 pts ws pts.length - mom f1 pts ws pts.length * mom f1 pts ws pts.length = varN pts ws := rfl
    have hD : (mom f0 pts ws pts.length * mom f0 pts ws pts.length).natAbs = varD pts ws := rfl
    have m1 := nlen_mulI (mom f0 pts ws pts.length) (mom f2 pts ws pts.length)
    have m2 := nlen_mulI (mom f1 pts ws pts.length) (mom f1 pts ws pts.length)
    have m3 := nlen_mulI (mom f0 pts ws pts.length) (mom f0 pts ws pts.length)
    have m4 := nlen_subI (mom f0 pts ws pts.length * mom f2 pts ws pts.length) (mom f1 pts ws pts.length * mom f1 pts ws pts.length)
    have hpos : 0 < mom f0 pts ws pts.length * mom f0 pts ws pts.length := by
      rcases Int.lt_or_gt_of_ne h3 with hh | hh
      · exact Int.mul_pos_of_neg_of_neg hh hh
      · exact Int.mul_pos hh hh
    have R := rmake_c (isI (mom f0 pts ws pts.length * mom f2 pts ws pts.length - mom f1 pts ws pts.length * mom f1 pts ws pts.length) (by omega)) (isI (mom f0 pts ws pts.length * mom f0 pts ws pts.length) (by omega)) (by omega)
    have e1 : mz (mom f0 pts ws pts.length * mom f2 pts ws pts.length - mom f1 pts ws pts.length * mom f1 pts ws pts.length) (mom f0 pts ws pts.length * mom f0 pts ws pts.length) = varN pts ws := by unfold mz; rw [if_neg (by omega), hN]
    rw [e1, hD] at R
    rw [hN] at m4
    generalize mom f0 pts ws pts.length = s0 at *
    generalize mom f1 pts ws pts.length = s1 at *
    generalize mom f2 pts ws pts.length = s2 at *
    generalize varN pts ws = vn at *
    generalize varD pts ws = vd at *
    have g1 : ((0 : Int) != 0) = false := rfl
    refine ACalls.of ⟨12, []⟩ (fn := Tryz.f48) Tryz.func48 rfl rfl rfl (by kernel_rfl) (by kernel_rfl) (Nat.le_of_ble_eq_true rfl) ?_
    simp -implicitDefEqProofs only [go_sem, awp_seq, Nat.reduceBNe, Nat.reduceBEq, Nat.reduceAdd, Nat.reduceSub, Nat.reduceMul, Nat.reduceLeDiff, Nat.reduceLT, Nat.reduceEqDiff, Nat.reduceBneDiff, Int.reduceLE, Int.reduceLT, Int.reduceToNat, Int.reduceBEq, Int.reduceBNe, Int.reduceAdd, Int.reduceSub, Int.cast_ofNat_Int]
    refine callA_mk S ?_
    simp -implicitDefEqProofs only [g1, go_sem, awp_seq, Nat.reduceBNe, Nat.reduceBEq, Nat.reduceAdd, Nat.reduceSub, Nat.reduceMul, Nat.reduceLeDiff, Nat.reduceLT, Nat.reduceEqDiff, Nat.reduceBneDiff, Int.reduceLE, Int.reduceLT, Int.reduceToNat, Int.reduceBEq, Int.reduceBNe, Int.reduceAdd, Int.reduceSub, Int.cast_ofNat_Int]
    refine callA_mk (imul_c (isI s0 (by omega)) (isI s2 (by omega)) (by omega)) ?_
    simp -implicitDefEqProofs only [go_sem, awp_seq, Nat.reduceBNe, Nat.reduceBEq, Nat.reduceAdd, Nat.reduceSub, Nat.reduceMul, Nat.reduceLeDiff, Nat.reduceLT, Nat.reduceEqDiff, Nat.reduceBneDiff, Int.reduceLE, Int.reduceLT, Int.reduceToNat, Int.reduceBEq, Int.reduceBNe, Int.reduceAdd, Int.reduceSub, Int.cast_ofNat_Int]
    refine callA_mk (imul_c (isI s1 (by omega)) (isI s1 (by omega)) (by omega)) ?_
    simp -implicitDefEqProofs only [go_sem, awp_seq, Nat.reduceBNe, Nat.reduceBEq, Nat.reduceAdd, Nat.reduceSub, Nat.reduceMul, Nat.reduceLeDiff, Nat.reduceLT, Nat.reduceEqDiff, Nat.reduceBneDiff, Int.reduceLE, Int.reduceLT, Int.reduceToNat, Int.reduceBEq, Int.reduceBNe, Int.reduceAdd, Int.reduceSub, Int.cast_ofNat_Int]
    refine callA_mk (isub_c (isI (s0 * s2) (by omega)) (isI (s1 * s1) (by omega)) (by omega)) ?_
    simp -implicitDefEqProofs only [go_sem, awp_seq, Nat.reduceBNe, Nat.reduceBEq, Nat.reduceAdd, Nat.reduceSub, Nat.reduceMul, Nat.reduceLeDiff, Nat.reduceLT, Nat.reduceEqDiff, Nat.reduceBneDiff, Int.reduceLE, Int.reduceLT, Int.reduceToNat, Int.reduceBEq, Int.reduceBNe, Int.reduceAdd, Int.reduceSub, Int.cast_ofNat_Int]
    refine callA_mk (imul_c (isI s0 (by omega)) (isI s0 (by omega)) (by omega)) ?_
    simp -implicitDefEqProofs only [go_sem, awp_seq, Nat.reduceBNe, Nat.reduceBEq, Nat.reduceAdd, Nat.reduceSub, Nat.reduceMul, Nat.reduceLeDiff, Nat.reduceLT, Nat.reduceEqDiff, Nat.reduceBneDiff, Int.reduceLE, Int.reduceLT, Int.reduceToNat, Int.reduceBEq, Int.reduceBNe, Int.reduceAdd, Int.reduceSub, Int.cast_ofNat_Int]
    refine callA_mk R ?_
    simp -implicitDefEqProofs only [go_sem, awp_seq, Nat.reduceBNe, Nat.reduceBEq, Nat.reduceAdd, Nat.reduceSub, Nat.reduceMul, Nat.reduceLeDiff, Nat.reduceLT, Nat.reduceEqDiff, Nat.reduceBneDiff, Int.reduceLE, Int.reduceLT, Int.reduceToNat, Int.reduceBEq, Int.reduceBNe, Int.reduceAdd, Int.reduceSub, Int.cast_ofNat_Int]
  · rw [sums_bad h] at S
    have e : varR pts prs ws = ratN 0 1 := by unfold varR; rw [if_neg h]
    have g1 : (varE pts prs ws != 0) = true := by simpa using h
    rw [e]
    generalize varE pts prs ws = ee at *
    refine ACalls.of ⟨12, []⟩ (fn := Tryz.f48) Tryz.func48 rfl rfl rfl (by kernel_rfl) (by kernel_rfl) (Nat.le_of_ble_eq_true rfl) ?_
    simp -implicitDefEqProofs only [go_sem, awp_seq, Nat.reduceBNe, Nat.reduceBEq, Nat.reduceAdd, Nat.reduceSub, Nat.reduceMul, Nat.reduceLeDiff, Nat.reduceLT, Nat.reduceEqDiff, Nat.reduceBneDiff, Int.reduceLE, Int.reduceLT, Int.reduceToNat, Int.reduceBEq, Int.reduceBNe, Int.reduceAdd, Int.reduceSub, Int.cast_ofNat_Int]
    refine callA_mk S ?_
    simp -implicitDefEqProofs only [g1, go_sem, awp_seq, Nat.reduceBNe, Nat.reduceBEq, Nat.reduceAdd, Nat.reduceSub, Nat.reduceMul, Nat.reduceLeDiff, Nat.reduceLT, Nat.reduceEqDiff, Nat.reduceBneDiff, Int.reduceLE, Int.reduceLT, Int.reduceToNat, Int.reduceBEq, Int.reduceBNe, Int.reduceAdd, Int.reduceSub, Int.cast_ofNat_Int]
    refine callA_mk gzero_c ?_
    simp -implicitDefEqProofs only [go_sem, awp_seq, Nat.reduceBNe, Nat.reduceBEq, Nat.reduceAdd, Nat.reduceSub, Nat.reduceMul, Nat.reduceLeDiff, Nat.reduceLT, Nat.reduceEqDiff, Nat.reduceBneDiff, Int.reduceLE, Int.reduceLT, Int.reduceToNat, Int.reduceBEq, Int.reduceBNe, Int.reduceAdd, Int.reduceSub, Int.cast_ofNat_Int]
    rfl
theorem ratN_agg (pts prs : List Int) (ws : List (List Nat)) : ∃ z d, varR pts prs ws = ratN z d := by
  unfold varR
  split
  · exact ⟨_, _, rfl⟩
  · exact ⟨_, _, rfl⟩
theorem evar_c (pts prs : List Int) (ws : List (List Nat)) (hw : WOK ws) : AC 32 [gridA pts prs, nats ws] (.tup [varR pts prs ws, i64 (varE pts prs ws)]) := by
  have S := gvar_c pts prs ws hw
  obtain ⟨z, d, e⟩ := ratN_agg pts prs ws
  rw [e] at S ⊢
  refine ACalls.of ⟨6, []⟩ (fn := Tryz.f32) Tryz.func32 rfl rfl rfl (by kernel_rfl) (by kernel_rfl) (Nat.le_of_ble_eq_true rfl) ?_
  simp -implicitDefEqProofs only [go_sem, awp_seq, Nat.reduceBNe, Nat.reduceBEq, Nat.reduceAdd, Nat.reduceSub, Nat.reduceMul, Nat.reduceLeDiff, Nat.reduceLT, Nat.reduceEqDiff, Nat.reduceBneDiff, Int.reduceLE, Int.reduceLT, Int.reduceToNat, Int.reduceBEq, Int.reduceBNe, Int.reduceAdd, Int.reduceSub, Int.cast_ofNat_Int]
  refine callA_mk S ?_
  simp -implicitDefEqProofs only [go_sem, awp_seq, Nat.reduceBNe, Nat.reduceBEq, Nat.reduceAdd, Nat.reduceSub, Nat.reduceMul, Nat.reduceLeDiff, Nat.reduceLT, Nat.reduceEqDiff, Nat.reduceBneDiff, Int.reduceLE, Int.reduceLT, Int.reduceToNat, Int.reduceBEq, Int.reduceBNe, Int.reduceAdd, Int.reduceSub, Int.cast_ofNat_Int]
/-- The sum of the first k weights. -/
def psum (ws : List (List Nat)) : Nat → Nat
  | 0 => 0
  | k + 1 => psum ws k + val (ws.getD k [])
theorem psum_len {ws : List (List Nat)} (hw : WOK ws) : ∀ k, nlen (psum ws k) ≤ 2000000 + k
  | 0 => by simp [psum, nlen_zero]
  | k + 1 => by
    have ih := psum_len hw k
    obtain ⟨h1, h2⟩ := hw.get k
    have h3 := nlen_val h1
    have h4 := nlen_add (psum ws k) (val (ws.getD k []))
    show nlen (psum ws k + val (ws.getD k [])) ≤ _
    omega
def slot3 (ws : List (List Nat)) (k : Nat) : AV := match k with | 0 => .lit (.slice none 0 0) | k + 1 => natN (psum ws (k + 1))
theorem esum_c (ws : List (List Nat)) (hw : WOK ws) (hl : ws.length < 1000000000) : AC 103 [nats ws] (natN (psum ws ws.length)) := by
  refine ACalls.of ⟨9, []⟩ (fn := Tryz.f103) Tryz.func103 rfl rfl rfl (by kernel_rfl) (by kernel_rfl) (Nat.le_of_ble_eq_true rfl) ?_
  simp -implicitDefEqProofs only [List.length_map, go_sem, awp_seq, Nat.reduceBNe, Nat.reduceBEq, Nat.reduceAdd, Nat.reduceSub, Nat.reduceMul, Nat.reduceLeDiff, Nat.reduceLT, Nat.reduceEqDiff, Nat.reduceBneDiff, Int.reduceLE, Int.reduceLT, Int.reduceToNat, Int.reduceBEq, Int.reduceBNe, Int.reduceAdd, Int.reduceSub, Int.cast_ofNat_Int]
  refine loop_mk (α := {k : Nat // k ≤ ws.length}) (fun k => [(0, some (.av (nats ws))), (2, some (.av (.lit (.slice none 0 0)))), (3, some (.av (slot3 ws k.1))), (6, some (.av (nats ws))), (7, some (.av (i64 (ws.length : Nat)))), (8, some (.av (i64 (k.1 : Nat))))]) (fun _ => []) (fun _ => []) (fun k => ws.length - k.1) ⟨0, Nat.zero_le _⟩ ?_ ?_
  · simp -implicitDefEqProofs only [slot3, go_sem, awp_seq, Nat.reduceBNe, Nat.reduceBEq, Nat.reduceAdd, Nat.reduceSub, Nat.reduceMul, Nat.reduceLeDiff, Nat.reduceLT, Nat.reduceEqDiff, Nat.reduceBneDiff, Int.reduceLE, Int.reduceLT, Int.reduceToNat, Int.reduceBEq, Int.reduceBNe, Int.reduceAdd, Int.reduceSub, Int.cast_ofNat_Int]
  · rintro ⟨k, hk⟩
    by_cases hlt : k < ws.length
    · have q1 : decide (((k : Nat) : Int) < (ws.length : Nat)) = true := by simp; omega
      have e2 := map_get AV.nat ws hlt
      have d2 : ws.getD k [] = ws[k] := by simp [List.getD, hlt]
      have w1 : IntKind.i64.wrap ((k : Int) + 1) = ((k + 1 : Nat) : Int) := by rw [IntWalk.i64_in _ (by omega)]; omega
      obtain ⟨v1, v2⟩ := hw.get k
      have v3 := nlen_val v1
      have a0 := psum_len hw k
      have m1 : psum ws (k + 1) = psum ws k + val (ws.getD k []) := rfl
      rw [d2] at v1 v2 v3 m1
      generalize ws[k] = x at *
      have hx : IsN (.nat x) (val x) := ⟨x, rfl, rfl, by omega⟩
      cases k with
      | zero =>
        have m2 : psum ws 0 = 0 := rfl
        rw [m2] at m1
        have A := nadd_c isN_nil hx
        rw [← m1] at A
        have q1' : decide ((0 : Int) < (ws.length : Nat)) = true := q1
        have w0 : IntKind.i64.wrap 1 = 1 := by decide
        simp -implicitDefEqProofs only [slot3, q1', e2, Int.toNat_zero, Int.le_refl, go_sem, awp_seq, Nat.reduceBNe, Nat.reduceBEq, Nat.reduceAdd, Nat.reduceSub, Nat.reduceMul, Nat.reduceLeDiff, Nat.reduceLT, Nat.reduceEqDiff, Nat.reduceBneDiff, Int.reduceLE, Int.reduceLT, Int.reduceToNat, Int.reduceBEq, Int.reduceBNe, Int.reduceAdd, Int.reduceSub, Int.cast_ofNat_Int]
        refine callA_mk A ?_
        simp -implicitDefEqProofs only [w0, go_sem, awp_seq, Nat.reduceBNe, Nat.reduceBEq, Nat.reduceAdd, Nat.reduceSub, Nat.reduceMul, Nat.reduceLeDiff, Nat.reduceLT, Nat.reduceEqDiff, Nat.reduceBneDiff, Int.reduceLE, Int.reduceLT, Int.reduceToNat, Int.reduceBEq, Int.reduceBNe, Int.reduceAdd, Int.reduceSub, Int.cast_ofNat_Int]
        refine roundK_mk ⟨0 + 1, hlt⟩ ?_ (by show ws.length - (0 + 1) < ws.length - 0; omega)
        simp -implicitDefEqProofs only [slot3, go_sem, awp_seq, Nat.reduceBNe, Nat.reduceBEq, Nat.reduceAdd, Nat.reduceSub, Nat.reduceMul, Nat.reduceLeDiff, Nat.reduceLT, Nat.reduceEqDiff, Nat.reduceBneDiff, Int.reduceLE, Int.reduceLT, Int.reduceToNat, Int.reduceBEq, Int.reduceBNe, Int.reduceAdd, Int.reduceSub, Int.cast_ofNat_Int]
      | succ k =>
        have A := nadd_c (isN (psum ws (k + 1)) (by omega)) hx
        rw [← m1] at A
        simp -implicitDefEqProofs only [slot3, q1, e2, Int.toNat_natCast, Int.natCast_nonneg, go_sem, awp_seq, Nat.reduceBNe, Nat.reduceBEq, Nat.reduceAdd, Nat.reduceSub, Nat.reduceMul, Nat.reduceLeDiff, Nat.reduceLT, Nat.reduceEqDiff, Nat.reduceBneDiff, Int.reduceLE, Int.reduceLT, Int.reduceToNat, Int.reduceBEq, Int.reduceBNe, Int.reduceAdd, Int.reduceSub, Int.cast_ofNat_Int]
        refine callA_mk A ?_
        simp -implicitDefEqProofs only [w1, go_sem, awp_seq, Nat.reduceBNe, Nat.reduceBEq, Nat.reduceAdd, Nat.reduceSub, Nat.reduceMul, Nat.reduceLeDiff, Nat.reduceLT, Nat.reduceEqDiff, Nat.reduceBneDiff, Int.reduceLE, Int.reduceLT, Int.reduceToNat, Int.reduceBEq, Int.reduceBNe, Int.reduceAdd, Int.reduceSub, Int.cast_ofNat_Int]
        refine roundK_mk ⟨k + 1 + 1, hlt⟩ ?_ (by show ws.length - (k + 1 + 1) < ws.length - (k + 1); omega)
        simp -implicitDefEqProofs only [slot3, go_sem, awp_seq, Nat.reduceBNe, Nat.reduceBEq, Nat.reduceAdd, Nat.reduceSub, Nat.reduceMul, Nat.reduceLeDiff, Nat.reduceLT, Nat.reduceEqDiff, Nat.reduceBneDiff, Int.reduceLE, Int.reduceLT, Int.reduceToNat, Int.reduceBEq, Int.reduceBNe, Int.reduceAdd, Int.reduceSub, Int.cast_ofNat_Int]
    · have q1 : decide (((k : Nat) : Int) < (ws.length : Nat)) = false := by simp; omega
      have hp : psum ws ws.length = psum ws k := by rw [show k = ws.length by omega]
      cases k with
      | zero =>
        have q1' : decide ((0 : Int) < (ws.length : Nat)) = false := q1
        have hp' : psum ws ws.length = 0 := hp
        simp -implicitDefEqProofs only [slot3, q1', hp', limbs_zero, natN, go_sem, awp_seq, Nat.reduceBNe, Nat.reduceBEq, Nat.reduceAdd, Nat.reduceSub, Nat.reduceMul, Nat.reduceLeDiff, Nat.reduceLT, Nat.reduceEqDiff, Nat.reduceBneDiff, Int.reduceLE, Int.reduceLT, Int.reduceToNat, Int.reduceBEq, Int.reduceBNe, Int.reduceAdd, Int.reduceSub, Int.cast_ofNat_Int]
      | succ k => simp -implicitDefEqProofs only [slot3, q1, hp, go_sem, awp_seq, Nat.reduceBNe, Nat.reduceBEq, Nat.reduceAdd, Nat.reduceSub, Nat.reduceMul, Nat.reduceLeDiff, Nat.reduceLT, Nat.reduceEqDiff, Nat.reduceBneDiff, Int.reduceLE, Int.reduceLT, Int.reduceToNat, Int.reduceBEq, Int.reduceBNe, Int.reduceAdd, Int.reduceSub, Int.cast_ofNat_Int]
end Go.Proofs.YtfchbehmeppckaaGreat

/- Chapter 38: classes. INTS -/
set_option linter.unusedSimpArgs false
set_option linter.unusedVariables false
namespace Go.Proofs.YtfchbehmeppckaaGreat
open Go.RowKit Lim

def checkE (ws : List (List Nat)) : Int := if 21 < ws.length then 5 else if psum ws ws.length = 0 then 20 else 0
theorem echeck_c (ws : List (List Nat)) (hw : WOK ws) (hl : ws.length < 3000000) : AC 80 [nats ws] (i64 (checkE ws)) := by
  have S := esum_c ws hw (by omega)
  have n1 := psum_len hw ws.length
  by_cases h1 : 21 < ws.length
  · have f1 : decide ((21 : Int) < (ws.length : Nat)) = true := by simp; omega
    rw [show checkE ws = 5 by unfold checkE; rw [if_pos h1]]
    refine ACalls.of ⟨3, []⟩ (fn := Tryz.f80) Tryz.func80 rfl rfl rfl (by kernel_rfl) (by kernel_rfl) (Nat.le_of_ble_eq_true rfl) ?_
    simp -implicitDefEqProofs only [List.length_map, f1, go_sem, awp_seq, Nat.reduceBNe, Nat.reduceBEq, Nat.reduceAdd, Nat.reduceSub, Nat.reduceMul, Nat.reduceLeDiff, Nat.reduceLT, Nat.reduceEqDiff, Nat.reduceBneDiff, Int.reduceLE, Int.reduceLT, Int.reduceToNat, Int.reduceBEq, Int.reduceBNe, Int.reduceAdd, Int.reduceSub, Int.cast_ofNat_Int]
  · have f1 : decide ((21 : Int) < (ws.length : Nat)) = false := by simp; omega
    by_cases h2 : psum ws ws.length = 0
    · have B := nbits_zero (limbs (psum ws ws.length)) (dig_limbs _) (by show nlen _ < _; omega) (by rw [val_limbs]; exact h2)
      rw [show checkE ws = 20 by unfold checkE; rw [if_neg h1, if_pos h2]]
      refine ACalls.of ⟨3, []⟩ (fn := Tryz.f80) Tryz.func80 rfl rfl rfl (by kernel_rfl) (by kernel_rfl) (Nat.le_of_ble_eq_true rfl) ?_
      simp -implicitDefEqProofs only [List.length_map, f1, go_sem, awp_seq, Nat.reduceBNe, Nat.reduceBEq, Nat.reduceAdd, Nat.reduceSub, Nat.reduceMul, Nat.reduceLeDiff, Nat.reduceLT, Nat.reduceEqDiff, Nat.reduceBneDiff, Int.reduceLE, Int.reduceLT, Int.reduceToNat, Int.reduceBEq, Int.reduceBNe, Int.reduceAdd, Int.reduceSub, Int.cast_ofNat_Int]
      refine callA_mk S ?_
      simp -implicitDefEqProofs only [natN, go_sem, awp_seq, Nat.reduceBNe, Nat.reduceBEq, Nat.reduceAdd, Nat.reduceSub, Nat.reduceMul, Nat.reduceLeDiff, Nat.reduceLT, Nat.reduceEqDiff, Nat.reduceBneDiff, Int.reduceLE, Int.reduceLT, Int.reduceToNat, Int.reduceBEq, Int.reduceBNe, Int.reduceAdd, Int.reduceSub, Int.cast_ofNat_Int]
      refine callA_mk B ?_
      simp -implicitDefEqProofs only [go_sem, awp_seq, Nat.reduceBNe, Nat.reduceBEq, Nat.reduceAdd, Nat.reduceSub, Nat.reduceMul, Nat.reduceLeDiff, Nat.reduceLT, Nat.reduceEqDiff, Nat.reduceBneDiff, Int.reduceLE, Int.reduceLT, Int.reduceToNat, Int.reduceBEq, Int.reduceBNe, Int.reduceAdd, Int.reduceSub, Int.cast_ofNat_Int]
    · obtain ⟨k, hk, B⟩ := nbits_pos (limbs (psum ws ws.length)) (dig_limbs _) (by show nlen _ < _; omega) (by rw [val_limbs]; exact h2)
      have f2 : (((k : Nat) : Int) == 0) = false := by rw [beq_eq_false_iff_ne]; omega
      rw [show checkE ws = 0 by unfold checkE; rw [if_neg h1, if_neg h2]]
      refine ACalls.of ⟨3, []⟩ (fn := Tryz.f80) Tryz.func80 rfl rfl rfl (by kernel_rfl) (by kernel_rfl) (Nat.le_of_ble_eq_true rfl) ?_
      simp -implicitDefEqProofs only [List.length_map, f1, go_sem, awp_seq, Nat.reduceBNe, Nat.reduceBEq, Nat.reduceAdd, Nat.reduceSub, Nat.reduceMul, Nat.reduceLeDiff, Nat.reduceLT, Nat.reduceEqDiff, Nat.reduceBneDiff, Int.reduceLE, Int.reduceLT, Int.reduceToNat, Int.reduceBEq, Int.reduceBNe, Int.reduceAdd, Int.reduceSub, Int.cast_ofNat_Int]
      refine callA_mk S ?_
      simp -implicitDefEqProofs only [natN, go_sem, awp_seq, Nat.reduceBNe, Nat.reduceBEq, Nat.reduceAdd, Nat.reduceSub, Nat.reduceMul, Nat.reduceLeDiff, Nat.reduceLT, Nat.reduceEqDiff, Nat.reduceBneDiff, Int.reduceLE, Int.reduceLT, Int.reduceToNat, Int.reduceBEq, Int.reduceBNe, Int.reduceAdd, Int.reduceSub, Int.cast_ofNat_Int]
      refine callA_mk B ?_
      simp -implicitDefEqProofs only [f2, go_sem, awp_seq, Nat.reduceBNe, Nat.reduceBEq, Nat.reduceAdd, Nat.reduceSub, Nat.reduceMul, Nat.reduceLeDiff, Nat.reduceLT, Nat.reduceEqDiff, Nat.reduceBneDiff, Int.reduceLE, Int.reduceLT, Int.reduceToNat, Int.reduceBEq, Int.reduceBNe, Int.reduceAdd, Int.reduceSub, Int.cast_ofNat_Int]
theorem eone_c (z : Int) (d : Nat) (hd : 0 < d) (h1 : -9223372036854775808 ≤ z) (h2 : z ≤ 9223372036854775807) (h3 : d ≤ 9223372036854775807) : AC 81 [i64 z, i64 (d : Nat)] (ratN (rn z d) (rd z d)) := by
  have R := rof_c z d hd h1 h2 h3
  refine ACalls.of ⟨6, []⟩ (fn := Tryz.f81) Tryz.func81 rfl rfl rfl (by kernel_rfl) (by kernel_rfl) (Nat.le_of_ble_eq_true rfl) ?_
  simp -implicitDefEqProofs only [go_sem, awp_seq, Nat.reduceBNe, Nat.reduceBEq, Nat.reduceAdd, Nat.reduceSub, Nat.reduceMul, Nat.reduceLeDiff, Nat.reduceLT, Nat.reduceEqDiff, Nat.reduceBneDiff, Int.reduceLE, Int.reduceLT, Int.reduceToNat, Int.reduceBEq, Int.reduceBNe, Int.reduceAdd, Int.reduceSub, Int.cast_ofNat_Int]
  refine callA_mk R ?_
  simp -implicitDefEqProofs only [go_sem, awp_seq, Nat.reduceBNe, Nat.reduceBEq, Nat.reduceAdd, Nat.reduceSub, Nat.reduceMul, Nat.reduceLeDiff, Nat.reduceLT, Nat.reduceEqDiff, Nat.reduceBneDiff, Int.reduceLE, Int.reduceLT, Int.reduceToNat, Int.reduceBEq, Int.reduceBNe, Int.reduceAdd, Int.reduceSub, Int.cast_ofNat_Int]
/-- Whether s / a is at least y / f. -/
def reachB (s a : Nat) (y : Int) (f : Nat) : Bool := decide (0 ≤ cmpZ ((s : Int) * (pd f : Int)) (pz y f * (a : Int)))
theorem ereach_c (us ws : List (List Nat)) (hu : WOK us) (hw : WOK ws) (hl1 : us.length < 3000000) (hl : ws.length < 3000000) (ha : 0 < psum ws ws.length) {lv : AV} {y : Int} {f : Nat} (hv : IsR lv y f) (hy : nlen y.natAbs < 100000000) (hf : nlen f < 100000000) :
    AC 82 [nats us, nats ws, lv] (boo (reachB (psum us us.length) (psum ws ws.length) y f)) := by
  have S1 := esum_c us hu (by omega)
  have S2 := esum_c ws hw (by omega)
  have n1 := psum_len hu us.length
  have n2 := psum_len hw ws.length
  have e : reachB (psum us us.length) (psum ws ws.length) y f = decide (0 ≤ cmpZ (rn (psum us us.length : Nat) (psum ws ws.length) * (pd f : Int)) (pz y f * (rd (psum us us.length : Nat) (psum ws ws.length) : Int))) := by
    unfold reachB
    have h1 := Eqv.norm ((psum us us.length : Nat) : Int) ha
    have h2 := h1.cmp (Eqv.refl (pz y f) (pd_pos f))
    rw [h2]
  rw [e]
  generalize psum us us.length = s at *
  generalize psum ws ws.length = a at *
  have R := rmake_c (isI (s : Int) (by rw [Int.natAbs_natCast]; omega)) (isI (a : Int) (by rw [Int.natAbs_natCast]; omega)) (by omega)
  have e1 : mz (s : Int) (a : Int) = s := by unfold mz; rw [if_neg (by omega)]
  rw [e1, Int.natAbs_natCast] at R
  have p1 := nlen_rn (s : Int) a
  have p2 := nlen_rd (s : Int) a
  rw [Int.natAbs_natCast] at p1
  have q0 := rd_pos (s : Int) ha
  have C := rcmp_c (isR (rn (s : Int) a) (rd (s : Int) a) (by omega) (by omega)) hv (by omega) (by omega)
  rw [pz_pos _ q0, pd_id q0] at C
  generalize rn (s : Int) a = X at *
  generalize rd (s : Int) a = E at *
  obtain ⟨_, _, _, rfl, _⟩ := hv
  refine ACalls.of ⟨8, []⟩ (fn := Tryz.f82) Tryz.func82 rfl rfl rfl (by kernel_rfl) (by kernel_rfl) (Nat.le_of_ble_eq_true rfl) ?_
  simp -implicitDefEqProofs only [go_sem, awp_seq, Nat.reduceBNe, Nat.reduceBEq, Nat.reduceAdd, Nat.reduceSub, Nat.reduceMul, Nat.reduceLeDiff, Nat.reduceLT, Nat.reduceEqDiff, Nat.reduceBneDiff, Int.reduceLE, Int.reduceLT, Int.reduceToNat, Int.reduceBEq, Int.reduceBNe, Int.reduceAdd, Int.reduceSub, Int.cast_ofNat_Int]
  refine callA_mk S1 ?_
  simp -implicitDefEqProofs only [go_sem, awp_seq, Nat.reduceBNe, Nat.reduceBEq, Nat.reduceAdd, Nat.reduceSub, Nat.reduceMul, Nat.reduceLeDiff, Nat.reduceLT, Nat.reduceEqDiff, Nat.reduceBneDiff, Int.reduceLE, Int.reduceLT, Int.reduceToNat, Int.reduceBEq, Int.reduceBNe, Int.reduceAdd, Int.reduceSub, Int.cast_ofNat_Int]
  refine callA_mk (imake_c false (isN s (by omega))) ?_
  simp -implicitDefEqProofs only [sg_false, go_sem, awp_seq, Nat.reduceBNe, Nat.reduceBEq, Nat.reduceAdd, Nat.reduceSub, Nat.reduceMul, Nat.reduceLeDiff, Nat.reduceLT, Nat.reduceEqDiff, Nat.reduceBneDiff, Int.reduceLE, Int.reduceLT, Int.reduceToNat, Int.reduceBEq, Int.reduceBNe, Int.reduceAdd, Int.reduceSub, Int.cast_ofNat_Int]
  refine callA_mk S2 ?_
  simp -implicitDefEqProofs only [go_sem, awp_seq, Nat.reduceBNe, Nat.reduceBEq, Nat.reduceAdd, Nat.reduceSub, Nat.reduceMul, Nat.reduceLeDiff, Nat.reduceLT, Nat.reduceEqDiff, Nat.reduceBneDiff, Int.reduceLE, Int.reduceLT, Int.reduceToNat, Int.reduceBEq, Int.reduceBNe, Int.reduceAdd, Int.reduceSub, Int.cast_ofNat_Int]
  refine callA_mk (imake_c false (isN a (by omega))) ?_
  simp -implicitDefEqProofs only [sg_false, go_sem, awp_seq, Nat.reduceBNe, Nat.reduceBEq, Nat.reduceAdd, Nat.reduceSub, Nat.reduceMul, Nat.reduceLeDiff, Nat.reduceLT, Nat.reduceEqDiff, Nat.reduceBneDiff, Int.reduceLE, Int.reduceLT, Int.reduceToNat, Int.reduceBEq, Int.reduceBNe, Int.reduceAdd, Int.reduceSub, Int.cast_ofNat_Int]
  refine callA_mk R ?_
  simp -implicitDefEqProofs only [go_sem, awp_seq, Nat.reduceBNe, Nat.reduceBEq, Nat.reduceAdd, Nat.reduceSub, Nat.reduceMul, Nat.reduceLeDiff, Nat.reduceLT, Nat.reduceEqDiff, Nat.reduceBneDiff, Int.reduceLE, Int.reduceLT, Int.reduceToNat, Int.reduceBEq, Int.reduceBNe, Int.reduceAdd, Int.reduceSub, Int.cast_ofNat_Int]
  refine callA_mk C ?_
  simp -implicitDefEqProofs only [go_sem, awp_seq, Nat.reduceBNe, Nat.reduceBEq, Nat.reduceAdd, Nat.reduceSub, Nat.reduceMul, Nat.reduceLeDiff, Nat.reduceLT, Nat.reduceEqDiff, Nat.reduceBneDiff, Int.reduceLE, Int.reduceLT, Int.reduceToNat, Int.reduceBEq, Int.reduceBNe, Int.reduceAdd, Int.reduceSub, Int.cast_ofNat_Int]
end Go.Proofs.YtfchbehmeppckaaGreat

/- Chapter 38: estimate.Class. INTS -/
set_option linter.unusedSimpArgs false
set_option linter.unusedVariables false
namespace Go.Proofs.YtfchbehmeppckaaGreat
open Go.RowKit Lim

def clsBad (ws : List (List Nat)) (cut : Int) (y : Int) (f : Nat) : Bool := decide (cut < 1) || decide ((ws.length : Int) - 1 < cut) || decide (cmpZ (pz y f * 2) (pd f) ≤ 0) || decide (0 < cmpZ (pz y f) (pd f))
def clsE (ws : List (List Nat)) (cut : Int) (y : Int) (f : Nat) : Int := if checkE ws ≠ 0 then checkE ws else if clsBad ws cut y f then 3 else 0
def clsV (ws : List (List Nat)) (cut : Int) (y : Int) (f : Nat) : Int :=
  if checkE ws ≠ 0 then 0 else if clsBad ws cut y f then 0
  else if reachB (psum (ws.drop cut.toNat) (ws.drop cut.toNat).length) (psum ws ws.length) y f then 1
  else if reachB (psum (ws.take cut.toNat) (ws.take cut.toNat).length) (psum ws ws.length) y f then 0 else -1
theorem r12 : rn 1 2 = 1 ∧ rd 1 2 = 2 := by decide +kernel
theorem r11 : rn 1 1 = 1 ∧ rd 1 1 = 1 := by decide +kernel
theorem WOK.drop {ws : List (List Nat)} (h : WOK ws) (k : Nat) : WOK (ws.drop k) := fun x hx => h x (List.mem_of_mem_drop hx)
theorem WOK.take {ws : List (List Nat)} (h : WOK ws) (k : Nat) : WOK (ws.take k) := fun x hx => h x (List.mem_of_mem_take hx)
theorem slice_lo {e : TypeId} {lm : Bool} {z : List AV} {b : Nat} {k : TV → Prop} (ws : List (List Nat)) {c : Nat} (h : c ≤ ws.length) (hk : k (.av (nats (ws.drop c)))) : sliceK ⟨.slc e 1 lm, z, b⟩ (.av (nats ws)) (some (.av (i64 (c : Nat)))) none k := by
  refine ⟨_, ⟨rfl, c, (ws.map AV.nat).length, ⟨rfl, by omega, by simp; omega, by simp⟩, rfl⟩, ?_⟩
  rw [List.take_length, ← List.map_drop]
  exact hk
theorem slice_hi {e : TypeId} {lm : Bool} {z : List AV} {b : Nat} {k : TV → Prop} (ws : List (List Nat)) {c : Nat} (h : c ≤ ws.length) (hk : k (.av (nats (ws.take c)))) : sliceK ⟨.slc e 1 lm, z, b⟩ (.av (nats ws)) none (some (.av (i64 (c : Nat)))) k := by
  refine ⟨_, ⟨rfl, 0, c, ⟨⟨by omega, by simp; omega, by simp⟩, rfl⟩, rfl⟩, ?_⟩
  rw [List.drop_zero, ← List.map_take]
  exact hk
section
theorem cmp_half {lv : AV} {y : Int} {f : Nat} (hv : IsR lv y f) (hy : nlen y.natAbs < 100000000) (hf : nlen f < 100000000) : AC 19 [lv, ratN (rn 1 2) (rd 1 2)] (i64 (cmpZ (pz y f * 2) (pd f))) := by
  have n1 : nlen (rn 1 2).natAbs ≤ 1 := by rw [r12.1]; exact nlen_u32 (by decide)
  have n2 : nlen (rd 1 2) ≤ 1 := by rw [r12.2]; exact nlen_u32 (by omega)
  have C := rcmp_c hv (isR (rn 1 2) (rd 1 2) (by omega) (by omega)) (by omega) (by omega)
  rw [show pz (rn 1 2) (rd 1 2) = 1 by rw [r12.1, r12.2]; rfl, show pd (rd 1 2) = 2 by rw [r12.2]; rfl, Int.one_mul] at C
  exact C
theorem cmp_one {lv : AV} {y : Int} {f : Nat} (hv : IsR lv y f) (hy : nlen y.natAbs < 100000000) (hf : nlen f < 100000000) : AC 19 [lv, ratN (rn 1 1) (rd 1 1)] (i64 (cmpZ (pz y f) (pd f))) := by
  have n1 : nlen (rn 1 1).natAbs ≤ 1 := by rw [r11.1]; exact nlen_u32 (by decide)
  have n2 : nlen (rd 1 1) ≤ 1 := by rw [r11.2]; exact nlen_u32 (by omega)
  have C := rcmp_c hv (isR (rn 1 1) (rd 1 1) (by omega) (by omega)) (by omega) (by omega)
  rw [show pz (rn 1 1) (rd 1 1) = 1 by rw [r11.1, r11.2]; rfl, show pd (rd 1 1) = 1 by rw [r11.2]; rfl, Int.one_mul, show pz y f * ((1 : Nat) : Int) = pz y f from Int.mul_one _] at C
  exact C
set_option maxHeartbeats 2000000 in
theorem eclass_c {lv : AV} {y : Int} {f : Nat} (hv : IsR lv y f) (hy : nlen y.natAbs < 100000000) (hf : nlen f < 100000000) (ws : List (List Nat)) (cut : Int) (hw : WOK ws) (hl : ws.length < 3000000) : AC 49 [nats ws, i64 cut, lv] (.tup [i64 (clsV ws cut y f), i64 (clsE ws cut y f)]) := by
  have K := echeck_c ws hw hl
  have O1 := eone_c 1 2 (by omega) (by omega) (by omega) (by omega)
  have O2 := eone_c 1 1 (by omega) (by omega) (by omega) (by omega)
  have C1 := cmp_half hv hy hf
  have C2 := cmp_one hv hy hf
  by_cases h1 : checkE ws ≠ 0
  · have g1 : (checkE ws != 0) = true := by simpa using h1
    rw [show clsV ws cut y f = 0 by unfold clsV; rw [if_pos h1], show clsE ws cut y f = checkE ws by unfold clsE; rw [if_pos h1]]
    obtain ⟨_, _, _, rfl, _⟩ := hv
    refine ACalls.of ⟨9, []⟩ (fn := Tryz.f49) Tryz.func49 rfl rfl rfl (by kernel_rfl) (by kernel_rfl) (Nat.le_of_ble_eq_true rfl) ?_
    simp -implicitDefEqProofs only [go_sem, awp_seq, Nat.reduceBNe, Nat.reduceBEq, Nat.reduceAdd, Nat.reduceSub, Nat.reduceMul, Nat.reduceLeDiff, Nat.reduceLT, Nat.reduceEqDiff, Nat.reduceBneDiff, Int.reduceLE, Int.reduceLT, Int.reduceToNat, Int.reduceBEq, Int.reduceBNe, Int.reduceAdd, Int.reduceSub, Int.cast_ofNat_Int]
    refine callA_mk K ?_
    simp -implicitDefEqProofs only [g1, go_sem, awp_seq, Nat.reduceBNe, Nat.reduceBEq, Nat.reduceAdd, Nat.reduceSub, Nat.reduceMul, Nat.reduceLeDiff, Nat.reduceLT, Nat.reduceEqDiff, Nat.reduceBneDiff, Int.reduceLE, Int.reduceLT, Int.reduceToNat, Int.reduceBEq, Int.reduceBNe, Int.reduceAdd, Int.reduceSub, Int.cast_ofNat_Int]
  have g1 : (checkE ws != 0) = false := by simpa using h1
  have bad : clsBad ws cut y f = true → clsV ws cut y f = 0 ∧ clsE ws cut y f = 3 := fun hb => by
    unfold clsV clsE
    rw [if_neg h1, if_neg h1, if_pos hb, if_pos hb]
    exact ⟨rfl, rfl⟩
  have hpos : 0 < psum ws ws.length := by
    unfold checkE at h1
    by_cases q1 : 21 < ws.length
    · rw [if_pos q1] at h1; exact absurd (by decide) h1
    · rw [if_neg q1] at h1
      by_cases q2 : psum ws ws.length = 0
      · rw [if_pos q2] at h1; exact absurd (by decide) h1
      · omega
  have w1 : IntKind.i64.wrap ((ws.length : Int) - 1) = (ws.length : Int) - 1 := IntWalk.i64_in _ (by omega)
  cases c1 : decide (cut < 1) with
  | true =>
    obtain ⟨e1, e2⟩ := bad (by simp only [clsBad, c1, Bool.true_or])
    rw [e1, e2]
    obtain ⟨_, _, _, rfl, _⟩ := hv
    refine ACalls.of ⟨9, []⟩ (fn := Tryz.f49) Tryz.func49 rfl rfl rfl (by kernel_rfl) (by kernel_rfl) (Nat.le_of_ble_eq_true rfl) ?_
    simp -implicitDefEqProofs only [go_sem, awp_seq, Nat.reduceBNe, Nat.reduceBEq, Nat.reduceAdd, Nat.reduceSub, Nat.reduceMul, Nat.reduceLeDiff, Nat.reduceLT, Nat.reduceEqDiff, Nat.reduceBneDiff, Int.reduceLE, Int.reduceLT, Int.reduceToNat, Int.reduceBEq, Int.reduceBNe, Int.reduceAdd, Int.reduceSub, Int.cast_ofNat_Int]
    refine callA_mk K ?_
    simp -implicitDefEqProofs only [g1, c1, go_sem, awp_seq, Nat.reduceBNe, Nat.reduceBEq, Nat.reduceAdd, Nat.reduceSub, Nat.reduceMul, Nat.reduceLeDiff, Nat.reduceLT, Nat.reduceEqDiff, Nat.reduceBneDiff, Int.reduceLE, Int.reduceLT, Int.reduceToNat, Int.reduceBEq, Int.reduceBNe, Int.reduceAdd, Int.reduceSub, Int.cast_ofNat_Int]
  | false =>
    cases c2 : decide ((ws.length : Int) - 1 < cut) with
    | true =>
      obtain ⟨e1, e2⟩ := bad (by simp only [clsBad, c2, Bool.true_or, Bool.or_true])
      rw [e1, e2]
      obtain ⟨_, _, _, rfl, _⟩ := hv
      refine ACalls.of ⟨9, []⟩ (fn := Tryz.f49) Tryz.func49 rfl rfl rfl (by kernel_rfl) (by kernel_rfl) (Nat.le_of_ble_eq_true rfl) ?_
      simp -implicitDefEqProofs only [go_sem, awp_seq, Nat.reduceBNe, Nat.reduceBEq, Nat.reduceAdd, Nat.reduceSub, Nat.reduceMul, Nat.reduceLeDiff, Nat.reduceLT, Nat.reduceEqDiff, Nat.reduceBneDiff, Int.reduceLE, Int.reduceLT, Int.reduceToNat, Int.reduceBEq, Int.reduceBNe, Int.reduceAdd, Int.reduceSub, Int.cast_ofNat_Int]
      refine callA_mk K ?_
      simp -implicitDefEqProofs only [g1, c1, c2, w1, List.length_map, go_sem, awp_seq, Nat.reduceBNe, Nat.reduceBEq, Nat.reduceAdd, Nat.reduceSub, Nat.reduceMul, Nat.reduceLeDiff, Nat.reduceLT, Nat.reduceEqDiff, Nat.reduceBneDiff, Int.reduceLE, Int.reduceLT, Int.reduceToNat, Int.reduceBEq, Int.reduceBNe, Int.reduceAdd, Int.reduceSub, Int.cast_ofNat_Int]
    | false =>
      cases c3 : decide (cmpZ (pz y f * 2) (pd f) ≤ 0) with
      | true =>
        obtain ⟨e1, e2⟩ := bad (by simp only [clsBad, c3, Bool.true_or, Bool.or_true])
        rw [e1, e2]
        obtain ⟨_, _, _, rfl, _⟩ := hv
        refine ACalls.of ⟨9, []⟩ (fn := Tryz.f49) Tryz.func49 rfl rfl rfl (by kernel_rfl) (by kernel_rfl) (Nat.le_of_ble_eq_true rfl) ?_
        simp -implicitDefEqProofs only [go_sem, awp_seq, Nat.reduceBNe, Nat.reduceBEq, Nat.reduceAdd, Nat.reduceSub, Nat.reduceMul, Nat.reduceLeDiff, Nat.reduceLT, Nat.reduceEqDiff, Nat.reduceBneDiff, Int.reduceLE, Int.reduceLT, Int.reduceToNat, Int.reduceBEq, Int.reduceBNe, Int.reduceAdd, Int.reduceSub, Int.cast_ofNat_Int]
        refine callA_mk K ?_
        simp -implicitDefEqProofs only [g1, c1, c2, w1, List.length_map, go_sem, awp_seq, Nat.reduceBNe, Nat.reduceBEq, Nat.reduceAdd, Nat.reduceSub, Nat.reduceMul, Nat.reduceLeDiff, Nat.reduceLT, Nat.reduceEqDiff, Nat.reduceBneDiff, Int.reduceLE, Int.reduceLT, Int.reduceToNat, Int.reduceBEq, Int.reduceBNe, Int.reduceAdd, Int.reduceSub, Int.cast_ofNat_Int]
        refine callA_mk O1 ?_
        simp -implicitDefEqProofs only [go_sem, awp_seq, Nat.reduceBNe, Nat.reduceBEq, Nat.reduceAdd, Nat.reduceSub, Nat.reduceMul, Nat.reduceLeDiff, Nat.reduceLT, Nat.reduceEqDiff, Nat.reduceBneDiff, Int.reduceLE, Int.reduceLT, Int.reduceToNat, Int.reduceBEq, Int.reduceBNe, Int.reduceAdd, Int.reduceSub, Int.cast_ofNat_Int]
        refine callA_mk C1 ?_
        simp -implicitDefEqProofs only [c3, go_sem, awp_seq, Nat.reduceBNe, Nat.reduceBEq, Nat.reduceAdd, Nat.reduceSub, Nat.reduceMul, Nat.reduceLeDiff, Nat.reduceLT, Nat.reduceEqDiff, Nat.reduceBneDiff, Int.reduceLE, Int.reduceLT, Int.reduceToNat, Int.reduceBEq, Int.reduceBNe, Int.reduceAdd, Int.reduceSub, Int.cast_ofNat_Int]
      | false =>
        cases c4 : decide (0 < cmpZ (pz y f) (pd f)) with
        | true =>
          obtain ⟨e1, e2⟩ := bad (by simp only [clsBad, c4, Bool.or_true])
          rw [e1, e2]
          obtain ⟨_, _, _, rfl, _⟩ := hv
          refine ACalls.of ⟨9, []⟩ (fn := Tryz.f49) Tryz.func49 rfl rfl rfl (by kernel_rfl) (by kernel_rfl) (Nat.le_of_ble_eq_true rfl) ?_
          simp -implicitDefEqProofs only [go_sem, awp_seq, Nat.reduceBNe, Nat.reduceBEq, Nat.reduceAdd, Nat.reduceSub, Nat.reduceMul, Nat.reduceLeDiff, Nat.reduceLT, Nat.reduceEqDiff, Nat.reduceBneDiff, Int.reduceLE, Int.reduceLT, Int.reduceToNat, Int.reduceBEq, Int.reduceBNe, Int.reduceAdd, Int.reduceSub, Int.cast_ofNat_Int]
          refine callA_mk K ?_
          simp -implicitDefEqProofs only [g1, c1, c2, w1, List.length_map, go_sem, awp_seq, Nat.reduceBNe, Nat.reduceBEq, Nat.reduceAdd, Nat.reduceSub, Nat.reduceMul, Nat.reduceLeDiff, Nat.reduceLT, Nat.reduceEqDiff, Nat.reduceBneDiff, Int.reduceLE, Int.reduceLT, Int.reduceToNat, Int.reduceBEq, Int.reduceBNe, Int.reduceAdd, Int.reduceSub, Int.cast_ofNat_Int]
          refine callA_mk O1 ?_
          simp -implicitDefEqProofs only [go_sem, awp_seq, Nat.reduceBNe, Nat.reduceBEq, Nat.reduceAdd, Nat.reduceSub, Nat.reduceMul, Nat.reduceLeDiff, Nat.reduceLT, Nat.reduceEqDiff, Nat.reduceBneDiff, Int.reduceLE, Int.reduceLT, Int.reduceToNat, Int.reduceBEq, Int.reduceBNe, Int.reduceAdd, Int.reduceSub, Int.cast_ofNat_Int]
          refine callA_mk C1 ?_
          simp -implicitDefEqProofs only [c3, go_sem, awp_seq, Nat.reduceBNe, Nat.reduceBEq, Nat.reduceAdd, Nat.reduceSub, Nat.reduceMul, Nat.reduceLeDiff, Nat.reduceLT, Nat.reduceEqDiff, Nat.reduceBneDiff, Int.reduceLE, Int.reduceLT, Int.reduceToNat, Int.reduceBEq, Int.reduceBNe, Int.reduceAdd, Int.reduceSub, Int.cast_ofNat_Int]
          refine callA_mk O2 ?_
          simp -implicitDefEqProofs only [go_sem, awp_seq, Nat.reduceBNe, Nat.reduceBEq, Nat.reduceAdd, Nat.reduceSub, Nat.reduceMul, Nat.reduceLeDiff, Nat.reduceLT, Nat.reduceEqDiff, Nat.reduceBneDiff, Int.reduceLE, Int.reduceLT, Int.reduceToNat, Int.reduceBEq, Int.reduceBNe, Int.reduceAdd, Int.reduceSub, Int.cast_ofNat_Int]
          refine callA_mk C2 ?_
          simp -implicitDefEqProofs only [c4, go_sem, awp_seq, Nat.reduceBNe, Nat.reduceBEq, Nat.reduceAdd, Nat.reduceSub, Nat.reduceMul, Nat.reduceLeDiff, Nat.reduceLT, Nat.reduceEqDiff, Nat.reduceBneDiff, Int.reduceLE, Int.reduceLT, Int.reduceToNat, Int.reduceBEq, Int.reduceBNe, Int.reduceAdd, Int.reduceSub, Int.cast_ofNat_Int]
        | false =>
          have hb : ¬ clsBad ws cut y f = true := by simp only [clsBad, c1, c2, c3, c4]; simp
          have eE : clsE ws cut y f = 0 := by unfold clsE; rw [if_neg h1, if_neg hb]
          simp at c1 c2
          obtain ⟨c, rfl⟩ := Int.eq_ofNat_of_zero_le (show 0 ≤ cut by omega)
          have eV : clsV ws (c : Nat) y f = (if reachB (psum (ws.drop c) (ws.drop c).length) (psum ws ws.length) y f then 1 else if reachB (psum (ws.take c) (ws.take c).length) (psum ws ws.length) y f then 0 else -1) := by
            unfold clsV
            rw [if_neg h1, if_neg hb, Int.toNat_natCast]
          have R1 := ereach_c (ws.drop c) ws (hw.drop c) hw (by simp; omega) hl hpos hv hy hf
          have R2 := ereach_c (ws.take c) ws (hw.take c) hw (by simp; omega) hl hpos hv hy hf
          have d1 : decide (((c : Nat) : Int) < 1) = false := by simp; omega
          have d2 : decide ((ws.length : Int) - 1 < ((c : Nat) : Int)) = false := by simp; omega
          rw [eE, eV]
          generalize reachB (psum (ws.drop c) (ws.drop c).length) (psum ws ws.length) y f = b1 at *
          generalize reachB (psum (ws.take c) (ws.take c).length) (psum ws ws.length) y f = b2 at *
          have s1 : (c : Int) ≤ ((ws.length : Nat) : Int) := by omega
          obtain ⟨_, _, _, rfl, _⟩ := hv
          refine ACalls.of ⟨9, []⟩ (fn := Tryz.f49) Tryz.func49 rfl rfl rfl (by kernel_rfl) (by kernel_rfl) (Nat.le_of_ble_eq_true rfl) ?_
          simp -implicitDefEqProofs only [go_sem, awp_seq, Nat.reduceBNe, Nat.reduceBEq, Nat.reduceAdd, Nat.reduceSub, Nat.reduceMul, Nat.reduceLeDiff, Nat.reduceLT, Nat.reduceEqDiff, Nat.reduceBneDiff, Int.reduceLE, Int.reduceLT, Int.reduceToNat, Int.reduceBEq, Int.reduceBNe, Int.reduceAdd, Int.reduceSub, Int.cast_ofNat_Int]
          refine callA_mk K ?_
          simp -implicitDefEqProofs only [g1, d1, d2, w1, List.length_map, go_sem, awp_seq, Nat.reduceBNe, Nat.reduceBEq, Nat.reduceAdd, Nat.reduceSub, Nat.reduceMul, Nat.reduceLeDiff, Nat.reduceLT, Nat.reduceEqDiff, Nat.reduceBneDiff, Int.reduceLE, Int.reduceLT, Int.reduceToNat, Int.reduceBEq, Int.reduceBNe, Int.reduceAdd, Int.reduceSub, Int.cast_ofNat_Int]
          refine callA_mk O1 ?_
          simp -implicitDefEqProofs only [go_sem, awp_seq, Nat.reduceBNe, Nat.reduceBEq, Nat.reduceAdd, Nat.reduceSub, Nat.reduceMul, Nat.reduceLeDiff, Nat.reduceLT, Nat.reduceEqDiff, Nat.reduceBneDiff, Int.reduceLE, Int.reduceLT, Int.reduceToNat, Int.reduceBEq, Int.reduceBNe, Int.reduceAdd, Int.reduceSub, Int.cast_ofNat_Int]
          refine callA_mk C1 ?_
          simp -implicitDefEqProofs only [c3, go_sem, awp_seq, Nat.reduceBNe, Nat.reduceBEq, Nat.reduceAdd, Nat.reduceSub, Nat.reduceMul, Nat.reduceLeDiff, Nat.reduceLT, Nat.reduceEqDiff, Nat.reduceBneDiff, Int.reduceLE, Int.reduceLT, Int.reduceToNat, Int.reduceBEq, Int.reduceBNe, Int.reduceAdd, Int.reduceSub, Int.cast_ofNat_Int]
          refine callA_mk O2 ?_
          simp -implicitDefEqProofs only [go_sem, awp_seq, Nat.reduceBNe, Nat.reduceBEq, Nat.reduceAdd, Nat.reduceSub, Nat.reduceMul, Nat.reduceLeDiff, Nat.reduceLT, Nat.reduceEqDiff, Nat.reduceBneDiff, Int.reduceLE, Int.reduceLT, Int.reduceToNat, Int.reduceBEq, Int.reduceBNe, Int.reduceAdd, Int.reduceSub, Int.cast_ofNat_Int]
          refine callA_mk C2 ?_
          simp -implicitDefEqProofs only [c4, go_sem, awp_seq, Nat.reduceBNe, Nat.reduceBEq, Nat.reduceAdd, Nat.reduceSub, Nat.reduceMul, Nat.reduceLeDiff, Nat.reduceLT, Nat.reduceEqDiff, Nat.reduceBneDiff, Int.reduceLE, Int.reduceLT, Int.reduceToNat, Int.reduceBEq, Int.reduceBNe, Int.reduceAdd, Int.reduceSub, Int.cast_ofNat_Int]
          refine slice_lo ws (by omega) ?_
          simp -implicitDefEqProofs only [go_sem, awp_seq, Nat.reduceBNe, Nat.reduceBEq, Nat.reduceAdd, Nat.reduceSub, Nat.reduceMul, Nat.reduceLeDiff, Nat.reduceLT, Nat.reduceEqDiff, Nat.reduceBneDiff, Int.reduceLE, Int.reduceLT, Int.reduceToNat, Int.reduceBEq, Int.reduceBNe, Int.reduceAdd, Int.reduceSub, Int.cast_ofNat_Int]
          refine callA_mk R1 ?_
          cases b1 with
          | true => simp -implicitDefEqProofs only [if_true, go_sem, awp_seq, Nat.reduceBNe, Nat.reduceBEq, Nat.reduceAdd, Nat.reduceSub, Nat.reduceMul, Nat.reduceLeDiff, Nat.reduceLT, Nat.reduceEqDiff, Nat.reduceBneDiff, Int.reduceLE, Int.reduceLT, Int.reduceToNat, Int.reduceBEq, Int.reduceBNe, Int.reduceAdd, Int.reduceSub, Int.cast_ofNat_Int]
          | false =>
            simp -implicitDefEqProofs only [go_sem, awp_seq, Nat.reduceBNe, Nat.reduceBEq, Nat.reduceAdd, Nat.reduceSub, Nat.reduceMul, Nat.reduceLeDiff, Nat.reduceLT, Nat.reduceEqDiff, Nat.reduceBneDiff, Int.reduceLE, Int.reduceLT, Int.reduceToNat, Int.reduceBEq, Int.reduceBNe, Int.reduceAdd, Int.reduceSub, Int.cast_ofNat_Int]
            refine slice_hi ws (by omega) ?_
            simp -implicitDefEqProofs only [go_sem, awp_seq, Nat.reduceBNe, Nat.reduceBEq, Nat.reduceAdd, Nat.reduceSub, Nat.reduceMul, Nat.reduceLeDiff, Nat.reduceLT, Nat.reduceEqDiff, Nat.reduceBneDiff, Int.reduceLE, Int.reduceLT, Int.reduceToNat, Int.reduceBEq, Int.reduceBNe, Int.reduceAdd, Int.reduceSub, Int.cast_ofNat_Int]
            refine callA_mk R2 ?_
            cases b2 with
            | true => simp -implicitDefEqProofs only [if_true, go_sem, awp_seq, Nat.reduceBNe, Nat.reduceBEq, Nat.reduceAdd, Nat.reduceSub, Nat.reduceMul, Nat.reduceLeDiff, Nat.reduceLT, Nat.reduceEqDiff, Nat.reduceBneDiff, Int.reduceLE, Int.reduceLT, Int.reduceToNat, Int.reduceBEq, Int.reduceBNe, Int.reduceAdd, Int.reduceSub, Int.cast_ofNat_Int]
            | false => simp -implicitDefEqProofs only [Bool.false_eq_true, if_false, go_sem, awp_seq, Nat.reduceBNe, Nat.reduceBEq, Nat.reduceAdd, Nat.reduceSub, Nat.reduceMul, Nat.reduceLeDiff, Nat.reduceLT, Nat.reduceEqDiff, Nat.reduceBneDiff, Int.reduceLE, Int.reduceLT, Int.reduceToNat, Int.reduceBEq, Int.reduceBNe, Int.reduceAdd, Int.reduceSub, Int.cast_ofNat_Int]
end
end Go.Proofs.YtfchbehmeppckaaGreat

/- Chapter 38: the rules of a specification. INTS -/
set_option linter.unusedSimpArgs false
set_option linter.unusedVariables false
namespace Go.Proofs.YtfchbehmeppckaaGreat
open Go.RowKit Lim

def boundsE (a b : Int) : Int := if decide (a < 0) || decide (9999999 < a) || decide (b < 0) || decide (9999999 < b) then 3 else if b < a then 23 else 0
theorem bcheck_c (a b : Int) : AT 150 [.agg [i64 a, i64 b]] (i64 (boundsE a b)) := by
  have bad : (decide (a < 0) || decide (9999999 < a) || decide (b < 0) || decide (9999999 < b)) = true → boundsE a b = 3 := fun h => by unfold boundsE; rw [if_pos h]
  cases c1 : decide (a < 0) with
  | true =>
    rw [bad (by rw [c1]; simp)]
    refine ACalls.of ⟨3, []⟩ (fn := Tryz.f150) Tryz.func150 rfl rfl rfl (by kernel_rfl) (by kernel_rfl) (Nat.le_of_ble_eq_true rfl) ?_
    simp -implicitDefEqProofs only [c1, go_sem, awp_seq, Nat.reduceBNe, Nat.reduceBEq, Nat.reduceAdd, Nat.reduceSub, Nat.reduceMul, Nat.reduceLeDiff, Nat.reduceLT, Nat.reduceEqDiff, Nat.reduceBneDiff, Int.reduceLE, Int.reduceLT, Int.reduceToNat, Int.reduceBEq, Int.reduceBNe, Int.reduceAdd, Int.reduceSub, Int.cast_ofNat_Int]
  | false =>
    cases c2 : decide (9999999 < a) with
    | true =>
      rw [bad (by rw [c2]; simp)]
      refine ACalls.of ⟨3, []⟩ (fn := Tryz.f150) Tryz.func150 rfl rfl rfl (by kernel_rfl) (by kernel_rfl) (Nat.le_of_ble_eq_true rfl) ?_
      simp -implicitDefEqProofs only [c1, c2, go_sem, awp_seq, Nat.reduceBNe, Nat.reduceBEq, Nat.reduceAdd, Nat.reduceSub, Nat.reduceMul, Nat.reduceLeDiff, Nat.reduceLT, Nat.reduceEqDiff, Nat.reduceBneDiff, Int.reduceLE, Int.reduceLT, Int.reduceToNat, Int.reduceBEq, Int.reduceBNe, Int.reduceAdd, Int.reduceSub, Int.cast_ofNat_Int]
    | false =>
      cases c3 : decide (b < 0) with
      | true =>
        rw [bad (by rw [c3]; simp)]
        refine ACalls.of ⟨3, []⟩ (fn := Tryz.f150) Tryz.func150 rfl rfl rfl (by kernel_rfl) (by kernel_rfl) (Nat.le_of_ble_eq_true rfl) ?_
        simp -implicitDefEqProofs only [c1, c2, c3, go_sem, awp_seq, Nat.reduceBNe, Nat.reduceBEq, Nat.reduceAdd, Nat.reduceSub, Nat.reduceMul, Nat.reduceLeDiff, Nat.reduceLT, Nat.reduceEqDiff, Nat.reduceBneDiff, Int.reduceLE, Int.reduceLT, Int.reduceToNat, Int.reduceBEq, Int.reduceBNe, Int.reduceAdd, Int.reduceSub, Int.cast_ofNat_Int]
      | false =>
        cases c4 : decide (9999999 < b) with
        | true =>
          rw [bad (by rw [c4]; simp)]
          refine ACalls.of ⟨3, []⟩ (fn := Tryz.f150) Tryz.func150 rfl rfl rfl (by kernel_rfl) (by kernel_rfl) (Nat.le_of_ble_eq_true rfl) ?_
          simp -implicitDefEqProofs only [c1, c2, c3, c4, go_sem, awp_seq, Nat.reduceBNe, Nat.reduceBEq, Nat.reduceAdd, Nat.reduceSub, Nat.reduceMul, Nat.reduceLeDiff, Nat.reduceLT, Nat.reduceEqDiff, Nat.reduceBneDiff, Int.reduceLE, Int.reduceLT, Int.reduceToNat, Int.reduceBEq, Int.reduceBNe, Int.reduceAdd, Int.reduceSub, Int.cast_ofNat_Int]
        | false =>
          have e : boundsE a b = if b < a then 23 else 0 := by unfold boundsE; rw [if_neg (by rw [c1, c2, c3, c4]; simp)]
          rw [e]
          by_cases h : b < a
          · have c5 : decide (b < a) = true := by simp [h]
            rw [if_pos h]
            refine ACalls.of ⟨3, []⟩ (fn := Tryz.f150) Tryz.func150 rfl rfl rfl (by kernel_rfl) (by kernel_rfl) (Nat.le_of_ble_eq_true rfl) ?_
            simp -implicitDefEqProofs only [c1, c2, c3, c4, c5, go_sem, awp_seq, Nat.reduceBNe, Nat.reduceBEq, Nat.reduceAdd, Nat.reduceSub, Nat.reduceMul, Nat.reduceLeDiff, Nat.reduceLT, Nat.reduceEqDiff, Nat.reduceBneDiff, Int.reduceLE, Int.reduceLT, Int.reduceToNat, Int.reduceBEq, Int.reduceBNe, Int.reduceAdd, Int.reduceSub, Int.cast_ofNat_Int]
          · have c5 : decide (b < a) = false := by simp [h]
            rw [if_neg h]
            refine ACalls.of ⟨3, []⟩ (fn := Tryz.f150) Tryz.func150 rfl rfl rfl (by kernel_rfl) (by kernel_rfl) (Nat.le_of_ble_eq_true rfl) ?_
            simp -implicitDefEqProofs only [c1, c2, c3, c4, c5, go_sem, awp_seq, Nat.reduceBNe, Nat.reduceBEq, Nat.reduceAdd, Nat.reduceSub, Nat.reduceMul, Nat.reduceLeDiff, Nat.reduceLT, Nat.reduceEqDiff, Nat.reduceBneDiff, Int.reduceLE, Int.reduceLT, Int.reduceToNat, Int.reduceBEq, Int.reduceBNe, Int.reduceAdd, Int.reduceSub, Int.cast_ofNat_Int]
def numB (n : Int) : Bool := decide (1 ≤ n) && decide (n ≤ 9999999)
theorem numbered_c (n : Int) : AT 178 [i64 n] (boo (numB n)) := by
  unfold numB
  cases c1 : decide (1 ≤ n) with
  | true =>
    refine ACalls.of ⟨3, []⟩ (fn := Tryz.f178) Tryz.func178 rfl rfl rfl (by kernel_rfl) (by kernel_rfl) (Nat.le_of_ble_eq_true rfl) ?_
    simp -implicitDefEqProofs only [c1, go_sem, awp_seq, Nat.reduceBNe, Nat.reduceBEq, Nat.reduceAdd, Nat.reduceSub, Nat.reduceMul, Nat.reduceLeDiff, Nat.reduceLT, Nat.reduceEqDiff, Nat.reduceBneDiff, Int.reduceLE, Int.reduceLT, Int.reduceToNat, Int.reduceBEq, Int.reduceBNe, Int.reduceAdd, Int.reduceSub, Int.cast_ofNat_Int]
  | false =>
    refine ACalls.of ⟨3, []⟩ (fn := Tryz.f178) Tryz.func178 rfl rfl rfl (by kernel_rfl) (by kernel_rfl) (Nat.le_of_ble_eq_true rfl) ?_
    simp -implicitDefEqProofs only [c1, go_sem, awp_seq, Nat.reduceBNe, Nat.reduceBEq, Nat.reduceAdd, Nat.reduceSub, Nat.reduceMul, Nat.reduceLeDiff, Nat.reduceLT, Nat.reduceEqDiff, Nat.reduceBneDiff, Int.reduceLE, Int.reduceLT, Int.reduceToNat, Int.reduceBEq, Int.reduceBNe, Int.reduceAdd, Int.reduceSub, Int.cast_ofNat_Int]
theorem inc_check (n : Int) : AT 180 [.agg [i64 n]] (i64 (if numB n then 0 else 3)) := by
  have N := numbered_c n
  generalize numB n = b at *
  cases b with
  | true =>
    refine ACalls.of ⟨3, []⟩ (fn := Tryz.f180) Tryz.func180 rfl rfl rfl (by kernel_rfl) (by kernel_rfl) (Nat.le_of_ble_eq_true rfl) ?_
    simp -implicitDefEqProofs only [go_sem, awp_seq, Nat.reduceBNe, Nat.reduceBEq, Nat.reduceAdd, Nat.reduceSub, Nat.reduceMul, Nat.reduceLeDiff, Nat.reduceLT, Nat.reduceEqDiff, Nat.reduceBneDiff, Int.reduceLE, Int.reduceLT, Int.reduceToNat, Int.reduceBEq, Int.reduceBNe, Int.reduceAdd, Int.reduceSub, Int.cast_ofNat_Int]
    refine callA_tt N ?_
    simp -implicitDefEqProofs only [if_true, go_sem, awp_seq, Nat.reduceBNe, Nat.reduceBEq, Nat.reduceAdd, Nat.reduceSub, Nat.reduceMul, Nat.reduceLeDiff, Nat.reduceLT, Nat.reduceEqDiff, Nat.reduceBneDiff, Int.reduceLE, Int.reduceLT, Int.reduceToNat, Int.reduceBEq, Int.reduceBNe, Int.reduceAdd, Int.reduceSub, Int.cast_ofNat_Int]
  | false =>
    refine ACalls.of ⟨3, []⟩ (fn := Tryz.f180) Tryz.func180 rfl rfl rfl (by kernel_rfl) (by kernel_rfl) (Nat.le_of_ble_eq_true rfl) ?_
    simp -implicitDefEqProofs only [go_sem, awp_seq, Nat.reduceBNe, Nat.reduceBEq, Nat.reduceAdd, Nat.reduceSub, Nat.reduceMul, Nat.reduceLeDiff, Nat.reduceLT, Nat.reduceEqDiff, Nat.reduceBneDiff, Int.reduceLE, Int.reduceLT, Int.reduceToNat, Int.reduceBEq, Int.reduceBNe, Int.reduceAdd, Int.reduceSub, Int.cast_ofNat_Int]
    refine callA_tt N ?_
    simp -implicitDefEqProofs only [Bool.false_eq_true, if_false, go_sem, awp_seq, Nat.reduceBNe, Nat.reduceBEq, Nat.reduceAdd, Nat.reduceSub, Nat.reduceMul, Nat.reduceLeDiff, Nat.reduceLT, Nat.reduceEqDiff, Nat.reduceBneDiff, Int.reduceLE, Int.reduceLT, Int.reduceToNat, Int.reduceBEq, Int.reduceBNe, Int.reduceAdd, Int.reduceSub, Int.cast_ofNat_Int]
theorem exc_check (n : Int) : AT 185 [.agg [i64 n]] (i64 (if numB n then 0 else 3)) := by
  have N := numbered_c n
  generalize numB n = b at *
  cases b with
  | true =>
    refine ACalls.of ⟨3, []⟩ (fn := Tryz.f185) Tryz.func185 rfl rfl rfl (by kernel_rfl) (by kernel_rfl) (Nat.le_of_ble_eq_true rfl) ?_
    simp -implicitDefEqProofs only [go_sem, awp_seq, Nat.reduceBNe, Nat.reduceBEq, Nat.reduceAdd, Nat.reduceSub, Nat.reduceMul, Nat.reduceLeDiff, Nat.reduceLT, Nat.reduceEqDiff, Nat.reduceBneDiff, Int.reduceLE, Int.reduceLT, Int.reduceToNat, Int.reduceBEq, Int.reduceBNe, Int.reduceAdd, Int.reduceSub, Int.cast_ofNat_Int]
    refine callA_tt N ?_
    simp -implicitDefEqProofs only [if_true, go_sem, awp_seq, Nat.reduceBNe, Nat.reduceBEq, Nat.reduceAdd, Nat.reduceSub, Nat.reduceMul, Nat.reduceLeDiff, Nat.reduceLT, Nat.reduceEqDiff, Nat.reduceBneDiff, Int.reduceLE, Int.reduceLT, Int.reduceToNat, Int.reduceBEq, Int.reduceBNe, Int.reduceAdd, Int.reduceSub, Int.cast_ofNat_Int]
  | false =>
    refine ACalls.of ⟨3, []⟩ (fn := Tryz.f185) Tryz.func185 rfl rfl rfl (by kernel_rfl) (by kernel_rfl) (Nat.le_of_ble_eq_true rfl) ?_
    simp -implicitDefEqProofs only [go_sem, awp_seq, Nat.reduceBNe, Nat.reduceBEq, Nat.reduceAdd, Nat.reduceSub, Nat.reduceMul, Nat.reduceLeDiff, Nat.reduceLT, Nat.reduceEqDiff, Nat.reduceBneDiff, Int.reduceLE, Int.reduceLT, Int.reduceToNat, Int.reduceBEq, Int.reduceBNe, Int.reduceAdd, Int.reduceSub, Int.cast_ofNat_Int]
    refine callA_tt N ?_
    simp -implicitDefEqProofs only [Bool.false_eq_true, if_false, go_sem, awp_seq, Nat.reduceBNe, Nat.reduceBEq, Nat.reduceAdd, Nat.reduceSub, Nat.reduceMul, Nat.reduceLeDiff, Nat.reduceLT, Nat.reduceEqDiff, Nat.reduceBneDiff, Int.reduceLE, Int.reduceLT, Int.reduceToNat, Int.reduceBEq, Int.reduceBNe, Int.reduceAdd, Int.reduceSub, Int.cast_ofNat_Int]
theorem fam_check : AT 190 [.agg []] (i64 0) := by
  refine ACalls.of ⟨3, []⟩ (fn := Tryz.f190) Tryz.func190 rfl rfl rfl (by kernel_rfl) (by kernel_rfl) (Nat.le_of_ble_eq_true rfl) ?_
  simp -implicitDefEqProofs only [go_sem, awp_seq, Nat.reduceBNe, Nat.reduceBEq, Nat.reduceAdd, Nat.reduceSub, Nat.reduceMul, Nat.reduceLeDiff, Nat.reduceLT, Nat.reduceEqDiff, Nat.reduceBneDiff, Int.reduceLE, Int.reduceLT, Int.reduceToNat, Int.reduceBEq, Int.reduceBNe, Int.reduceAdd, Int.reduceSub, Int.cast_ofNat_Int]
def setE (a b n : Int) : Int := if !(numB n) || (a == 0) then 3 else boundsE a b
theorem set_check (a b n : Int) : AT 174 [.agg [i64 a, i64 b, i64 n]] (i64 (setE a b n)) := by
  have N := numbered_c n
  have B := bcheck_c a b
  unfold setE
  generalize numB n = nb at *
  cases nb with
  | false =>
    refine ACalls.of ⟨3, []⟩ (fn := Tryz.f174) Tryz.func174 rfl rfl rfl (by kernel_rfl) (by kernel_rfl) (Nat.le_of_ble_eq_true rfl) ?_
    simp -implicitDefEqProofs only [go_sem, awp_seq, Nat.reduceBNe, Nat.reduceBEq, Nat.reduceAdd, Nat.reduceSub, Nat.reduceMul, Nat.reduceLeDiff, Nat.reduceLT, Nat.reduceEqDiff, Nat.reduceBneDiff, Int.reduceLE, Int.reduceLT, Int.reduceToNat, Int.reduceBEq, Int.reduceBNe, Int.reduceAdd, Int.reduceSub, Int.cast_ofNat_Int]
    refine callA_tt N ?_
    simp -implicitDefEqProofs only [if_true, go_sem, awp_seq, Nat.reduceBNe, Nat.reduceBEq, Nat.reduceAdd, Nat.reduceSub, Nat.reduceMul, Nat.reduceLeDiff, Nat.reduceLT, Nat.reduceEqDiff, Nat.reduceBneDiff, Int.reduceLE, Int.reduceLT, Int.reduceToNat, Int.reduceBEq, Int.reduceBNe, Int.reduceAdd, Int.reduceSub, Int.cast_ofNat_Int]
  | true =>
    cases c1 : (a == 0) with
    | true =>
      refine ACalls.of ⟨3, []⟩ (fn := Tryz.f174) Tryz.func174 rfl rfl rfl (by kernel_rfl) (by kernel_rfl) (Nat.le_of_ble_eq_true rfl) ?_
      simp -implicitDefEqProofs only [go_sem, awp_seq, Nat.reduceBNe, Nat.reduceBEq, Nat.reduceAdd, Nat.reduceSub, Nat.reduceMul, Nat.reduceLeDiff, Nat.reduceLT, Nat.reduceEqDiff, Nat.reduceBneDiff, Int.reduceLE, Int.reduceLT, Int.reduceToNat, Int.reduceBEq, Int.reduceBNe, Int.reduceAdd, Int.reduceSub, Int.cast_ofNat_Int]
      refine callA_tt N ?_
      simp -implicitDefEqProofs only [c1, if_true, go_sem, awp_seq, Nat.reduceBNe, Nat.reduceBEq, Nat.reduceAdd, Nat.reduceSub, Nat.reduceMul, Nat.reduceLeDiff, Nat.reduceLT, Nat.reduceEqDiff, Nat.reduceBneDiff, Int.reduceLE, Int.reduceLT, Int.reduceToNat, Int.reduceBEq, Int.reduceBNe, Int.reduceAdd, Int.reduceSub, Int.cast_ofNat_Int]
    | false =>
      refine ACalls.of ⟨3, []⟩ (fn := Tryz.f174) Tryz.func174 rfl rfl rfl (by kernel_rfl) (by kernel_rfl) (Nat.le_of_ble_eq_true rfl) ?_
      simp -implicitDefEqProofs only [go_sem, awp_seq, Nat.reduceBNe, Nat.reduceBEq, Nat.reduceAdd, Nat.reduceSub, Nat.reduceMul, Nat.reduceLeDiff, Nat.reduceLT, Nat.reduceEqDiff, Nat.reduceBneDiff, Int.reduceLE, Int.reduceLT, Int.reduceToNat, Int.reduceBEq, Int.reduceBNe, Int.reduceAdd, Int.reduceSub, Int.cast_ofNat_Int]
      refine callA_tt N ?_
      simp -implicitDefEqProofs only [c1, go_sem, awp_seq, Nat.reduceBNe, Nat.reduceBEq, Nat.reduceAdd, Nat.reduceSub, Nat.reduceMul, Nat.reduceLeDiff, Nat.reduceLT, Nat.reduceEqDiff, Nat.reduceBneDiff, Int.reduceLE, Int.reduceLT, Int.reduceToNat, Int.reduceBEq, Int.reduceBNe, Int.reduceAdd, Int.reduceSub, Int.cast_ofNat_Int]
      refine callA_tt B ?_
      simp -implicitDefEqProofs only [Bool.false_eq_true, if_false, go_sem, awp_seq, Nat.reduceBNe, Nat.reduceBEq, Nat.reduceAdd, Nat.reduceSub, Nat.reduceMul, Nat.reduceLeDiff, Nat.reduceLT, Nat.reduceEqDiff, Nat.reduceBneDiff, Int.reduceLE, Int.reduceLT, Int.reduceToNat, Int.reduceBEq, Int.reduceBNe, Int.reduceAdd, Int.reduceSub, Int.cast_ofNat_Int]
def keyE (a b n : Int) : Int := if decide (n < 1) || decide (10 < n) then 3 else boundsE a b
theorem key_check (a b n : Int) (g : AV) (hg : g.one = true) (hn : g.noLimb = true) : AT 171 [.agg [i64 a, i64 b, g, i64 n]] (i64 (keyE a b n)) := by
  have B := bcheck_c a b
  unfold keyE
  cases c1 : decide (n < 1) with
  | true =>
    refine ACalls.of ⟨3, []⟩ (fn := Tryz.f171) Tryz.func171 rfl rfl rfl (by kernel_rfl) (by kernel_rfl) (Nat.le_of_ble_eq_true rfl) ?_
    simp -implicitDefEqProofs only [c1, hg, hn, if_true, go_sem, awp_seq, Nat.reduceBNe, Nat.reduceBEq, Nat.reduceAdd, Nat.reduceSub, Nat.reduceMul, Nat.reduceLeDiff, Nat.reduceLT, Nat.reduceEqDiff, Nat.reduceBneDiff, Int.reduceLE, Int.reduceLT, Int.reduceToNat, Int.reduceBEq, Int.reduceBNe, Int.reduceAdd, Int.reduceSub, Int.cast_ofNat_Int]
  | false =>
    cases c2 : decide (10 < n) with
    | true =>
      refine ACalls.of ⟨3, []⟩ (fn := Tryz.f171) Tryz.func171 rfl rfl rfl (by kernel_rfl) (by kernel_rfl) (Nat.le_of_ble_eq_true rfl) ?_
      simp -implicitDefEqProofs only [c1, c2, hg, hn, if_true, go_sem, awp_seq, Nat.reduceBNe, Nat.reduceBEq, Nat.reduceAdd, Nat.reduceSub, Nat.reduceMul, Nat.reduceLeDiff, Nat.reduceLT, Nat.reduceEqDiff, Nat.reduceBneDiff, Int.reduceLE, Int.reduceLT, Int.reduceToNat, Int.reduceBEq, Int.reduceBNe, Int.reduceAdd, Int.reduceSub, Int.cast_ofNat_Int]
    | false =>
      refine ACalls.of ⟨3, []⟩ (fn := Tryz.f171) Tryz.func171 rfl rfl rfl (by kernel_rfl) (by kernel_rfl) (Nat.le_of_ble_eq_true rfl) ?_
      simp -implicitDefEqProofs only [c1, c2, hg, hn, go_sem, awp_seq, Nat.reduceBNe, Nat.reduceBEq, Nat.reduceAdd, Nat.reduceSub, Nat.reduceMul, Nat.reduceLeDiff, Nat.reduceLT, Nat.reduceEqDiff, Nat.reduceBneDiff, Int.reduceLE, Int.reduceLT, Int.reduceToNat, Int.reduceBEq, Int.reduceBNe, Int.reduceAdd, Int.reduceSub, Int.cast_ofNat_Int]
      refine callA_tt B ?_
      simp -implicitDefEqProofs only [Bool.false_eq_true, if_false, go_sem, awp_seq, Nat.reduceBNe, Nat.reduceBEq, Nat.reduceAdd, Nat.reduceSub, Nat.reduceMul, Nat.reduceLeDiff, Nat.reduceLT, Nat.reduceEqDiff, Nat.reduceBneDiff, Int.reduceLE, Int.reduceLT, Int.reduceToNat, Int.reduceBEq, Int.reduceBNe, Int.reduceAdd, Int.reduceSub, Int.cast_ofNat_Int]
end Go.Proofs.YtfchbehmeppckaaGreat

/- Chapter 38: content codes. INTS -/
set_option linter.unusedSimpArgs false
set_option linter.unusedVariables false
namespace Go.Proofs.YtfchbehmeppckaaGreat
open Go.RowKit Lim

def okByte (b : UInt8) : Bool := !((decide ((b.toNat : Int) < 65) || decide ((90 : Int) < b.toNat)) && (decide ((b.toNat : Int) < 48) || decide ((57 : Int) < b.toNat)))
def segB (s : List UInt8) : Bool := s.all okByte && (decide ((1 : Int) ≤ (s.length : Nat)) && decide (((s.length : Nat) : Int) ≤ 8))
theorem validSegment_c (s : List UInt8) (hs : s.length < 4611686018427387904) : AT 158 [str s] (boo (segB s)) := by
  have bad : ∀ k (hk : k < s.length), okByte s[k] = false → segB s = false := fun k hk hb => by
    have : s.all okByte = false := by
      rw [List.all_eq_false]
      exact ⟨s[k], List.getElem_mem hk, by simp [hb]⟩
    simp [segB, this]
  refine ACalls.of ⟨4, []⟩ (fn := Tryz.f158) Tryz.func158 rfl rfl rfl (by kernel_rfl) (by kernel_rfl) (Nat.le_of_ble_eq_true rfl) ?_
  simp -implicitDefEqProofs only [go_sem, awp_seq, Nat.reduceBNe, Nat.reduceBEq, Nat.reduceAdd, Nat.reduceSub, Nat.reduceMul, Nat.reduceLeDiff, Nat.reduceLT, Nat.reduceEqDiff, Nat.reduceBneDiff, Int.reduceLE, Int.reduceLT, Int.reduceToNat, Int.reduceBEq, Int.reduceBNe, Int.reduceAdd, Int.reduceSub, Int.cast_ofNat_Int]
  refine loop_mk (α := {k : Nat // k ≤ s.length ∧ ∀ i (hi : i < s.length), i < k → okByte s[i] = true}) (fun k => [(0, some (.av (str s))), (2, some (.av (boo false))), (3, some (.av (i64 (k.1 : Nat))))]) (fun _ => []) (fun _ => []) (fun k => s.length - k.1) ⟨0, Nat.zero_le _, fun i _ hi => by omega⟩ ?_ ?_
  · simp -implicitDefEqProofs only [go_sem, awp_seq, Nat.reduceBNe, Nat.reduceBEq, Nat.reduceAdd, Nat.reduceSub, Nat.reduceMul, Nat.reduceLeDiff, Nat.reduceLT, Nat.reduceEqDiff, Nat.reduceBneDiff, Int.reduceLE, Int.reduceLT, Int.reduceToNat, Int.reduceBEq, Int.reduceBNe, Int.reduceAdd, Int.reduceSub, Int.cast_ofNat_Int]
  · rintro ⟨k, hk, hall⟩
    by_cases hlt : k < s.length
    · have g1 : decide (((k : Nat) : Int) < (s.length : Nat)) = true := by simp; omega
      have e1 : s[k]? = some s[k] := List.getElem?_eq_getElem hlt
      have w1 : IntKind.i64.wrap ((k : Int) + 1) = ((k + 1 : Nat) : Int) := by rw [IntWalk.i64_in _ (by omega)]; omega
      have b0 := bad k hlt
      have ok1 : okByte s[k] = true → ∀ i (hi : i < s.length), i < k + 1 → okByte s[i] = true := fun h i hi hik => by
        by_cases he : i = k
        · subst he; exact h
        · exact hall i hi (by omega)
      generalize s[k] = b at *
      cases c1 : decide ((b.toNat : Int) < 65) with
      | true =>
        cases c3 : decide ((b.toNat : Int) < 48) with
        | true =>
          have e := b0 (by simp [okByte, c1, c3])
          simp -implicitDefEqProofs only [bs_size, strK_bs, g1, e1, c1, c3, e, Int.toNat_natCast, Int.natCast_nonneg, go_sem, awp_seq, Nat.reduceBNe, Nat.reduceBEq, Nat.reduceAdd, Nat.reduceSub, Nat.reduceMul, Nat.reduceLeDiff, Nat.reduceLT, Nat.reduceEqDiff, Nat.reduceBneDiff, Int.reduceLE, Int.reduceLT, Int.reduceToNat, Int.reduceBEq, Int.reduceBNe, Int.reduceAdd, Int.reduceSub, Int.cast_ofNat_Int]
        | false =>
          cases c4 : decide ((57 : Int) < b.toNat) with
          | true =>
            have e := b0 (by simp [okByte, c1, c4])
            simp -implicitDefEqProofs only [bs_size, strK_bs, g1, e1, c1, c3, c4, e, Int.toNat_natCast, Int.natCast_nonneg, go_sem, awp_seq, Nat.reduceBNe, Nat.reduceBEq, Nat.reduceAdd, Nat.reduceSub, Nat.reduceMul, Nat.reduceLeDiff, Nat.reduceLT, Nat.reduceEqDiff, Nat.reduceBneDiff, Int.reduceLE, Int.reduceLT, Int.reduceToNat, Int.reduceBEq, Int.reduceBNe, Int.reduceAdd, Int.reduceSub, Int.cast_ofNat_Int]
          | false =>
            simp -implicitDefEqProofs only [bs_size, strK_bs, g1, e1, c1, c3, c4, w1, Int.toNat_natCast, Int.natCast_nonneg, go_sem, awp_seq, Nat.reduceBNe, Nat.reduceBEq, Nat.reduceAdd, Nat.reduceSub, Nat.reduceMul, Nat.reduceLeDiff, Nat.reduceLT, Nat.reduceEqDiff, Nat.reduceBneDiff, Int.reduceLE, Int.reduceLT, Int.reduceToNat, Int.reduceBEq, Int.reduceBNe, Int.reduceAdd, Int.reduceSub, Int.cast_ofNat_Int]
            refine roundK_mk ⟨k + 1, by omega, ok1 (by simp [okByte, c1, c3, c4])⟩ ?_ (by show s.length - (k + 1) < s.length - k; omega)
            simp -implicitDefEqProofs only [go_sem, awp_seq, Nat.reduceBNe, Nat.reduceBEq, Nat.reduceAdd, Nat.reduceSub, Nat.reduceMul, Nat.reduceLeDiff, Nat.reduceLT, Nat.reduceEqDiff, Nat.reduceBneDiff, Int.reduceLE, Int.reduceLT, Int.reduceToNat, Int.reduceBEq, Int.reduceBNe, Int.reduceAdd, Int.reduceSub, Int.cast_ofNat_Int]
      | false =>
        cases c2 : decide ((90 : Int) < b.toNat) with
        | true =>
          cases c3 : decide ((b.toNat : Int) < 48) with
          | true =>
            have e := b0 (by simp [okByte, c2, c3])
            simp -implicitDefEqProofs only [bs_size, strK_bs, g1, e1, c1, c2, c3, e, Int.toNat_natCast, Int.natCast_nonneg, go_sem, awp_seq, Nat.reduceBNe, Nat.reduceBEq, Nat.reduceAdd, Nat.reduceSub, Nat.reduceMul, Nat.reduceLeDiff, Nat.reduceLT, Nat.reduceEqDiff, Nat.reduceBneDiff, Int.reduceLE, Int.reduceLT, Int.reduceToNat, Int.reduceBEq, Int.reduceBNe, Int.reduceAdd, Int.reduceSub, Int.cast_ofNat_Int]
          | false =>
            cases c4 : decide ((57 : Int) < b.toNat) with
            | true =>
              have e := b0 (by simp [okByte, c2, c4])
              simp -implicitDefEqProofs only [bs_size, strK_bs, g1, e1, c1, c2, c3, c4, e, Int.toNat_natCast, Int.natCast_nonneg, go_sem, awp_seq, Nat.reduceBNe, Nat.reduceBEq, Nat.reduceAdd, Nat.reduceSub, Nat.reduceMul, Nat.reduceLeDiff, Nat.reduceLT, Nat.reduceEqDiff, Nat.reduceBneDiff, Int.reduceLE, Int.reduceLT, Int.reduceToNat, Int.reduceBEq, Int.reduceBNe, Int.reduceAdd, Int.reduceSub, Int.cast_ofNat_Int]
            | false =>
              simp -implicitDefEqProofs only [bs_size, strK_bs, g1, e1, c1, c2, c3, c4, w1, Int.toNat_natCast, Int.natCast_nonneg, go_sem, awp_seq, Nat.reduceBNe, Nat.reduceBEq, Nat.reduceAdd, Nat.reduceSub, Nat.reduceMul, Nat.reduceLeDiff, Nat.reduceLT, Nat.reduceEqDiff, Nat.reduceBneDiff, Int.reduceLE, Int.reduceLT, Int.reduceToNat, Int.reduceBEq, Int.reduceBNe, Int.reduceAdd, Int.reduceSub, Int.cast_ofNat_Int]
              refine roundK_mk ⟨k + 1, by omega, ok1 (by simp [okByte, c1, c2, c3, c4])⟩ ?_ (by show s.length - (k + 1) < s.length - k; omega)
              simp -implicitDefEqProofs only [go_sem, awp_seq, Nat.reduceBNe, Nat.reduceBEq, Nat.reduceAdd, Nat.reduceSub, Nat.reduceMul, Nat.reduceLeDiff, Nat.reduceLT, Nat.reduceEqDiff, Nat.reduceBneDiff, Int.reduceLE, Int.reduceLT, Int.reduceToNat, Int.reduceBEq, Int.reduceBNe, Int.reduceAdd, Int.reduceSub, Int.cast_ofNat_Int]
        | false =>
          simp -implicitDefEqProofs only [bs_size, strK_bs, g1, e1, c1, c2, w1, Int.toNat_natCast, Int.natCast_nonneg, go_sem, awp_seq, Nat.reduceBNe, Nat.reduceBEq, Nat.reduceAdd, Nat.reduceSub, Nat.reduceMul, Nat.reduceLeDiff, Nat.reduceLT, Nat.reduceEqDiff, Nat.reduceBneDiff, Int.reduceLE, Int.reduceLT, Int.reduceToNat, Int.reduceBEq, Int.reduceBNe, Int.reduceAdd, Int.reduceSub, Int.cast_ofNat_Int]
          refine roundK_mk ⟨k + 1, by omega, ok1 (by simp [okByte, c1, c2])⟩ ?_ (by show s.length - (k + 1) < s.length - k; omega)
          simp -implicitDefEqProofs only [go_sem, awp_seq, Nat.reduceBNe, Nat.reduceBEq, Nat.reduceAdd, Nat.reduceSub, Nat.reduceMul, Nat.reduceLeDiff, Nat.reduceLT, Nat.reduceEqDiff, Nat.reduceBneDiff, Int.reduceLE, Int.reduceLT, Int.reduceToNat, Int.reduceBEq, Int.reduceBNe, Int.reduceAdd, Int.reduceSub, Int.cast_ofNat_Int]
    · have g1 : decide (((k : Nat) : Int) < (s.length : Nat)) = false := by simp; omega
      have hA : s.all okByte = true := by
        rw [List.all_eq_true]
        intro x hx
        obtain ⟨i, hi, rfl⟩ := List.getElem_of_mem hx
        exact hall i hi (by omega)
      have e : segB s = (decide ((1 : Int) ≤ (s.length : Nat)) && decide (((s.length : Nat) : Int) ≤ 8)) := by rw [segB, hA, Bool.true_and]
      rw [e]
      cases c1 : decide ((1 : Int) ≤ (s.length : Nat)) with
      | true => simp -implicitDefEqProofs only [bs_size, g1, c1, go_sem, awp_seq, Nat.reduceBNe, Nat.reduceBEq, Nat.reduceAdd, Nat.reduceSub, Nat.reduceMul, Nat.reduceLeDiff, Nat.reduceLT, Nat.reduceEqDiff, Nat.reduceBneDiff, Int.reduceLE, Int.reduceLT, Int.reduceToNat, Int.reduceBEq, Int.reduceBNe, Int.reduceAdd, Int.reduceSub, Int.cast_ofNat_Int]
      | false => simp -implicitDefEqProofs only [bs_size, g1, c1, go_sem, awp_seq, Nat.reduceBNe, Nat.reduceBEq, Nat.reduceAdd, Nat.reduceSub, Nat.reduceMul, Nat.reduceLeDiff, Nat.reduceLT, Nat.reduceEqDiff, Nat.reduceBneDiff, Int.reduceLE, Int.reduceLT, Int.reduceToNat, Int.reduceBEq, Int.reduceBNe, Int.reduceAdd, Int.reduceSub, Int.cast_ofNat_Int]
/-- The segments of a code, at most n of them; whether these are all. -/
def segL : Nat → List UInt8 → List (List UInt8) × Bool
  | 0, _ => ([], false)
  | n + 1, s => if (Lib.cut s [46]).2.2 then ((Lib.cut s [46]).1 :: (segL n (Lib.cut s [46]).2.1).1, (segL n (Lib.cut s [46]).2.1).2) else ([(Lib.cut s [46]).1], true)
theorem segL_len : ∀ n s, (segL n s).1.length ≤ n ∧ ((segL n s).2 = false → (segL n s).1.length = n)
  | 0, _ => by simp [segL]
  | n + 1, s => by
    unfold segL
    split
    · have := segL_len n (Lib.cut s [46]).2.1
      simp only [List.length_cons]
      exact ⟨by omega, fun h => by rw [this.2 h]⟩
    · simp
abbrev es0 : AV := .lit (.string ⟨#[]⟩)
def pad5 (L : List (List UInt8)) : List AV := L.map (fun x => str x) ++ List.replicate (5 - L.length) es0
def segN (r : List (List UInt8) × Bool) : Int := if r.2 then (r.1.length : Nat) else 0
theorem pad5_len {L : List (List UInt8)} (h : L.length ≤ 5) : (pad5 L).length = 5 := by simp [pad5]; omega
theorem pad5_one (L : List (List UInt8)) : (pad5 L).all AV.one = true := by simp [pad5, AV.one]
theorem pad5_nl (L : List (List UInt8)) : (pad5 L).all AV.noLimb = true := by simp [pad5, AV.noLimb, Go.Proofs.YtfchbehmeppckaaGreat.noLimb]
theorem pad5_nil : pad5 [] = [es0, es0, es0, es0, es0] := rfl
theorem pad5_set {L : List (List UInt8)} (h : L.length < 5) (x : List UInt8) : List.take L.length (pad5 L) ++ (str x :: List.drop (L.length + 1) (pad5 L)) = pad5 (L ++ [x]) := by
  unfold pad5
  rw [List.take_left' (by simp), List.drop_append]
  rw [List.drop_of_length_le (by simp), List.length_map, show L.length + 1 - L.length = 1 by omega, List.drop_replicate]
  simp only [List.map_append, List.map_cons, List.map_nil, List.append_assoc, List.nil_append, List.cons_append, List.length_append, List.length_cons, List.length_nil]
  congr 3
set_option maxHeartbeats 1000000 in
theorem segments_c (s : List UInt8) (hs : s.length < 4294967281) : AC 157 [str s] (.tup [.agg (pad5 (segL 5 s).1), i64 (segN (segL 5 s)), boo (segL 5 s).2]) := by
  obtain ⟨R, hR⟩ : ∃ R, R = segL 5 s := ⟨_, rfl⟩
  rw [← hR]
  refine ACalls.of ⟨11, []⟩ (fn := Tryz.f157) Tryz.func157 rfl rfl rfl (by kernel_rfl) (by kernel_rfl) (Nat.le_of_ble_eq_true rfl) ?_
  simp -implicitDefEqProofs only [go_sem, awp_seq, Nat.reduceBNe, Nat.reduceBEq, Nat.reduceAdd, Nat.reduceSub, Nat.reduceMul, Nat.reduceLeDiff, Nat.reduceLT, Nat.reduceEqDiff, Nat.reduceBneDiff, Int.reduceLE, Int.reduceLT, Int.reduceToNat, Int.reduceBEq, Int.reduceBNe, Int.reduceAdd, Int.reduceSub, Int.cast_ofNat_Int]
  refine loop_mk (α := {x : List (List UInt8) × List UInt8 // x.1.length ≤ 5 ∧ x.2.length ≤ s.length ∧ R = (x.1 ++ (segL (5 - x.1.length) x.2).1, (segL (5 - x.1.length) x.2).2)}) (fun x => [(0, some (.av (str x.1.2))), (2, some (.ref 2 0)), (3, some (.av (i64 0))), (4, some (.av (boo false))), (5, some (.ref 5 0)), (10, some (.av (i64 (x.1.1.length : Nat))))]) (fun x => [(2, [es0, es0, es0, es0, es0]), (5, pad5 x.1.1)]) (fun _ => []) (fun x => 5 - x.1.1.length) ⟨([], s), by simp, by simp, by simpa using hR⟩ ?_ ?_
  · simp -implicitDefEqProofs only [pad5_nil, go_sem, awp_seq, Nat.reduceBNe, Nat.reduceBEq, Nat.reduceAdd, Nat.reduceSub, Nat.reduceMul, Nat.reduceLeDiff, Nat.reduceLT, Nat.reduceEqDiff, Nat.reduceBneDiff, Int.reduceLE, Int.reduceLT, Int.reduceToNat, Int.reduceBEq, Int.reduceBNe, Int.reduceAdd, Int.reduceSub, Int.cast_ofNat_Int]
  · rintro ⟨⟨done, rest⟩, h1, h2, h3⟩
    clear hR
    dsimp only at h1 h2 h3
    have n5 := pad5_len h1
    by_cases hlt : done.length < 5
    · have g1 : decide (((done.length : Nat) : Int) < 5) = true := by simp; omega
      have CU := cutDot_c rest (by omega)
      have cl := cut_len rest [46]
      obtain ⟨k, hk⟩ : ∃ k, 5 - done.length = k + 1 := ⟨4 - done.length, by omega⟩
      have w1 : IntKind.i64.wrap (((done.length : Nat) : Int) + 1) = ((done.length + 1 : Nat) : Int) := by rw [IntWalk.i64_in _ (by omega)]; omega
      have n6 : ∀ x, (pad5 (done ++ [x])).length = 5 := fun x => pad5_len (by simp; omega)
      have q1 : done.length + 1 ≤ 5 := by omega
      have n7 : (List.take done.length (pad5 done)).length + (1 + (List.drop (done.length + 1) (pad5 done)).length) = 5 := by rw [List.length_take, List.length_drop, n5]; omega
      cases hf : (Lib.cut rest [46]).2.2 with
      | false =>
        have e : R = (done ++ [(Lib.cut rest [46]).1], true) := by rw [h3]; simp only [hk, segL, hf]; simp
        rw [hf] at CU
        generalize (Lib.cut rest [46]).1 = hd at *
        generalize (Lib.cut rest [46]).2.1 = tl at *
        have t5 : List.take 5 (pad5 (done ++ [hd])) = pad5 (done ++ [hd]) := List.take_of_length_le (by rw [n6]; omega)
        subst e
        simp -implicitDefEqProofs only [mk_bs, g1, go_sem, awp_seq, Nat.reduceBNe, Nat.reduceBEq, Nat.reduceAdd, Nat.reduceSub, Nat.reduceMul, Nat.reduceLeDiff, Nat.reduceLT, Nat.reduceEqDiff, Nat.reduceBneDiff, Int.reduceLE, Int.reduceLT, Int.reduceToNat, Int.reduceBEq, Int.reduceBNe, Int.reduceAdd, Int.reduceSub, Int.cast_ofNat_Int]
        refine callA_mk CU ?_
        simp -implicitDefEqProofs only [mk_bs, g1, n5, n6, n7, t5, hlt, q1, Nat.mul_one, pad5_set hlt, pad5_one, pad5_nl, segN, w1, List.length_append, Int.toNat_natCast, Int.natCast_nonneg, go_sem, awp_seq, Nat.reduceBNe, Nat.reduceBEq, Nat.reduceAdd, Nat.reduceSub, Nat.reduceMul, Nat.reduceLeDiff, Nat.reduceLT, Nat.reduceEqDiff, Nat.reduceBneDiff, Int.reduceLE, Int.reduceLT, Int.reduceToNat, Int.reduceBEq, Int.reduceBNe, Int.reduceAdd, Int.reduceSub, Int.cast_ofNat_Int]
      | true =>
        have e : R = ((done ++ [(Lib.cut rest [46]).1]) ++ (segL k (Lib.cut rest [46]).2.1).1, (segL k (Lib.cut rest [46]).2.1).2) := by rw [h3]; simp only [hk, segL, hf]; simp
        rw [hf] at CU
        generalize (Lib.cut rest [46]).1 = hd at *
        generalize (Lib.cut rest [46]).2.1 = tl at *
        simp -implicitDefEqProofs only [mk_bs, g1, go_sem, awp_seq, Nat.reduceBNe, Nat.reduceBEq, Nat.reduceAdd, Nat.reduceSub, Nat.reduceMul, Nat.reduceLeDiff, Nat.reduceLT, Nat.reduceEqDiff, Nat.reduceBneDiff, Int.reduceLE, Int.reduceLT, Int.reduceToNat, Int.reduceBEq, Int.reduceBNe, Int.reduceAdd, Int.reduceSub, Int.cast_ofNat_Int]
        refine callA_mk CU ?_
        simp -implicitDefEqProofs only [mk_bs, g1, n5, n6, hlt, q1, Nat.mul_one, pad5_set hlt, pad5_one, pad5_nl, w1, Int.toNat_natCast, Int.natCast_nonneg, go_sem, awp_seq, Nat.reduceBNe, Nat.reduceBEq, Nat.reduceAdd, Nat.reduceSub, Nat.reduceMul, Nat.reduceLeDiff, Nat.reduceLT, Nat.reduceEqDiff, Nat.reduceBneDiff, Int.reduceLE, Int.reduceLT, Int.reduceToNat, Int.reduceBEq, Int.reduceBNe, Int.reduceAdd, Int.reduceSub, Int.cast_ofNat_Int]
        refine roundK_mk ⟨(done ++ [hd], tl), by simp; omega, by show tl.length ≤ _; omega, ?_⟩ ?_ (by show 5 - (done ++ [hd]).length < 5 - done.length; simp; omega)
        · rw [e]
          have : 5 - (done ++ [hd]).length = k := by simp; omega
          simp only [this]
        · simp -implicitDefEqProofs only [List.length_append, List.length_cons, List.length_nil, Nat.zero_add, go_sem, awp_seq, Nat.reduceBNe, Nat.reduceBEq, Nat.reduceAdd, Nat.reduceSub, Nat.reduceMul, Nat.reduceLeDiff, Nat.reduceLT, Nat.reduceEqDiff, Nat.reduceBneDiff, Int.reduceLE, Int.reduceLT, Int.reduceToNat, Int.reduceBEq, Int.reduceBNe, Int.reduceAdd, Int.reduceSub, Int.cast_ofNat_Int]
    · have g1 : decide (((done.length : Nat) : Int) < 5) = false := by simp; omega
      have hk : 5 - done.length = 0 := by omega
      have e : R = (done, false) := by rw [h3, hk]; simp [segL]
      have t5 : List.take 5 (pad5 done) = pad5 done := List.take_of_length_le (by rw [n5]; omega)
      subst e
      simp -implicitDefEqProofs only [g1, n5, t5, pad5_one, pad5_nl, segN, go_sem, awp_seq, Nat.reduceBNe, Nat.reduceBEq, Nat.reduceAdd, Nat.reduceSub, Nat.reduceMul, Nat.reduceLeDiff, Nat.reduceLT, Nat.reduceEqDiff, Nat.reduceBneDiff, Int.reduceLE, Int.reduceLT, Int.reduceToNat, Int.reduceBEq, Int.reduceBNe, Int.reduceAdd, Int.reduceSub, Int.cast_ofNat_Int]
def contentB (s : List UInt8) : Bool := !(decide ((24 : Int) < (s.length : Nat))) && ((segL 5 s).2 && (segL 5 s).1.all segB)
end Go.Proofs.YtfchbehmeppckaaGreat

/- Chapter 38: content.Valid; the rule of content. INTS -/
set_option linter.unusedSimpArgs false
set_option linter.unusedVariables false
namespace Go.Proofs.YtfchbehmeppckaaGreat
open Go.RowKit Lim

theorem segL_mem : ∀ n s x, x ∈ (segL n s).1 → x.length ≤ s.length
  | 0, _, x, h => by simp [segL] at h
  | n + 1, s, x, h => by
    have cl := cut_len s [46]
    unfold segL at h
    split at h
    · simp only [List.mem_cons] at h
      rcases h with rfl | h
      · exact cl.1
      · exact Nat.le_trans (segL_mem n _ x h) cl.2
    · simp only [List.mem_cons, List.not_mem_nil, or_false] at h
      subst h
      exact cl.1
theorem chunk_one : ∀ (n : Nat) (cs : List AV), cs.length = n → cs.all AV.one = true → chunk 1 n cs = cs
  | 0, cs, h, _ => by cases cs with | nil => rfl | cons => simp at h
  | n + 1, cs, h, h1 => by
    cases cs with
    | nil => simp at h
    | cons c cs =>
      have : chunk 1 n cs = cs := chunk_one n cs (by simpa using h) (by simp at h1; simpa using h1.2)
      simp only [chunk, List.take_succ_cons, List.take_zero, List.drop_succ_cons, List.drop_zero, mkEl, this]
theorem slice_arr {e : TypeId} {z : List AV} {b : Nat} {k : TV → Prop} (L : List (List UInt8)) (h : L.length ≤ 5) (hk : k (.av (.sl 1 (L.map (fun x => str x))))) : sliceK ⟨.arr 5 e 1, z, b⟩ (.av (.ptr (pad5 L))) none (some (.av (i64 (L.length : Nat)))) k := by
  have n5 := pad5_len h
  have t5 : List.take (5 * 1) (pad5 L) = pad5 L := List.take_of_length_le (by rw [n5]; omega)
  refine ⟨_, ⟨by rw [n5]; omega, by rw [t5]; exact pad5_one L, 0, L.length, ⟨⟨by omega, by omega, by simp⟩, rfl⟩, rfl⟩, ?_⟩
  rw [t5, chunk_one 5 (pad5 L) n5 (pad5_one L), List.drop_zero]
  unfold pad5
  rw [List.take_left' (by simp)]
  exact hk
theorem cvalid_c (s : List UInt8) : AC 156 [str s] (boo (contentB s)) := by
  unfold contentB
  cases c1 : decide ((24 : Int) < (s.length : Nat)) with
  | true =>
    refine ACalls.of ⟨23, [(6, 3)]⟩ (fn := Tryz.f156) Tryz.func156 rfl rfl rfl (by kernel_rfl) (by kernel_rfl) (Nat.le_of_ble_eq_true rfl) ?_
    simp -implicitDefEqProofs only [bs_size, c1, go_sem, awp_seq, Nat.reduceBNe, Nat.reduceBEq, Nat.reduceAdd, Nat.reduceSub, Nat.reduceMul, Nat.reduceLeDiff, Nat.reduceLT, Nat.reduceEqDiff, Nat.reduceBneDiff, Int.reduceLE, Int.reduceLT, Int.reduceToNat, Int.reduceBEq, Int.reduceBNe, Int.reduceAdd, Int.reduceSub, Int.cast_ofNat_Int]
  | false =>
    have hs : s.length ≤ 24 := by simp at c1; omega
    have S := segments_c s (by omega)
    have hm := segL_mem 5 s
    have hl := segL_len 5 s
    generalize segL 5 s = R at *
    obtain ⟨L, ok⟩ := R
    dsimp only at *
    have n5 := pad5_len hl.1
    cases ok with
    | false =>
      refine ACalls.of ⟨23, [(6, 3)]⟩ (fn := Tryz.f156) Tryz.func156 rfl rfl rfl (by kernel_rfl) (by kernel_rfl) (Nat.le_of_ble_eq_true rfl) ?_
      simp -implicitDefEqProofs only [bs_size, c1, go_sem, awp_seq, Nat.reduceBNe, Nat.reduceBEq, Nat.reduceAdd, Nat.reduceSub, Nat.reduceMul, Nat.reduceLeDiff, Nat.reduceLT, Nat.reduceEqDiff, Nat.reduceBneDiff, Int.reduceLE, Int.reduceLT, Int.reduceToNat, Int.reduceBEq, Int.reduceBNe, Int.reduceAdd, Int.reduceSub, Int.cast_ofNat_Int]
      refine callA_mk S ?_
      simp -implicitDefEqProofs only [n5, pad5_one, pad5_nl, go_sem, awp_seq, Nat.reduceBNe, Nat.reduceBEq, Nat.reduceAdd, Nat.reduceSub, Nat.reduceMul, Nat.reduceLeDiff, Nat.reduceLT, Nat.reduceEqDiff, Nat.reduceBneDiff, Int.reduceLE, Int.reduceLT, Int.reduceToNat, Int.reduceBEq, Int.reduceBNe, Int.reduceAdd, Int.reduceSub, Int.cast_ofNat_Int]
    | true =>
      have eN : segN (L, true) = ((L.length : Nat) : Int) := rfl
      rw [eN] at S
      refine ACalls.of ⟨23, [(6, 3)]⟩ (fn := Tryz.f156) Tryz.func156 rfl rfl rfl (by kernel_rfl) (by kernel_rfl) (Nat.le_of_ble_eq_true rfl) ?_
      simp -implicitDefEqProofs only [bs_size, c1, go_sem, awp_seq, Nat.reduceBNe, Nat.reduceBEq, Nat.reduceAdd, Nat.reduceSub, Nat.reduceMul, Nat.reduceLeDiff, Nat.reduceLT, Nat.reduceEqDiff, Nat.reduceBneDiff, Int.reduceLE, Int.reduceLT, Int.reduceToNat, Int.reduceBEq, Int.reduceBNe, Int.reduceAdd, Int.reduceSub, Int.cast_ofNat_Int]
      refine callA_mk S ?_
      simp -implicitDefEqProofs only [n5, pad5_one, pad5_nl, go_sem, awp_seq, Nat.reduceBNe, Nat.reduceBEq, Nat.reduceAdd, Nat.reduceSub, Nat.reduceMul, Nat.reduceLeDiff, Nat.reduceLT, Nat.reduceEqDiff, Nat.reduceBneDiff, Int.reduceLE, Int.reduceLT, Int.reduceToNat, Int.reduceBEq, Int.reduceBNe, Int.reduceAdd, Int.reduceSub, Int.cast_ofNat_Int]
      refine slice_arr L hl.1 ?_
      simp -implicitDefEqProofs only [List.length_map, go_sem, awp_seq, Nat.reduceBNe, Nat.reduceBEq, Nat.reduceAdd, Nat.reduceSub, Nat.reduceMul, Nat.reduceLeDiff, Nat.reduceLT, Nat.reduceEqDiff, Nat.reduceBneDiff, Int.reduceLE, Int.reduceLT, Int.reduceToNat, Int.reduceBEq, Int.reduceBNe, Int.reduceAdd, Int.reduceSub, Int.cast_ofNat_Int]
      refine loop_mk (α := {k : Nat // k ≤ L.length ∧ ∀ i (hi : i < L.length), i < k → segB L[i] = true}) (fun k => [(0, some (.av (str s))), (20, some (.av (.sl 1 (L.map (fun x => str x))))), (21, some (.av (i64 (L.length : Nat)))), (22, some (.av (i64 (k.1 : Nat))))]) (fun _ => []) (fun _ => []) (fun k => L.length - k.1) ⟨0, Nat.zero_le _, fun i _ hi => by omega⟩ ?_ ?_
      · simp -implicitDefEqProofs only [go_sem, awp_seq, Nat.reduceBNe, Nat.reduceBEq, Nat.reduceAdd, Nat.reduceSub, Nat.reduceMul, Nat.reduceLeDiff, Nat.reduceLT, Nat.reduceEqDiff, Nat.reduceBneDiff, Int.reduceLE, Int.reduceLT, Int.reduceToNat, Int.reduceBEq, Int.reduceBNe, Int.reduceAdd, Int.reduceSub, Int.cast_ofNat_Int]
      · rintro ⟨k, hk, hall⟩
        by_cases hlt : k < L.length
        · have g1 : decide (((k : Nat) : Int) < (L.length : Nat)) = true := by simp; omega
          have e1 := map_get (fun x => str x) L hlt
          have w1 : IntKind.i64.wrap ((k : Int) + 1) = ((k + 1 : Nat) : Int) := by rw [IntWalk.i64_in _ (by omega)]; omega
          have V := validSegment_c L[k] (by have := hm _ (List.getElem_mem hlt); omega)
          have ok1 : segB L[k] = true → ∀ i (hi : i < L.length), i < k + 1 → segB L[i] = true := fun h i hi hik => by
            by_cases he : i = k
            · subst he; exact h
            · exact hall i hi (by omega)
          have bad : segB L[k] = false → L.all segB = false := fun h => by rw [List.all_eq_false]; exact ⟨L[k], List.getElem_mem hlt, by simp [h]⟩
          generalize L[k] = x at *
          cases c2 : segB x with
          | false =>
            have e := bad c2
            rw [c2] at V
            simp -implicitDefEqProofs only [g1, e1, Int.toNat_natCast, Int.natCast_nonneg, go_sem, awp_seq, Nat.reduceBNe, Nat.reduceBEq, Nat.reduceAdd, Nat.reduceSub, Nat.reduceMul, Nat.reduceLeDiff, Nat.reduceLT, Nat.reduceEqDiff, Nat.reduceBneDiff, Int.reduceLE, Int.reduceLT, Int.reduceToNat, Int.reduceBEq, Int.reduceBNe, Int.reduceAdd, Int.reduceSub, Int.cast_ofNat_Int]
            refine callA_t V ?_
            simp -implicitDefEqProofs only [e, go_sem, awp_seq, Nat.reduceBNe, Nat.reduceBEq, Nat.reduceAdd, Nat.reduceSub, Nat.reduceMul, Nat.reduceLeDiff, Nat.reduceLT, Nat.reduceEqDiff, Nat.reduceBneDiff, Int.reduceLE, Int.reduceLT, Int.reduceToNat, Int.reduceBEq, Int.reduceBNe, Int.reduceAdd, Int.reduceSub, Int.cast_ofNat_Int]
          | true =>
            rw [c2] at V
            simp -implicitDefEqProofs only [g1, e1, Int.toNat_natCast, Int.natCast_nonneg, go_sem, awp_seq, Nat.reduceBNe, Nat.reduceBEq, Nat.reduceAdd, Nat.reduceSub, Nat.reduceMul, Nat.reduceLeDiff, Nat.reduceLT, Nat.reduceEqDiff, Nat.reduceBneDiff, Int.reduceLE, Int.reduceLT, Int.reduceToNat, Int.reduceBEq, Int.reduceBNe, Int.reduceAdd, Int.reduceSub, Int.cast_ofNat_Int]
            refine callA_t V ?_
            simp -implicitDefEqProofs only [w1, go_sem, awp_seq, Nat.reduceBNe, Nat.reduceBEq, Nat.reduceAdd, Nat.reduceSub, Nat.reduceMul, Nat.reduceLeDiff, Nat.reduceLT, Nat.reduceEqDiff, Nat.reduceBneDiff, Int.reduceLE, Int.reduceLT, Int.reduceToNat, Int.reduceBEq, Int.reduceBNe, Int.reduceAdd, Int.reduceSub, Int.cast_ofNat_Int]
            refine roundK_mk ⟨k + 1, by omega, ok1 c2⟩ ?_ (by show L.length - (k + 1) < L.length - k; omega)
            simp -implicitDefEqProofs only [go_sem, awp_seq, Nat.reduceBNe, Nat.reduceBEq, Nat.reduceAdd, Nat.reduceSub, Nat.reduceMul, Nat.reduceLeDiff, Nat.reduceLT, Nat.reduceEqDiff, Nat.reduceBneDiff, Int.reduceLE, Int.reduceLT, Int.reduceToNat, Int.reduceBEq, Int.reduceBNe, Int.reduceAdd, Int.reduceSub, Int.cast_ofNat_Int]
        · have g1 : decide (((k : Nat) : Int) < (L.length : Nat)) = false := by simp; omega
          have e : L.all segB = true := by
            rw [List.all_eq_true]
            intro x hx
            obtain ⟨i, hi, rfl⟩ := List.getElem_of_mem hx
            exact hall i hi (by omega)
          simp -implicitDefEqProofs only [g1, e, go_sem, awp_seq, Nat.reduceBNe, Nat.reduceBEq, Nat.reduceAdd, Nat.reduceSub, Nat.reduceMul, Nat.reduceLeDiff, Nat.reduceLT, Nat.reduceEqDiff, Nat.reduceBneDiff, Int.reduceLE, Int.reduceLT, Int.reduceToNat, Int.reduceBEq, Int.reduceBNe, Int.reduceAdd, Int.reduceSub, Int.cast_ofNat_Int]
def contE (a b : Int) (s : List UInt8) : Int := if contentB s then boundsE a b else 2
theorem cont_check (a b : Int) (s : List UInt8) (g : AV) (hg : g.one = true) (hn : g.noLimb = true) : AC 154 [.agg [i64 a, i64 b, g, str s]] (i64 (contE a b s)) := by
  have B := bcheck_c a b
  have V := cvalid_c s
  unfold contE
  generalize contentB s = c at *
  cases c with
  | false =>
    refine ACalls.of ⟨3, []⟩ (fn := Tryz.f154) Tryz.func154 rfl rfl rfl (by kernel_rfl) (by kernel_rfl) (Nat.le_of_ble_eq_true rfl) ?_
    simp -implicitDefEqProofs only [hg, hn, go_sem, awp_seq, Nat.reduceBNe, Nat.reduceBEq, Nat.reduceAdd, Nat.reduceSub, Nat.reduceMul, Nat.reduceLeDiff, Nat.reduceLT, Nat.reduceEqDiff, Nat.reduceBneDiff, Int.reduceLE, Int.reduceLT, Int.reduceToNat, Int.reduceBEq, Int.reduceBNe, Int.reduceAdd, Int.reduceSub, Int.cast_ofNat_Int]
    refine callA_mk V ?_
    simp -implicitDefEqProofs only [Bool.false_eq_true, if_false, go_sem, awp_seq, Nat.reduceBNe, Nat.reduceBEq, Nat.reduceAdd, Nat.reduceSub, Nat.reduceMul, Nat.reduceLeDiff, Nat.reduceLT, Nat.reduceEqDiff, Nat.reduceBneDiff, Int.reduceLE, Int.reduceLT, Int.reduceToNat, Int.reduceBEq, Int.reduceBNe, Int.reduceAdd, Int.reduceSub, Int.cast_ofNat_Int]
  | true =>
    refine ACalls.of ⟨3, []⟩ (fn := Tryz.f154) Tryz.func154 rfl rfl rfl (by kernel_rfl) (by kernel_rfl) (Nat.le_of_ble_eq_true rfl) ?_
    simp -implicitDefEqProofs only [hg, hn, go_sem, awp_seq, Nat.reduceBNe, Nat.reduceBEq, Nat.reduceAdd, Nat.reduceSub, Nat.reduceMul, Nat.reduceLeDiff, Nat.reduceLT, Nat.reduceEqDiff, Nat.reduceBneDiff, Int.reduceLE, Int.reduceLT, Int.reduceToNat, Int.reduceBEq, Int.reduceBNe, Int.reduceAdd, Int.reduceSub, Int.cast_ofNat_Int]
    refine callA_mk V ?_
    simp -implicitDefEqProofs only [go_sem, awp_seq, Nat.reduceBNe, Nat.reduceBEq, Nat.reduceAdd, Nat.reduceSub, Nat.reduceMul, Nat.reduceLeDiff, Nat.reduceLT, Nat.reduceEqDiff, Nat.reduceBneDiff, Int.reduceLE, Int.reduceLT, Int.reduceToNat, Int.reduceBEq, Int.reduceBNe, Int.reduceAdd, Int.reduceSub, Int.cast_ofNat_Int]
    refine callA_t B ?_
    simp -implicitDefEqProofs only [if_true, go_sem, awp_seq, Nat.reduceBNe, Nat.reduceBEq, Nat.reduceAdd, Nat.reduceSub, Nat.reduceMul, Nat.reduceLeDiff, Nat.reduceLT, Nat.reduceEqDiff, Nat.reduceBneDiff, Int.reduceLE, Int.reduceLT, Int.reduceToNat, Int.reduceBEq, Int.reduceBNe, Int.reduceAdd, Int.reduceSub, Int.cast_ofNat_Int]
end Go.Proofs.YtfchbehmeppckaaGreat

/- Chapter 38: the demands of rules. INTS -/
set_option linter.unusedSimpArgs false
set_option linter.unusedVariables false
namespace Go.Proofs.YtfchbehmeppckaaGreat
open Go.RowKit Lim

structure RuleV where
  k : Int
  n : Int
  lo : Int
  hi : Int
  code : List UInt8
abbrev ruleC (r : RuleV) : List AV := [i64 r.k, i64 r.n, i64 r.lo, i64 r.hi, str r.code]
abbrev ruleA (r : RuleV) : AV := .agg (ruleC r)
theorem seq_nil (s : List UInt8) : (s == []) = s.isEmpty := by cases s <;> rfl
/-- Whether the kind exists and the members that it does not use are zero. -/
def demOk (r : RuleV) : Bool :=
  if r.k = 1 then (r.n == 0) else
  if r.k = 2 then (r.n == 0) && (r.lo == 0) && r.code.isEmpty else
  if r.k = 3 then (r.n == 0) && (r.lo == 0) && r.code.isEmpty else
  if r.k = 4 then (r.n == 0) && r.code.isEmpty else
  if r.k = 5 then r.code.isEmpty else
  if r.k = 6 then r.code.isEmpty else
  if r.k = 7 then (r.lo == 0) && (r.hi == 0) && r.code.isEmpty else
  if r.k = 8 then (r.lo == 0) && (r.hi == 0) && r.code.isEmpty else
  if r.k = 9 then (r.n == 0) && (r.lo == 0) && (r.hi == 0) && r.code.isEmpty else
  false
set_option maxRecDepth 10000 in
set_option maxHeartbeats 1000000 in
theorem dem1 (r : RuleV) (h : r.k = 1) : AT 42 [ruleA r] (.tup [.ifc 106 (.agg [i64 r.lo, i64 r.hi, .fn (.func 63) [] [.ptr (ruleC r)], str r.code]), boo ((r.n == 0))]) := by
  obtain ⟨k, n, lo, hi, code⟩ := r
  dsimp only at h ⊢
  subst h
  refine ACalls.of ⟨33, [(5, 1), (17, 1)]⟩ (fn := Tryz.f42) Tryz.func42 rfl rfl rfl (by kernel_rfl) (by kernel_rfl) (Nat.le_of_ble_eq_true rfl) ?_
  simp -implicitDefEqProofs only [mk_bs, toList_bs, seq_nil, go_sem, awp_seq, Nat.reduceBNe, Nat.reduceBEq, Nat.reduceAdd, Nat.reduceSub, Nat.reduceMul, Nat.reduceLeDiff, Nat.reduceLT, Nat.reduceEqDiff, Nat.reduceBneDiff, Int.reduceLE, Int.reduceLT, Int.reduceToNat, Int.reduceBEq, Int.reduceBNe, Int.reduceAdd, Int.reduceSub, Int.cast_ofNat_Int]
set_option maxRecDepth 10000 in
set_option maxHeartbeats 1000000 in
theorem dem2 (r : RuleV) (h : r.k = 2) : AT 42 [ruleA r] (.tup [.ifc 108 (.agg [i64 r.lo, i64 r.hi, .fn (.func 66) [] []]), boo ((r.n == 0) && (r.lo == 0) && r.code.isEmpty)]) := by
  obtain ⟨k, n, lo, hi, code⟩ := r
  dsimp only at h ⊢
  subst h
  cases c0 : (n == 0) with
  | false =>
    refine ACalls.of ⟨33, []⟩ (fn := Tryz.f42) Tryz.func42 rfl rfl rfl (by kernel_rfl) (by kernel_rfl) (Nat.le_of_ble_eq_true rfl) ?_
    simp -implicitDefEqProofs only [c0, mk_bs, toList_bs, seq_nil, go_sem, awp_seq, Nat.reduceBNe, Nat.reduceBEq, Nat.reduceAdd, Nat.reduceSub, Nat.reduceMul, Nat.reduceLeDiff, Nat.reduceLT, Nat.reduceEqDiff, Nat.reduceBneDiff, Int.reduceLE, Int.reduceLT, Int.reduceToNat, Int.reduceBEq, Int.reduceBNe, Int.reduceAdd, Int.reduceSub, Int.cast_ofNat_Int]
  | true =>
    cases c1 : (lo == 0) with
    | false =>
      refine ACalls.of ⟨33, []⟩ (fn := Tryz.f42) Tryz.func42 rfl rfl rfl (by kernel_rfl) (by kernel_rfl) (Nat.le_of_ble_eq_true rfl) ?_
      simp -implicitDefEqProofs only [c0, c1, mk_bs, toList_bs, seq_nil, go_sem, awp_seq, Nat.reduceBNe, Nat.reduceBEq, Nat.reduceAdd, Nat.reduceSub, Nat.reduceMul, Nat.reduceLeDiff, Nat.reduceLT, Nat.reduceEqDiff, Nat.reduceBneDiff, Int.reduceLE, Int.reduceLT, Int.reduceToNat, Int.reduceBEq, Int.reduceBNe, Int.reduceAdd, Int.reduceSub, Int.cast_ofNat_Int]
    | true =>
      refine ACalls.of ⟨33, []⟩ (fn := Tryz.f42) Tryz.func42 rfl rfl rfl (by kernel_rfl) (by kernel_rfl) (Nat.le_of_ble_eq_true rfl) ?_
      simp -implicitDefEqProofs only [c0, c1, mk_bs, toList_bs, seq_nil, go_sem, awp_seq, Nat.reduceBNe, Nat.reduceBEq, Nat.reduceAdd, Nat.reduceSub, Nat.reduceMul, Nat.reduceLeDiff, Nat.reduceLT, Nat.reduceEqDiff, Nat.reduceBneDiff, Int.reduceLE, Int.reduceLT, Int.reduceToNat, Int.reduceBEq, Int.reduceBNe, Int.reduceAdd, Int.reduceSub, Int.cast_ofNat_Int]
set_option maxRecDepth 10000 in
set_option maxHeartbeats 1000000 in
theorem dem3 (r : RuleV) (h : r.k = 3) : AT 42 [ruleA r] (.tup [.ifc 109 (.agg [i64 r.lo, i64 r.hi, .fn (.func 67) [] []]), boo ((r.n == 0) && (r.lo == 0) && r.code.isEmpty)]) := by
  obtain ⟨k, n, lo, hi, code⟩ := r
  dsimp only at h ⊢
  subst h
  cases c0 : (n == 0) with
  | false =>
    refine ACalls.of ⟨33, []⟩ (fn := Tryz.f42) Tryz.func42 rfl rfl rfl (by kernel_rfl) (by kernel_rfl) (Nat.le_of_ble_eq_true rfl) ?_
    simp -implicitDefEqProofs only [c0, mk_bs, toList_bs, seq_nil, go_sem, awp_seq, Nat.reduceBNe, Nat.reduceBEq, Nat.reduceAdd, Nat.reduceSub, Nat.reduceMul, Nat.reduceLeDiff, Nat.reduceLT, Nat.reduceEqDiff, Nat.reduceBneDiff, Int.reduceLE, Int.reduceLT, Int.reduceToNat, Int.reduceBEq, Int.reduceBNe, Int.reduceAdd, Int.reduceSub, Int.cast_ofNat_Int]
  | true =>
    cases c1 : (lo == 0) with
    | false =>
      refine ACalls.of ⟨33, []⟩ (fn := Tryz.f42) Tryz.func42 rfl rfl rfl (by kernel_rfl) (by kernel_rfl) (Nat.le_of_ble_eq_true rfl) ?_
      simp -implicitDefEqProofs only [c0, c1, mk_bs, toList_bs, seq_nil, go_sem, awp_seq, Nat.reduceBNe, Nat.reduceBEq, Nat.reduceAdd, Nat.reduceSub, Nat.reduceMul, Nat.reduceLeDiff, Nat.reduceLT, Nat.reduceEqDiff, Nat.reduceBneDiff, Int.reduceLE, Int.reduceLT, Int.reduceToNat, Int.reduceBEq, Int.reduceBNe, Int.reduceAdd, Int.reduceSub, Int.cast_ofNat_Int]
    | true =>
      refine ACalls.of ⟨33, []⟩ (fn := Tryz.f42) Tryz.func42 rfl rfl rfl (by kernel_rfl) (by kernel_rfl) (Nat.le_of_ble_eq_true rfl) ?_
      simp -implicitDefEqProofs only [c0, c1, mk_bs, toList_bs, seq_nil, go_sem, awp_seq, Nat.reduceBNe, Nat.reduceBEq, Nat.reduceAdd, Nat.reduceSub, Nat.reduceMul, Nat.reduceLeDiff, Nat.reduceLT, Nat.reduceEqDiff, Nat.reduceBneDiff, Int.reduceLE, Int.reduceLT, Int.reduceToNat, Int.reduceBEq, Int.reduceBNe, Int.reduceAdd, Int.reduceSub, Int.cast_ofNat_Int]
set_option maxRecDepth 10000 in
set_option maxHeartbeats 1000000 in
theorem dem4 (r : RuleV) (h : r.k = 4) : AT 42 [ruleA r] (.tup [.ifc 110 (.agg [i64 r.lo, i64 r.hi, .fn (.func 68) [] []]), boo ((r.n == 0) && r.code.isEmpty)]) := by
  obtain ⟨k, n, lo, hi, code⟩ := r
  dsimp only at h ⊢
  subst h
  cases c0 : (n == 0) with
  | false =>
    refine ACalls.of ⟨33, []⟩ (fn := Tryz.f42) Tryz.func42 rfl rfl rfl (by kernel_rfl) (by kernel_rfl) (Nat.le_of_ble_eq_true rfl) ?_
    simp -implicitDefEqProofs only [c0, mk_bs, toList_bs, seq_nil, go_sem, awp_seq, Nat.reduceBNe, Nat.reduceBEq, Nat.reduceAdd, Nat.reduceSub, Nat.reduceMul, Nat.reduceLeDiff, Nat.reduceLT, Nat.reduceEqDiff, Nat.reduceBneDiff, Int.reduceLE, Int.reduceLT, Int.reduceToNat, Int.reduceBEq, Int.reduceBNe, Int.reduceAdd, Int.reduceSub, Int.cast_ofNat_Int]
  | true =>
    refine ACalls.of ⟨33, []⟩ (fn := Tryz.f42) Tryz.func42 rfl rfl rfl (by kernel_rfl) (by kernel_rfl) (Nat.le_of_ble_eq_true rfl) ?_
    simp -implicitDefEqProofs only [c0, mk_bs, toList_bs, seq_nil, go_sem, awp_seq, Nat.reduceBNe, Nat.reduceBEq, Nat.reduceAdd, Nat.reduceSub, Nat.reduceMul, Nat.reduceLeDiff, Nat.reduceLT, Nat.reduceEqDiff, Nat.reduceBneDiff, Int.reduceLE, Int.reduceLT, Int.reduceToNat, Int.reduceBEq, Int.reduceBNe, Int.reduceAdd, Int.reduceSub, Int.cast_ofNat_Int]
set_option maxRecDepth 10000 in
set_option maxHeartbeats 1000000 in
theorem dem5 (r : RuleV) (h : r.k = 5) : AT 42 [ruleA r] (.tup [.ifc 112 (.agg [i64 r.lo, i64 r.hi, .fn (.func 69) [] [.ptr (ruleC r)], i64 r.n]), boo (r.code.isEmpty)]) := by
  obtain ⟨k, n, lo, hi, code⟩ := r
  dsimp only at h ⊢
  subst h
  refine ACalls.of ⟨33, [(5, 1), (17, 1)]⟩ (fn := Tryz.f42) Tryz.func42 rfl rfl rfl (by kernel_rfl) (by kernel_rfl) (Nat.le_of_ble_eq_true rfl) ?_
  simp -implicitDefEqProofs only [mk_bs, toList_bs, seq_nil, go_sem, awp_seq, Nat.reduceBNe, Nat.reduceBEq, Nat.reduceAdd, Nat.reduceSub, Nat.reduceMul, Nat.reduceLeDiff, Nat.reduceLT, Nat.reduceEqDiff, Nat.reduceBneDiff, Int.reduceLE, Int.reduceLT, Int.reduceToNat, Int.reduceBEq, Int.reduceBNe, Int.reduceAdd, Int.reduceSub, Int.cast_ofNat_Int]
set_option maxRecDepth 10000 in
set_option maxHeartbeats 1000000 in
theorem dem6 (r : RuleV) (h : r.k = 6) : AT 42 [ruleA r] (.tup [.ifc 114 (.agg [i64 r.lo, i64 r.hi, i64 r.n]), boo (r.code.isEmpty)]) := by
  obtain ⟨k, n, lo, hi, code⟩ := r
  dsimp only at h ⊢
  subst h
  refine ACalls.of ⟨33, []⟩ (fn := Tryz.f42) Tryz.func42 rfl rfl rfl (by kernel_rfl) (by kernel_rfl) (Nat.le_of_ble_eq_true rfl) ?_
  simp -implicitDefEqProofs only [mk_bs, toList_bs, seq_nil, go_sem, awp_seq, Nat.reduceBNe, Nat.reduceBEq, Nat.reduceAdd, Nat.reduceSub, Nat.reduceMul, Nat.reduceLeDiff, Nat.reduceLT, Nat.reduceEqDiff, Nat.reduceBneDiff, Int.reduceLE, Int.reduceLT, Int.reduceToNat, Int.reduceBEq, Int.reduceBNe, Int.reduceAdd, Int.reduceSub, Int.cast_ofNat_Int]
set_option maxRecDepth 10000 in
set_option maxHeartbeats 1000000 in
theorem dem7 (r : RuleV) (h : r.k = 7) : AT 42 [ruleA r] (.tup [.ifc 116 (.agg [i64 r.n]), boo ((r.lo == 0) && (r.hi == 0) && r.code.isEmpty)]) := by
  obtain ⟨k, n, lo, hi, code⟩ := r
  dsimp only at h ⊢
  subst h
  cases c0 : (lo == 0) with
  | false =>
    refine ACalls.of ⟨33, []⟩ (fn := Tryz.f42) Tryz.func42 rfl rfl rfl (by kernel_rfl) (by kernel_rfl) (Nat.le_of_ble_eq_true rfl) ?_
    simp -implicitDefEqProofs only [c0, mk_bs, toList_bs, seq_nil, go_sem, awp_seq, Nat.reduceBNe, Nat.reduceBEq, Nat.reduceAdd, Nat.reduceSub, Nat.reduceMul, Nat.reduceLeDiff, Nat.reduceLT, Nat.reduceEqDiff, Nat.reduceBneDiff, Int.reduceLE, Int.reduceLT, Int.reduceToNat, Int.reduceBEq, Int.reduceBNe, Int.reduceAdd, Int.reduceSub, Int.cast_ofNat_Int]
  | true =>
    cases c1 : (hi == 0) with
    | false =>
      refine ACalls.of ⟨33, []⟩ (fn := Tryz.f42) Tryz.func42 rfl rfl rfl (by kernel_rfl) (by kernel_rfl) (Nat.le_of_ble_eq_true rfl) ?_
      simp -implicitDefEqProofs only [c0, c1, mk_bs, toList_bs, seq_nil, go_sem, awp_seq, Nat.reduceBNe, Nat.reduceBEq, Nat.reduceAdd, Nat.reduceSub, Nat.reduceMul, Nat.reduceLeDiff, Nat.reduceLT, Nat.reduceEqDiff, Nat.reduceBneDiff, Int.reduceLE, Int.reduceLT, Int.reduceToNat, Int.reduceBEq, Int.reduceBNe, Int.reduceAdd, Int.reduceSub, Int.cast_ofNat_Int]
    | true =>
      refine ACalls.of ⟨33, []⟩ (fn := Tryz.f42) Tryz.func42 rfl rfl rfl (by kernel_rfl) (by kernel_rfl) (Nat.le_of_ble_eq_true rfl) ?_
      simp -implicitDefEqProofs only [c0, c1, mk_bs, toList_bs, seq_nil, go_sem, awp_seq, Nat.reduceBNe, Nat.reduceBEq, Nat.reduceAdd, Nat.reduceSub, Nat.reduceMul, Nat.reduceLeDiff, Nat.reduceLT, Nat.reduceEqDiff, Nat.reduceBneDiff, Int.reduceLE, Int.reduceLT, Int.reduceToNat, Int.reduceBEq, Int.reduceBNe, Int.reduceAdd, Int.reduceSub, Int.cast_ofNat_Int]
set_option maxRecDepth 10000 in
set_option maxHeartbeats 1000000 in
theorem dem8 (r : RuleV) (h : r.k = 8) : AT 42 [ruleA r] (.tup [.ifc 117 (.agg [i64 r.n]), boo ((r.lo == 0) && (r.hi == 0) && r.code.isEmpty)]) := by
  obtain ⟨k, n, lo, hi, code⟩ := r
  dsimp only at h ⊢
  subst h
  cases c0 : (lo == 0) with
  | false =>
    refine ACalls.of ⟨33, []⟩ (fn := Tryz.f42) Tryz.func42 rfl rfl rfl (by kernel_rfl) (by kernel_rfl) (Nat.le_of_ble_eq_true rfl) ?_
    simp -implicitDefEqProofs only [c0, mk_bs, toList_bs, seq_nil, go_sem, awp_seq, Nat.reduceBNe, Nat.reduceBEq, Nat.reduceAdd, Nat.reduceSub, Nat.reduceMul, Nat.reduceLeDiff, Nat.reduceLT, Nat.reduceEqDiff, Nat.reduceBneDiff, Int.reduceLE, Int.reduceLT, Int.reduceToNat, Int.reduceBEq, Int.reduceBNe, Int.reduceAdd, Int.reduceSub, Int.cast_ofNat_Int]
  | true =>
    cases c1 : (hi == 0) with
    | false =>
      refine ACalls.of ⟨33, []⟩ (fn := Tryz.f42) Tryz.func42 rfl rfl rfl (by kernel_rfl) (by kernel_rfl) (Nat.le_of_ble_eq_true rfl) ?_
      simp -implicitDefEqProofs only [c0, c1, mk_bs, toList_bs, seq_nil, go_sem, awp_seq, Nat.reduceBNe, Nat.reduceBEq, Nat.reduceAdd, Nat.reduceSub, Nat.reduceMul, Nat.reduceLeDiff, Nat.reduceLT, Nat.reduceEqDiff, Nat.reduceBneDiff, Int.reduceLE, Int.reduceLT, Int.reduceToNat, Int.reduceBEq, Int.reduceBNe, Int.reduceAdd, Int.reduceSub, Int.cast_ofNat_Int]
    | true =>
      refine ACalls.of ⟨33, []⟩ (fn := Tryz.f42) Tryz.func42 rfl rfl rfl (by kernel_rfl) (by kernel_rfl) (Nat.le_of_ble_eq_true rfl) ?_
      simp -implicitDefEqProofs only [c0, c1, mk_bs, toList_bs, seq_nil, go_sem, awp_seq, Nat.reduceBNe, Nat.reduceBEq, Nat.reduceAdd, Nat.reduceSub, Nat.reduceMul, Nat.reduceLeDiff, Nat.reduceLT, Nat.reduceEqDiff, Nat.reduceBneDiff, Int.reduceLE, Int.reduceLT, Int.reduceToNat, Int.reduceBEq, Int.reduceBNe, Int.reduceAdd, Int.reduceSub, Int.cast_ofNat_Int]
set_option maxRecDepth 10000 in
set_option maxHeartbeats 1000000 in
theorem dem9 (r : RuleV) (h : r.k = 9) : AT 42 [ruleA r] (.tup [.ifc 119 (.agg []), boo ((r.n == 0) && (r.lo == 0) && (r.hi == 0) && r.code.isEmpty)]) := by
  obtain ⟨k, n, lo, hi, code⟩ := r
  dsimp only at h ⊢
  subst h
  cases c0 : (n == 0) with
  | false =>
    refine ACalls.of ⟨33, []⟩ (fn := Tryz.f42) Tryz.func42 rfl rfl rfl (by kernel_rfl) (by kernel_rfl) (Nat.le_of_ble_eq_true rfl) ?_
    simp -implicitDefEqProofs only [c0, mk_bs, toList_bs, seq_nil, go_sem, awp_seq, Nat.reduceBNe, Nat.reduceBEq, Nat.reduceAdd, Nat.reduceSub, Nat.reduceMul, Nat.reduceLeDiff, Nat.reduceLT, Nat.reduceEqDiff, Nat.reduceBneDiff, Int.reduceLE, Int.reduceLT, Int.reduceToNat, Int.reduceBEq, Int.reduceBNe, Int.reduceAdd, Int.reduceSub, Int.cast_ofNat_Int]
  | true =>
    cases c1 : (lo == 0) with
    | false =>
      refine ACalls.of ⟨33, []⟩ (fn := Tryz.f42) Tryz.func42 rfl rfl rfl (by kernel_rfl) (by kernel_rfl) (Nat.le_of_ble_eq_true rfl) ?_
      simp -implicitDefEqProofs only [c0, c1, mk_bs, toList_bs, seq_nil, go_sem, awp_seq, Nat.reduceBNe, Nat.reduceBEq, Nat.reduceAdd, Nat.reduceSub, Nat.reduceMul, Nat.reduceLeDiff, Nat.reduceLT, Nat.reduceEqDiff, Nat.reduceBneDiff, Int.reduceLE, Int.reduceLT, Int.reduceToNat, Int.reduceBEq, Int.reduceBNe, Int.reduceAdd, Int.reduceSub, Int.cast_ofNat_Int]
    | true =>
      cases c2 : (hi == 0) with
      | false =>
        refine ACalls.of ⟨33, []⟩ (fn := Tryz.f42) Tryz.func42 rfl rfl rfl (by kernel_rfl) (by kernel_rfl) (Nat.le_of_ble_eq_true rfl) ?_
        simp -implicitDefEqProofs only [c0, c1, c2, mk_bs, toList_bs, seq_nil, go_sem, awp_seq, Nat.reduceBNe, Nat.reduceBEq, Nat.reduceAdd, Nat.reduceSub, Nat.reduceMul, Nat.reduceLeDiff, Nat.reduceLT, Nat.reduceEqDiff, Nat.reduceBneDiff, Int.reduceLE, Int.reduceLT, Int.reduceToNat, Int.reduceBEq, Int.reduceBNe, Int.reduceAdd, Int.reduceSub, Int.cast_ofNat_Int]
      | true =>
        refine ACalls.of ⟨33, []⟩ (fn := Tryz.f42) Tryz.func42 rfl rfl rfl (by kernel_rfl) (by kernel_rfl) (Nat.le_of_ble_eq_true rfl) ?_
        simp -implicitDefEqProofs only [c0, c1, c2, mk_bs, toList_bs, seq_nil, go_sem, awp_seq, Nat.reduceBNe, Nat.reduceBEq, Nat.reduceAdd, Nat.reduceSub, Nat.reduceMul, Nat.reduceLeDiff, Nat.reduceLT, Nat.reduceEqDiff, Nat.reduceBneDiff, Int.reduceLE, Int.reduceLT, Int.reduceToNat, Int.reduceBEq, Int.reduceBNe, Int.reduceAdd, Int.reduceSub, Int.cast_ofNat_Int]
set_option maxRecDepth 10000 in
set_option maxHeartbeats 1000000 in
theorem demNone (r : RuleV) (h : r.k < 1 ∨ 9 < r.k) : AT 42 [ruleA r] (.tup [.lit .nilIface, boo false]) := by
  obtain ⟨k, n, lo, hi, code⟩ := r
  dsimp only at h ⊢
  have h1 : (k == 1) = false := by rw [beq_eq_false_iff_ne]; omega
  have h2 : (k == 2) = false := by rw [beq_eq_false_iff_ne]; omega
  have h3 : (k == 3) = false := by rw [beq_eq_false_iff_ne]; omega
  have h4 : (k == 4) = false := by rw [beq_eq_false_iff_ne]; omega
  have h5 : (k == 5) = false := by rw [beq_eq_false_iff_ne]; omega
  have h6 : (k == 6) = false := by rw [beq_eq_false_iff_ne]; omega
  have h7 : (k == 7) = false := by rw [beq_eq_false_iff_ne]; omega
  have h8 : (k == 8) = false := by rw [beq_eq_false_iff_ne]; omega
  have h9 : (k == 9) = false := by rw [beq_eq_false_iff_ne]; omega
  refine ACalls.of ⟨33, []⟩ (fn := Tryz.f42) Tryz.func42 rfl rfl rfl (by kernel_rfl) (by kernel_rfl) (Nat.le_of_ble_eq_true rfl) ?_
  simp -implicitDefEqProofs only [h1, h2, h3, h4, h5, h6, h7, h8, h9, mk_bs, toList_bs, seq_nil, go_sem, awp_seq, Nat.reduceBNe, Nat.reduceBEq, Nat.reduceAdd, Nat.reduceSub, Nat.reduceMul, Nat.reduceLeDiff, Nat.reduceLT, Nat.reduceEqDiff, Nat.reduceBneDiff, Int.reduceLE, Int.reduceLT, Int.reduceToNat, Int.reduceBEq, Int.reduceBNe, Int.reduceAdd, Int.reduceSub, Int.cast_ofNat_Int]
end Go.Proofs.YtfchbehmeppckaaGreat

/- Chapter 38: the first error of a specification. INTS -/
set_option linter.unusedSimpArgs false
set_option linter.unusedVariables false
namespace Go.Proofs.YtfchbehmeppckaaGreat
open Go.RowKit Lim

abbrev chk : String := "examboard/blueprint.check"
section
variable {a b c d : AV}
theorem meth_content : Meth Tryz.prog 106 chk (.agg [a, b, c, d]) 154 (.agg [a, b, c, d]) := fun w Z v h => ⟨v, by kernel_rfl, h⟩
theorem meth_key : Meth Tryz.prog 112 chk (.agg [a, b, c, d]) 171 (.agg [a, b, c, d]) := fun w Z v h => ⟨v, by kernel_rfl, h⟩
theorem meth_set : Meth Tryz.prog 114 chk (.agg [a, b, c]) 174 (.agg [a, b, c]) := fun w Z v h => ⟨v, by kernel_rfl, h⟩
theorem meth_inc : Meth Tryz.prog 116 chk (.agg [a]) 180 (.agg [a]) := fun w Z v h => ⟨v, by kernel_rfl, h⟩
theorem meth_exc : Meth Tryz.prog 117 chk (.agg [a]) 185 (.agg [a]) := fun w Z v h => ⟨v, by kernel_rfl, h⟩
theorem meth_fam : Meth Tryz.prog 119 chk (.agg []) 190 (.agg []) := fun w Z v h => ⟨v, by kernel_rfl, h⟩
theorem agg3 {w : World} {Z : Zone} {v : Value} (h : Rep w Z (.agg [a, b, c]) v) : ∃ x y z, v = .agg #[x, y, z] ∧ Rep w Z a x ∧ Rep w Z b y ∧ Rep w Z c z := by
  cases h with
  | agg hl hr =>
    obtain ⟨x, y, z, rfl, h1, h2, h3⟩ := reps3 (.agg hl hr)
    exact ⟨x, y, z, rfl, h1, h2, h3⟩
theorem meth_words : Meth Tryz.prog 108 chk (.agg [a, b, c]) 150 (.agg [a, b]) := fun w Z v h => by
  obtain ⟨x, y, z, rfl, h1, h2, h3⟩ := agg3 h
  exact ⟨.agg #[x, y], by kernel_rfl, rep2 h1 h2⟩
theorem meth_seconds : Meth Tryz.prog 109 chk (.agg [a, b, c]) 150 (.agg [a, b]) := fun w Z v h => by
  obtain ⟨x, y, z, rfl, h1, h2, h3⟩ := agg3 h
  exact ⟨.agg #[x, y], by kernel_rfl, rep2 h1 h2⟩
theorem meth_points : Meth Tryz.prog 110 chk (.agg [a, b, c]) 150 (.agg [a, b]) := fun w Z v h => by
  obtain ⟨x, y, z, rfl, h1, h2, h3⟩ := agg3 h
  exact ⟨.agg #[x, y], by kernel_rfl, rep2 h1 h2⟩
end
/-- What the check of a rule returns, if the members that it does not use are zero. -/
def chkE (r : RuleV) : Int :=
  if r.k = 1 then contE r.lo r.hi r.code else
  if r.k = 5 then keyE r.lo r.hi r.n else
  if r.k = 6 then setE r.lo r.hi r.n else
  if r.k = 7 then (if numB r.n then 0 else 3) else
  if r.k = 8 then (if numB r.n then 0 else 3) else
  if r.k = 9 then 0 else boundsE r.lo r.hi
def ruleE (r : RuleV) : Int := if demOk r then chkE r else 1
theorem demand_c (r : RuleV) : ∃ d, AT 42 [ruleA r] (.tup [d, boo (demOk r)]) ∧ (demOk r = true → ∃ t a f a', d = .ifc t a ∧ Meth Tryz.prog t chk a f a' ∧ AC f [a'] (i64 (chkE r))) := by
  by_cases h0 : r.k < 1 ∨ 9 < r.k
  · have e : demOk r = false := by unfold demOk; repeat rw [if_neg (by omega)]
    rw [e]
    exact ⟨_, demNone r h0, fun h => by cases h⟩
  have h : r.k = 1 ∨ r.k = 2 ∨ r.k = 3 ∨ r.k = 4 ∨ r.k = 5 ∨ r.k = 6 ∨ r.k = 7 ∨ r.k = 8 ∨ r.k = 9 := by omega
  rcases h with h | h | h | h | h | h | h | h | h
  · have e : chkE r = contE r.lo r.hi r.code := by unfold chkE; rw [if_pos h]
    have D := dem1 r h
    have e2 : demOk r = (r.n == 0) := by unfold demOk; rw [if_pos h]
    rw [e, e2]
    exact ⟨_, D, fun _ => ⟨_, _, _, _, rfl, meth_content, cont_check _ _ _ _ rfl rfl⟩⟩
  · have e : chkE r = boundsE r.lo r.hi := by unfold chkE; repeat first | rw [if_pos h] | rw [if_neg (by omega)]
    have D := dem2 r h
    have e2 : demOk r = ((r.n == 0) && (r.lo == 0) && r.code.isEmpty) := by unfold demOk; repeat first | rw [if_pos h] | rw [if_neg (by omega)]
    rw [e, e2]
    exact ⟨_, D, fun _ => ⟨_, _, _, _, rfl, meth_words, (bcheck_c _ _).ofT⟩⟩
  · have e : chkE r = boundsE r.lo r.hi := by unfold chkE; repeat first | rw [if_pos h] | rw [if_neg (by omega)]
    have D := dem3 r h
    have e2 : demOk r = ((r.n == 0) && (r.lo == 0) && r.code.isEmpty) := by unfold demOk; repeat first | rw [if_pos h] | rw [if_neg (by omega)]
    rw [e, e2]
    exact ⟨_, D, fun _ => ⟨_, _, _, _, rfl, meth_seconds, (bcheck_c _ _).ofT⟩⟩
  · have e : chkE r = boundsE r.lo r.hi := by unfold chkE; repeat first | rw [if_pos h] | rw [if_neg (by omega)]
    have D := dem4 r h
    have e2 : demOk r = ((r.n == 0) && r.code.isEmpty) := by unfold demOk; repeat first | rw [if_pos h] | rw [if_neg (by omega)]
    rw [e, e2]
    exact ⟨_, D, fun _ => ⟨_, _, _, _, rfl, meth_points, (bcheck_c _ _).ofT⟩⟩
  · have e : chkE r = keyE r.lo r.hi r.n := by unfold chkE; repeat first | rw [if_pos h] | rw [if_neg (by omega)]
    have D := dem5 r h
    have e2 : demOk r = (r.code.isEmpty) := by unfold demOk; repeat first | rw [if_pos h] | rw [if_neg (by omega)]
    rw [e, e2]
    exact ⟨_, D, fun _ => ⟨_, _, _, _, rfl, meth_key, (key_check _ _ _ _ rfl rfl).ofT⟩⟩
  · have e : chkE r = setE r.lo r.hi r.n := by unfold chkE; repeat first | rw [if_pos h] | rw [if_neg (by omega)]
    have D := dem6 r h
    have e2 : demOk r = (r.code.isEmpty) := by unfold demOk; repeat first | rw [if_pos h] | rw [if_neg (by omega)]
    rw [e, e2]
    exact ⟨_, D, fun _ => ⟨_, _, _, _, rfl, meth_set, (set_check _ _ _).ofT⟩⟩
  · have e : chkE r = (if numB r.n then 0 else 3) := by unfold chkE; repeat first | rw [if_pos h] | rw [if_neg (by omega)]
    have D := dem7 r h
    have e2 : demOk r = ((r.lo == 0) && (r.hi == 0) && r.code.isEmpty) := by unfold demOk; repeat first | rw [if_pos h] | rw [if_neg (by omega)]
    rw [e, e2]
    exact ⟨_, D, fun _ => ⟨_, _, _, _, rfl, meth_inc, (inc_check _).ofT⟩⟩
  · have e : chkE r = (if numB r.n then 0 else 3) := by unfold chkE; repeat first | rw [if_pos h] | rw [if_neg (by omega)]
    have D := dem8 r h
    have e2 : demOk r = ((r.lo == 0) && (r.hi == 0) && r.code.isEmpty) := by unfold demOk; repeat first | rw [if_pos h] | rw [if_neg (by omega)]
    rw [e, e2]
    exact ⟨_, D, fun _ => ⟨_, _, _, _, rfl, meth_exc, (exc_check _).ofT⟩⟩
  · have e : chkE r = 0 := by unfold chkE; repeat first | rw [if_pos h] | rw [if_neg (by omega)]
    have D := dem9 r h
    have e2 : demOk r = ((r.n == 0) && (r.lo == 0) && (r.hi == 0) && r.code.isEmpty) := by unfold demOk; repeat first | rw [if_pos h] | rw [if_neg (by omega)]
    rw [e, e2]
    exact ⟨_, D, fun _ => ⟨_, _, _, _, rfl, meth_fam, fam_check.ofT⟩⟩
end Go.Proofs.YtfchbehmeppckaaGreat

/- Chapter 38: blueprint.Valid. INTS -/
set_option linter.unusedSimpArgs false
set_option linter.unusedVariables false
namespace Go.Proofs.YtfchbehmeppckaaGreat
open Go.RowKit Lim

def rulesE : List RuleV → Int
  | [] => 0
  | r :: rs => if ruleE r ≠ 0 then ruleE r else rulesE rs
abbrev rulesA (rs : List RuleV) : AV := .sl 5 (rs.map ruleA)
def specE (n : Int) (rs : List RuleV) : Int := if decide (n < 1) || decide (18 < n) then 3 else if 20 < rs.length then 5 else rulesE rs
theorem chk_ok {r : RuleV} (h : demOk r = true) : ruleE r = chkE r := by unfold ruleE; rw [if_pos h]
theorem chk_no {r : RuleV} (h : demOk r = false) : ruleE r = 1 := by unfold ruleE; rw [if_neg (by simp [h])]
set_option maxHeartbeats 1000000 in
theorem bvalid_c (n : Int) (rs : List RuleV) : AC 21 [.agg [i64 n, rulesA rs]] (i64 (specE n rs)) := by
  unfold specE
  cases c1 : decide (n < 1) with
  | true =>
    refine ACalls.of ⟨24, []⟩ (fn := Tryz.f21) Tryz.func21 rfl rfl rfl (by kernel_rfl) (by kernel_rfl) (Nat.le_of_ble_eq_true rfl) ?_
    simp -implicitDefEqProofs only [c1, Bool.true_or, if_true, go_sem, awp_seq, Nat.reduceBNe, Nat.reduceBEq, Nat.reduceAdd, Nat.reduceSub, Nat.reduceMul, Nat.reduceLeDiff, Nat.reduceLT, Nat.reduceEqDiff, Nat.reduceBneDiff, Int.reduceLE, Int.reduceLT, Int.reduceToNat, Int.reduceBEq, Int.reduceBNe, Int.reduceAdd, Int.reduceSub, Int.cast_ofNat_Int]
  | false =>
  cases c2 : decide (18 < n) with
  | true =>
    refine ACalls.of ⟨24, []⟩ (fn := Tryz.f21) Tryz.func21 rfl rfl rfl (by kernel_rfl) (by kernel_rfl) (Nat.le_of_ble_eq_true rfl) ?_
    simp -implicitDefEqProofs only [c1, c2, Bool.false_or, if_true, go_sem, awp_seq, Nat.reduceBNe, Nat.reduceBEq, Nat.reduceAdd, Nat.reduceSub, Nat.reduceMul, Nat.reduceLeDiff, Nat.reduceLT, Nat.reduceEqDiff, Nat.reduceBneDiff, Int.reduceLE, Int.reduceLT, Int.reduceToNat, Int.reduceBEq, Int.reduceBNe, Int.reduceAdd, Int.reduceSub, Int.cast_ofNat_Int]
  | false =>
  rw [if_neg (by simp)]
  by_cases h3 : 20 < rs.length
  · have g3 : decide ((20 : Int) < (rs.length : Nat)) = true := by simp; omega
    rw [if_pos h3]
    refine ACalls.of ⟨24, []⟩ (fn := Tryz.f21) Tryz.func21 rfl rfl rfl (by kernel_rfl) (by kernel_rfl) (Nat.le_of_ble_eq_true rfl) ?_
    simp -implicitDefEqProofs only [c1, c2, g3, List.length_map, go_sem, awp_seq, Nat.reduceBNe, Nat.reduceBEq, Nat.reduceAdd, Nat.reduceSub, Nat.reduceMul, Nat.reduceLeDiff, Nat.reduceLT, Nat.reduceEqDiff, Nat.reduceBneDiff, Int.reduceLE, Int.reduceLT, Int.reduceToNat, Int.reduceBEq, Int.reduceBNe, Int.reduceAdd, Int.reduceSub, Int.cast_ofNat_Int]
  have g3 : decide ((20 : Int) < (rs.length : Nat)) = false := by simp; omega
  rw [if_neg h3]
  obtain ⟨R, hR⟩ : ∃ R, R = rulesE rs := ⟨_, rfl⟩
  rw [← hR]
  refine ACalls.of ⟨24, []⟩ (fn := Tryz.f21) Tryz.func21 rfl rfl rfl (by kernel_rfl) (by kernel_rfl) (Nat.le_of_ble_eq_true rfl) ?_
  simp -implicitDefEqProofs only [c1, c2, g3, List.length_map, go_sem, awp_seq, Nat.reduceBNe, Nat.reduceBEq, Nat.reduceAdd, Nat.reduceSub, Nat.reduceMul, Nat.reduceLeDiff, Nat.reduceLT, Nat.reduceEqDiff, Nat.reduceBneDiff, Int.reduceLE, Int.reduceLT, Int.reduceToNat, Int.reduceBEq, Int.reduceBNe, Int.reduceAdd, Int.reduceSub, Int.cast_ofNat_Int]
  refine loop_mk (α := {k : Nat // k ≤ rs.length ∧ R = rulesE (rs.drop k)}) (fun k => [(0, some (.av (.agg [i64 n, rulesA rs]))), (1, some (.ref 1 0)), (2, some (.av (i64 0))), (21, some (.av (rulesA rs))), (22, some (.av (i64 (rs.length : Nat)))), (23, some (.av (i64 (k.1 : Nat))))]) (fun _ => [(1, [i64 n, rulesA rs])]) (fun _ => []) (fun k => rs.length - k.1) ⟨0, Nat.zero_le _, hR⟩ ?_ ?_
  · simp -implicitDefEqProofs only [go_sem, awp_seq, Nat.reduceBNe, Nat.reduceBEq, Nat.reduceAdd, Nat.reduceSub, Nat.reduceMul, Nat.reduceLeDiff, Nat.reduceLT, Nat.reduceEqDiff, Nat.reduceBneDiff, Int.reduceLE, Int.reduceLT, Int.reduceToNat, Int.reduceBEq, Int.reduceBNe, Int.reduceAdd, Int.reduceSub, Int.cast_ofNat_Int]
  · clear hR
    rintro ⟨k, hk, hR⟩
    by_cases hlt : k < rs.length
    · have g1 : decide (((k : Nat) : Int) < (rs.length : Nat)) = true := by simp; omega
      have e1 := map_get ruleA rs hlt
      have w1 : IntKind.i64.wrap ((k : Int) + 1) = ((k + 1 : Nat) : Int) := by rw [IntWalk.i64_in _ (by omega)]; omega
      rw [List.drop_eq_getElem_cons hlt] at hR
      generalize rs[k] = r at *
      obtain ⟨d, D, hd⟩ := demand_c r
      unfold rulesE at hR
      cases c4 : demOk r with
      | false =>
        rw [chk_no c4] at hR
        have hR : R = 1 := hR
        subst hR
        rw [c4] at D
        simp -implicitDefEqProofs only [g1, e1, Int.toNat_natCast, Int.natCast_nonneg, go_sem, awp_seq, Nat.reduceBNe, Nat.reduceBEq, Nat.reduceAdd, Nat.reduceSub, Nat.reduceMul, Nat.reduceLeDiff, Nat.reduceLT, Nat.reduceEqDiff, Nat.reduceBneDiff, Int.reduceLE, Int.reduceLT, Int.reduceToNat, Int.reduceBEq, Int.reduceBNe, Int.reduceAdd, Int.reduceSub, Int.cast_ofNat_Int]
        refine callA_t D ?_
        simp -implicitDefEqProofs only [go_sem, awp_seq, Nat.reduceBNe, Nat.reduceBEq, Nat.reduceAdd, Nat.reduceSub, Nat.reduceMul, Nat.reduceLeDiff, Nat.reduceLT, Nat.reduceEqDiff, Nat.reduceBneDiff, Int.reduceLE, Int.reduceLT, Int.reduceToNat, Int.reduceBEq, Int.reduceBNe, Int.reduceAdd, Int.reduceSub, Int.cast_ofNat_Int]
      | true =>
        rw [c4] at D
        rw [chk_ok c4] at hR
        obtain ⟨t, a, f, a', rfl, hm, hc⟩ := hd c4
        generalize chkE r = e at *
        by_cases h5 : e ≠ 0
        · have g5 : (e != 0) = true := by simpa using h5
          rw [if_pos h5] at hR
          subst hR
          simp -implicitDefEqProofs only [g1, e1, Int.toNat_natCast, Int.natCast_nonneg, go_sem, awp_seq, Nat.reduceBNe, Nat.reduceBEq, Nat.reduceAdd, Nat.reduceSub, Nat.reduceMul, Nat.reduceLeDiff, Nat.reduceLT, Nat.reduceEqDiff, Nat.reduceBneDiff, Int.reduceLE, Int.reduceLT, Int.reduceToNat, Int.reduceBEq, Int.reduceBNe, Int.reduceAdd, Int.reduceSub, Int.cast_ofNat_Int]
          refine callA_t D ?_
          simp -implicitDefEqProofs only [go_sem, awp_seq, Nat.reduceBNe, Nat.reduceBEq, Nat.reduceAdd, Nat.reduceSub, Nat.reduceMul, Nat.reduceLeDiff, Nat.reduceLT, Nat.reduceEqDiff, Nat.reduceBneDiff, Int.reduceLE, Int.reduceLT, Int.reduceToNat, Int.reduceBEq, Int.reduceBNe, Int.reduceAdd, Int.reduceSub, Int.cast_ofNat_Int]
          refine invA_mk hm ?_
          refine callA_mk hc ?_
          simp -implicitDefEqProofs only [g5, go_sem, awp_seq, Nat.reduceBNe, Nat.reduceBEq, Nat.reduceAdd, Nat.reduceSub, Nat.reduceMul, Nat.reduceLeDiff, Nat.reduceLT, Nat.reduceEqDiff, Nat.reduceBneDiff, Int.reduceLE, Int.reduceLT, Int.reduceToNat, Int.reduceBEq, Int.reduceBNe, Int.reduceAdd, Int.reduceSub, Int.cast_ofNat_Int]
        · have g5 : (e != 0) = false := by simpa using h5
          rw [if_neg h5] at hR
          simp -implicitDefEqProofs only [g1, e1, Int.toNat_natCast, Int.natCast_nonneg, go_sem, awp_seq, Nat.reduceBNe, Nat.reduceBEq, Nat.reduceAdd, Nat.reduceSub, Nat.reduceMul, Nat.reduceLeDiff, Nat.reduceLT, Nat.reduceEqDiff, Nat.reduceBneDiff, Int.reduceLE, Int.reduceLT, Int.reduceToNat, Int.reduceBEq, Int.reduceBNe, Int.reduceAdd, Int.reduceSub, Int.cast_ofNat_Int]
          refine callA_t D ?_
          simp -implicitDefEqProofs only [go_sem, awp_seq, Nat.reduceBNe, Nat.reduceBEq, Nat.reduceAdd, Nat.reduceSub, Nat.reduceMul, Nat.reduceLeDiff, Nat.reduceLT, Nat.reduceEqDiff, Nat.reduceBneDiff, Int.reduceLE, Int.reduceLT, Int.reduceToNat, Int.reduceBEq, Int.reduceBNe, Int.reduceAdd, Int.reduceSub, Int.cast_ofNat_Int]
          refine invA_mk hm ?_
          refine callA_mk hc ?_
          simp -implicitDefEqProofs only [g5, w1, go_sem, awp_seq, Nat.reduceBNe, Nat.reduceBEq, Nat.reduceAdd, Nat.reduceSub, Nat.reduceMul, Nat.reduceLeDiff, Nat.reduceLT, Nat.reduceEqDiff, Nat.reduceBneDiff, Int.reduceLE, Int.reduceLT, Int.reduceToNat, Int.reduceBEq, Int.reduceBNe, Int.reduceAdd, Int.reduceSub, Int.cast_ofNat_Int]
          refine roundK_mk ⟨k + 1, by omega, hR⟩ ?_ (by show rs.length - (k + 1) < rs.length - k; omega)
          simp -implicitDefEqProofs only [go_sem, awp_seq, Nat.reduceBNe, Nat.reduceBEq, Nat.reduceAdd, Nat.reduceSub, Nat.reduceMul, Nat.reduceLeDiff, Nat.reduceLT, Nat.reduceEqDiff, Nat.reduceBneDiff, Int.reduceLE, Int.reduceLT, Int.reduceToNat, Int.reduceBEq, Int.reduceBNe, Int.reduceAdd, Int.reduceSub, Int.cast_ofNat_Int]
    · have g1 : decide (((k : Nat) : Int) < (rs.length : Nat)) = false := by simp; omega
      rw [List.drop_of_length_le (by omega)] at hR
      have hR : R = 0 := hR
      subst hR
      simp -implicitDefEqProofs only [g1, go_sem, awp_seq, Nat.reduceBNe, Nat.reduceBEq, Nat.reduceAdd, Nat.reduceSub, Nat.reduceMul, Nat.reduceLeDiff, Nat.reduceLT, Nat.reduceEqDiff, Nat.reduceBneDiff, Int.reduceLE, Int.reduceLT, Int.reduceToNat, Int.reduceBEq, Int.reduceBNe, Int.reduceAdd, Int.reduceSub, Int.cast_ofNat_Int]
end Go.Proofs.YtfchbehmeppckaaGreat

/- Chapter 38: policies. INTS -/
set_option linter.unusedSimpArgs false
set_option linter.unusedVariables false
namespace Go.Proofs.YtfchbehmeppckaaGreat
open Go.RowKit Lim

structure RatV where
  t : Bool
  l : List Nat
  m : List Nat
abbrev RatV.z (r : RatV) : Int := sg r.t (val r.l)
abbrev RatV.d (r : RatV) : Nat := val r.m
abbrev RatV.a (r : RatV) : AV := ratA r.t r.l r.m
/-- Not too long. -/
structure ROK (r : RatV) : Prop where
  dl : Dig r.l
  dm : Dig r.m
  nl : r.l.length ≤ 2000000
  nm : r.m.length ≤ 2000000
theorem ROK.isR {r : RatV} (h : ROK r) : IsR r.a r.z r.d := ⟨r.t, r.l, r.m, rfl, rfl, rfl, by have := h.nl; omega, by have := h.nm; omega⟩
theorem ROK.len {r : RatV} (h : ROK r) : nlen r.z.natAbs ≤ 2000000 ∧ nlen r.d ≤ 2000000 := by
  have h1 := nlen_val h.dl
  have h2 := nlen_val h.dm
  have h3 := h.nl
  have h4 := h.nm
  rw [show r.z.natAbs = val r.l from sg_natAbs _ _]
  exact ⟨by omega, by show nlen (val r.m) ≤ _; omega⟩
/-- Whether a ratio is above another one and at most 1. -/
def aboveB (r : RatV) (x : Int) (y : Nat) : Bool := decide (0 < cmpZ (pz r.z r.d * (y : Int)) (x * (pd r.d : Int))) && decide (cmpZ (pz r.z r.d) (pd r.d) ≤ 0)
theorem above_c {r : RatV} (h : ROK r) (x : Int) (y : Nat) (h1 : -1000 ≤ x) (h2 : x ≤ 1000) (h3 : 0 < y) (h4 : y ≤ 1000) : AC 23 [r.a, i64 x, i64 (y : Nat)] (boo (aboveB r x y)) := by
  have hv := h.isR
  have hn := h.len
  have O1 := rof_c x y h3 (by omega) (by omega) (by omega)
  have O2 := rof_c 1 1 (by omega) (by omega) (by omega) (by omega)
  have C2 := cmp_one hv (by omega) (by omega)
  have p1 := nlen_rn x y
  have p2 := nlen_rd x y
  have p3 : nlen x.natAbs ≤ 1 := nlen_small32 (by omega)
  have p4 : nlen y ≤ 1 := nlen_u32 (by omega)
  have q0 := rd_pos x h3
  have C1 := rcmp_c hv (isR (rn x y) (rd x y) (by omega) (by omega)) (by omega) (by omega)
  rw [pz_pos _ q0, pd_id q0, (Eqv.refl (pz r.z r.d) (pd_pos r.d)).cmp (Eqv.norm x h3)] at C1
  unfold aboveB
  generalize rn x y = X at *
  generalize rd x y = E at *
  cases c1 : decide (0 < cmpZ (pz r.z r.d * (y : Int)) (x * (pd r.d : Int))) with
  | true =>
    refine ACalls.of ⟨10, []⟩ (fn := Tryz.f23) Tryz.func23 rfl rfl rfl (by kernel_rfl) (by kernel_rfl) (Nat.le_of_ble_eq_true rfl) ?_
    simp -implicitDefEqProofs only [go_sem, awp_seq, Nat.reduceBNe, Nat.reduceBEq, Nat.reduceAdd, Nat.reduceSub, Nat.reduceMul, Nat.reduceLeDiff, Nat.reduceLT, Nat.reduceEqDiff, Nat.reduceBneDiff, Int.reduceLE, Int.reduceLT, Int.reduceToNat, Int.reduceBEq, Int.reduceBNe, Int.reduceAdd, Int.reduceSub, Int.cast_ofNat_Int]
    refine callA_mk O1 ?_
    simp -implicitDefEqProofs only [go_sem, awp_seq, Nat.reduceBNe, Nat.reduceBEq, Nat.reduceAdd, Nat.reduceSub, Nat.reduceMul, Nat.reduceLeDiff, Nat.reduceLT, Nat.reduceEqDiff, Nat.reduceBneDiff, Int.reduceLE, Int.reduceLT, Int.reduceToNat, Int.reduceBEq, Int.reduceBNe, Int.reduceAdd, Int.reduceSub, Int.cast_ofNat_Int]
    refine callA_mk O2 ?_
    simp -implicitDefEqProofs only [go_sem, awp_seq, Nat.reduceBNe, Nat.reduceBEq, Nat.reduceAdd, Nat.reduceSub, Nat.reduceMul, Nat.reduceLeDiff, Nat.reduceLT, Nat.reduceEqDiff, Nat.reduceBneDiff, Int.reduceLE, Int.reduceLT, Int.reduceToNat, Int.reduceBEq, Int.reduceBNe, Int.reduceAdd, Int.reduceSub, Int.cast_ofNat_Int]
    refine callA_mk C1 ?_
    simp -implicitDefEqProofs only [c1, go_sem, awp_seq, Nat.reduceBNe, Nat.reduceBEq, Nat.reduceAdd, Nat.reduceSub, Nat.reduceMul, Nat.reduceLeDiff, Nat.reduceLT, Nat.reduceEqDiff, Nat.reduceBneDiff, Int.reduceLE, Int.reduceLT, Int.reduceToNat, Int.reduceBEq, Int.reduceBNe, Int.reduceAdd, Int.reduceSub, Int.cast_ofNat_Int]
    refine callA_mk C2 ?_
    simp -implicitDefEqProofs only [go_sem, awp_seq, Nat.reduceBNe, Nat.reduceBEq, Nat.reduceAdd, Nat.reduceSub, Nat.reduceMul, Nat.reduceLeDiff, Nat.reduceLT, Nat.reduceEqDiff, Nat.reduceBneDiff, Int.reduceLE, Int.reduceLT, Int.reduceToNat, Int.reduceBEq, Int.reduceBNe, Int.reduceAdd, Int.reduceSub, Int.cast_ofNat_Int]
  | false =>
    refine ACalls.of ⟨10, []⟩ (fn := Tryz.f23) Tryz.func23 rfl rfl rfl (by kernel_rfl) (by kernel_rfl) (Nat.le_of_ble_eq_true rfl) ?_
    simp -implicitDefEqProofs only [go_sem, awp_seq, Nat.reduceBNe, Nat.reduceBEq, Nat.reduceAdd, Nat.reduceSub, Nat.reduceMul, Nat.reduceLeDiff, Nat.reduceLT, Nat.reduceEqDiff, Nat.reduceBneDiff, Int.reduceLE, Int.reduceLT, Int.reduceToNat, Int.reduceBEq, Int.reduceBNe, Int.reduceAdd, Int.reduceSub, Int.cast_ofNat_Int]
    refine callA_mk O1 ?_
    simp -implicitDefEqProofs only [go_sem, awp_seq, Nat.reduceBNe, Nat.reduceBEq, Nat.reduceAdd, Nat.reduceSub, Nat.reduceMul, Nat.reduceLeDiff, Nat.reduceLT, Nat.reduceEqDiff, Nat.reduceBneDiff, Int.reduceLE, Int.reduceLT, Int.reduceToNat, Int.reduceBEq, Int.reduceBNe, Int.reduceAdd, Int.reduceSub, Int.cast_ofNat_Int]
    refine callA_mk O2 ?_
    simp -implicitDefEqProofs only [go_sem, awp_seq, Nat.reduceBNe, Nat.reduceBEq, Nat.reduceAdd, Nat.reduceSub, Nat.reduceMul, Nat.reduceLeDiff, Nat.reduceLT, Nat.reduceEqDiff, Nat.reduceBneDiff, Int.reduceLE, Int.reduceLT, Int.reduceToNat, Int.reduceBEq, Int.reduceBNe, Int.reduceAdd, Int.reduceSub, Int.cast_ofNat_Int]
    refine callA_mk C1 ?_
    simp -implicitDefEqProofs only [c1, go_sem, awp_seq, Nat.reduceBNe, Nat.reduceBEq, Nat.reduceAdd, Nat.reduceSub, Nat.reduceMul, Nat.reduceLeDiff, Nat.reduceLT, Nat.reduceEqDiff, Nat.reduceBneDiff, Int.reduceLE, Int.reduceLT, Int.reduceToNat, Int.reduceBEq, Int.reduceBNe, Int.reduceAdd, Int.reduceSub, Int.cast_ofNat_Int]
structure PolV where
  len : Int
  rs : List RuleV
  pts : List Int
  prs : List Int
  en : List (Int × Int)
  min : Int
  v : RatV
  cut : Int
  lv : RatV
  top : Int
  rate : RatV
  slack : Int
abbrev pairA (p : Int × Int) : AV := .agg [i64 p.1, i64 p.2]
abbrev polC (p : PolV) : List AV := [i64 p.len, rulesA p.rs, ints p.pts, ints p.prs, .sl 2 (p.en.map pairA), i64 p.min, boo p.v.t, .nat p.v.l, .nat p.v.m, i64 p.cut, boo p.lv.t, .nat p.lv.l, .nat p.lv.m, i64 p.top, boo p.rate.t, .nat p.rate.l, .nat p.rate.m, i64 p.slack]
abbrev polA (p : PolV) : AV := .agg (polC p)
structure POK (p : PolV) : Prop where
  v : ROK p.v
  lv : ROK p.lv
  rate : ROK p.rate
def polBad (p : PolV) : Bool :=
  (decide (p.min < 0) || decide (p.len < p.min)) || (decide (sgnI (pz p.v.z p.v.d) < 0) || ((decide (p.cut < 0) || decide (((p.pts.length : Nat) : Int) - 1 < p.cut)) || ((p.cut != 0 && !aboveB p.lv 1 2) ||
  ((decide (p.top < 1) || decide (5 < p.top)) || (!aboveB p.rate 0 1 || (decide (p.slack < 0) || decide (1000000 < p.slack)))))))
/-- The first rule that a policy violates. -/
def polE (p : PolV) : Int :=
  if specE p.len p.rs ≠ 0 then specE p.len p.rs else if gridE p.pts p.prs ≠ 0 then gridE p.pts p.prs else if 400 < p.en.length then 5 else if polBad p then 3 else 0
set_option maxHeartbeats 2000000 in
theorem svalid_c (p : PolV) (hp : POK p) : AC 9 [polA p] (i64 (polE p)) := by
  have B := bvalid_c p.len p.rs
  have G := gvalid_c p.pts p.prs
  have S := rsign_c hp.v.isR
  have A1 := above_c hp.lv 1 2 (by omega) (by omega) (by omega) (by omega)
  have A2 := above_c hp.rate 0 1 (by omega) (by omega) (by omega) (by omega)
  by_cases h1 : specE p.len p.rs ≠ 0
  · have g1 : (specE p.len p.rs != 0) = true := by simpa using h1
    rw [show polE p = specE p.len p.rs by unfold polE; rw [if_pos h1]]
    refine ACalls.of ⟨22, []⟩ (fn := Tryz.f9) Tryz.func9 rfl rfl rfl (by kernel_rfl) (by kernel_rfl) (Nat.le_of_ble_eq_true rfl) ?_
    simp -implicitDefEqProofs only [go_sem, awp_seq, Nat.reduceBNe, Nat.reduceBEq, Nat.reduceAdd, Nat.reduceSub, Nat.reduceMul, Nat.reduceLeDiff, Nat.reduceLT, Nat.reduceEqDiff, Nat.reduceBneDiff, Int.reduceLE, Int.reduceLT, Int.reduceToNat, Int.reduceBEq, Int.reduceBNe, Int.reduceAdd, Int.reduceSub, Int.cast_ofNat_Int]
    refine callA_mk B ?_
    simp -implicitDefEqProofs only [g1, go_sem, awp_seq, Nat.reduceBNe, Nat.reduceBEq, Nat.reduceAdd, Nat.reduceSub, Nat.reduceMul, Nat.reduceLeDiff, Nat.reduceLT, Nat.reduceEqDiff, Nat.reduceBneDiff, Int.reduceLE, Int.reduceLT, Int.reduceToNat, Int.reduceBEq, Int.reduceBNe, Int.reduceAdd, Int.reduceSub, Int.cast_ofNat_Int]
  have g1 : (specE p.len p.rs != 0) = false := by simpa using h1
  by_cases h2 : gridE p.pts p.prs ≠ 0
  · have g2 : (gridE p.pts p.prs != 0) = true := by simpa using h2
    rw [show polE p = gridE p.pts p.prs by unfold polE; rw [if_neg h1, if_pos h2]]
    refine ACalls.of ⟨22, []⟩ (fn := Tryz.f9) Tryz.func9 rfl rfl rfl (by kernel_rfl) (by kernel_rfl) (Nat.le_of_ble_eq_true rfl) ?_
    simp -implicitDefEqProofs only [go_sem, awp_seq, Nat.reduceBNe, Nat.reduceBEq, Nat.reduceAdd, Nat.reduceSub, Nat.reduceMul, Nat.reduceLeDiff, Nat.reduceLT, Nat.reduceEqDiff, Nat.reduceBneDiff, Int.reduceLE, Int.reduceLT, Int.reduceToNat, Int.reduceBEq, Int.reduceBNe, Int.reduceAdd, Int.reduceSub, Int.cast_ofNat_Int]
    refine callA_mk B ?_
    simp -implicitDefEqProofs only [g1, go_sem, awp_seq, Nat.reduceBNe, Nat.reduceBEq, Nat.reduceAdd, Nat.reduceSub, Nat.reduceMul, Nat.reduceLeDiff, Nat.reduceLT, Nat.reduceEqDiff, Nat.reduceBneDiff, Int.reduceLE, Int.reduceLT, Int.reduceToNat, Int.reduceBEq, Int.reduceBNe, Int.reduceAdd, Int.reduceSub, Int.cast_ofNat_Int]
    refine callA_t G ?_
    simp -implicitDefEqProofs only [g2, go_sem, awp_seq, Nat.reduceBNe, Nat.reduceBEq, Nat.reduceAdd, Nat.reduceSub, Nat.reduceMul, Nat.reduceLeDiff, Nat.reduceLT, Nat.reduceEqDiff, Nat.reduceBneDiff, Int.reduceLE, Int.reduceLT, Int.reduceToNat, Int.reduceBEq, Int.reduceBNe, Int.reduceAdd, Int.reduceSub, Int.cast_ofNat_Int]
  have g2 : (gridE p.pts p.prs != 0) = false := by simpa using h2
  have hlen : p.pts.length ≤ 21 := (grid_ok (by omega : gridE p.pts p.prs = 0)).1
  by_cases h3 : 400 < p.en.length
  · have g3 : decide ((400 : Int) < (p.en.length : Nat)) = true := by simp; omega
    rw [show polE p = 5 by unfold polE; rw [if_neg h1, if_neg h2, if_pos h3]]
    refine ACalls.of ⟨22, []⟩ (fn := Tryz.f9) Tryz.func9 rfl rfl rfl (by kernel_rfl) (by kernel_rfl) (Nat.le_of_ble_eq_true rfl) ?_
    simp -implicitDefEqProofs only [go_sem, awp_seq, Nat.reduceBNe, Nat.reduceBEq, Nat.reduceAdd, Nat.reduceSub, Nat.reduceMul, Nat.reduceLeDiff, Nat.reduceLT, Nat.reduceEqDiff, Nat.reduceBneDiff, Int.reduceLE, Int.reduceLT, Int.reduceToNat, Int.reduceBEq, Int.reduceBNe, Int.reduceAdd, Int.reduceSub, Int.cast_ofNat_Int]
    refine callA_mk B ?_
    simp -implicitDefEqProofs only [g1, go_sem, awp_seq, Nat.reduceBNe, Nat.reduceBEq, Nat.reduceAdd, Nat.reduceSub, Nat.reduceMul, Nat.reduceLeDiff, Nat.reduceLT, Nat.reduceEqDiff, Nat.reduceBneDiff, Int.reduceLE, Int.reduceLT, Int.reduceToNat, Int.reduceBEq, Int.reduceBNe, Int.reduceAdd, Int.reduceSub, Int.cast_ofNat_Int]
    refine callA_t G ?_
    simp -implicitDefEqProofs only [g2, g3, List.length_map, go_sem, awp_seq, Nat.reduceBNe, Nat.reduceBEq, Nat.reduceAdd, Nat.reduceSub, Nat.reduceMul, Nat.reduceLeDiff, Nat.reduceLT, Nat.reduceEqDiff, Nat.reduceBneDiff, Int.reduceLE, Int.reduceLT, Int.reduceToNat, Int.reduceBEq, Int.reduceBNe, Int.reduceAdd, Int.reduceSub, Int.cast_ofNat_Int]
  have g3 : decide ((400 : Int) < (p.en.length : Nat)) = false := by simp; omega
  have e : polE p = if polBad p then 3 else 0 := by unfold polE; rw [if_neg h1, if_neg h2, if_neg h3]
  have bad : polBad p = true → polE p = 3 := fun h => by rw [e, if_pos h]
  have good : polBad p = false → polE p = 0 := fun h => by rw [e, if_neg (by simp [h])]
  clear e
  have w1 : IntKind.i64.wrap (((p.pts.length : Nat) : Int) - 1) = ((p.pts.length : Nat) : Int) - 1 := IntWalk.i64_in _ (by omega)
  unfold polBad at bad good
  generalize specE p.len p.rs = e1 at *
  generalize gridE p.pts p.prs = e2 at *
  generalize polE p = E at *
  generalize aboveB p.lv 1 2 = a1 at *
  generalize aboveB p.rate 0 1 = a2 at *
  generalize sgnI (pz p.v.z p.v.d) = sv at *
  refine ACalls.of ⟨22, []⟩ (fn := Tryz.f9) Tryz.func9 rfl rfl rfl (by kernel_rfl) (by kernel_rfl) (Nat.le_of_ble_eq_true rfl) ?_
  simp -implicitDefEqProofs only [go_sem, awp_seq, Nat.reduceBNe, Nat.reduceBEq, Nat.reduceAdd, Nat.reduceSub, Nat.reduceMul, Nat.reduceLeDiff, Nat.reduceLT, Nat.reduceEqDiff, Nat.reduceBneDiff, Int.reduceLE, Int.reduceLT, Int.reduceToNat, Int.reduceBEq, Int.reduceBNe, Int.reduceAdd, Int.reduceSub, Int.cast_ofNat_Int]
  refine callA_mk B ?_
  simp -implicitDefEqProofs only [g1, go_sem, awp_seq, Nat.reduceBNe, Nat.reduceBEq, Nat.reduceAdd, Nat.reduceSub, Nat.reduceMul, Nat.reduceLeDiff, Nat.reduceLT, Nat.reduceEqDiff, Nat.reduceBneDiff, Int.reduceLE, Int.reduceLT, Int.reduceToNat, Int.reduceBEq, Int.reduceBNe, Int.reduceAdd, Int.reduceSub, Int.cast_ofNat_Int]
  refine callA_t G ?_
  simp -implicitDefEqProofs only [g2, g3, List.length_map, go_sem, awp_seq, Nat.reduceBNe, Nat.reduceBEq, Nat.reduceAdd, Nat.reduceSub, Nat.reduceMul, Nat.reduceLeDiff, Nat.reduceLT, Nat.reduceEqDiff, Nat.reduceBneDiff, Int.reduceLE, Int.reduceLT, Int.reduceToNat, Int.reduceBEq, Int.reduceBNe, Int.reduceAdd, Int.reduceSub, Int.cast_ofNat_Int]
  cases c1 : decide (p.min < 0) with
  | true =>
    have := bad (by simp only [c1, Bool.true_or])
    simp -implicitDefEqProofs only [this, go_sem, awp_seq, Nat.reduceBNe, Nat.reduceBEq, Nat.reduceAdd, Nat.reduceSub, Nat.reduceMul, Nat.reduceLeDiff, Nat.reduceLT, Nat.reduceEqDiff, Nat.reduceBneDiff, Int.reduceLE, Int.reduceLT, Int.reduceToNat, Int.reduceBEq, Int.reduceBNe, Int.reduceAdd, Int.reduceSub, Int.cast_ofNat_Int]
  | false =>
  cases c2 : decide (p.len < p.min) with
  | true =>
    have := bad (by simp only [c2, Bool.true_or, Bool.or_true])
    simp -implicitDefEqProofs only [c2, this, go_sem, awp_seq, Nat.reduceBNe, Nat.reduceBEq, Nat.reduceAdd, Nat.reduceSub, Nat.reduceMul, Nat.reduceLeDiff, Nat.reduceLT, Nat.reduceEqDiff, Nat.reduceBneDiff, Int.reduceLE, Int.reduceLT, Int.reduceToNat, Int.reduceBEq, Int.reduceBNe, Int.reduceAdd, Int.reduceSub, Int.cast_ofNat_Int]
  | false =>
  simp -implicitDefEqProofs only [c2, go_sem, awp_seq, Nat.reduceBNe, Nat.reduceBEq, Nat.reduceAdd, Nat.reduceSub, Nat.reduceMul, Nat.reduceLeDiff, Nat.reduceLT, Nat.reduceEqDiff, Nat.reduceBneDiff, Int.reduceLE, Int.reduceLT, Int.reduceToNat, Int.reduceBEq, Int.reduceBNe, Int.reduceAdd, Int.reduceSub, Int.cast_ofNat_Int]
  refine callA_mk S ?_
  cases c3 : decide (sv < 0) with
  | true =>
    have := bad (by simp only [c3, Bool.true_or, Bool.or_true])
    simp -implicitDefEqProofs only [c3, this, go_sem, awp_seq, Nat.reduceBNe, Nat.reduceBEq, Nat.reduceAdd, Nat.reduceSub, Nat.reduceMul, Nat.reduceLeDiff, Nat.reduceLT, Nat.reduceEqDiff, Nat.reduceBneDiff, Int.reduceLE, Int.reduceLT, Int.reduceToNat, Int.reduceBEq, Int.reduceBNe, Int.reduceAdd, Int.reduceSub, Int.cast_ofNat_Int]
  | false =>
  simp -implicitDefEqProofs only [c3, go_sem, awp_seq, Nat.reduceBNe, Nat.reduceBEq, Nat.reduceAdd, Nat.reduceSub, Nat.reduceMul, Nat.reduceLeDiff, Nat.reduceLT, Nat.reduceEqDiff, Nat.reduceBneDiff, Int.reduceLE, Int.reduceLT, Int.reduceToNat, Int.reduceBEq, Int.reduceBNe, Int.reduceAdd, Int.reduceSub, Int.cast_ofNat_Int]
  cases c4 : decide (p.cut < 0) with
  | true =>
    have := bad (by simp only [c4, Bool.true_or, Bool.or_true])
    simp -implicitDefEqProofs only [this, go_sem, awp_seq, Nat.reduceBNe, Nat.reduceBEq, Nat.reduceAdd, Nat.reduceSub, Nat.reduceMul, Nat.reduceLeDiff, Nat.reduceLT, Nat.reduceEqDiff, Nat.reduceBneDiff, Int.reduceLE, Int.reduceLT, Int.reduceToNat, Int.reduceBEq, Int.reduceBNe, Int.reduceAdd, Int.reduceSub, Int.cast_ofNat_Int]
  | false =>
  simp -implicitDefEqProofs only [List.length_map, w1, go_sem, awp_seq, Nat.reduceBNe, Nat.reduceBEq, Nat.reduceAdd, Nat.reduceSub, Nat.reduceMul, Nat.reduceLeDiff, Nat.reduceLT, Nat.reduceEqDiff, Nat.reduceBneDiff, Int.reduceLE, Int.reduceLT, Int.reduceToNat, Int.reduceBEq, Int.reduceBNe, Int.reduceAdd, Int.reduceSub, Int.cast_ofNat_Int]
  cases c5 : decide (((p.pts.length : Nat) : Int) - 1 < p.cut) with
  | true =>
    have := bad (by simp only [c5, Bool.true_or, Bool.or_true])
    simp -implicitDefEqProofs only [this, go_sem, awp_seq, Nat.reduceBNe, Nat.reduceBEq, Nat.reduceAdd, Nat.reduceSub, Nat.reduceMul, Nat.reduceLeDiff, Nat.reduceLT, Nat.reduceEqDiff, Nat.reduceBneDiff, Int.reduceLE, Int.reduceLT, Int.reduceToNat, Int.reduceBEq, Int.reduceBNe, Int.reduceAdd, Int.reduceSub, Int.cast_ofNat_Int]
  | false =>
  simp -implicitDefEqProofs only [go_sem, awp_seq, Nat.reduceBNe, Nat.reduceBEq, Nat.reduceAdd, Nat.reduceSub, Nat.reduceMul, Nat.reduceLeDiff, Nat.reduceLT, Nat.reduceEqDiff, Nat.reduceBneDiff, Int.reduceLE, Int.reduceLT, Int.reduceToNat, Int.reduceBEq, Int.reduceBNe, Int.reduceAdd, Int.reduceSub, Int.cast_ofNat_Int]
  cases c6 : (p.cut != 0) with
  | true =>
    simp -implicitDefEqProofs only [go_sem, awp_seq, Nat.reduceBNe, Nat.reduceBEq, Nat.reduceAdd, Nat.reduceSub, Nat.reduceMul, Nat.reduceLeDiff, Nat.reduceLT, Nat.reduceEqDiff, Nat.reduceBneDiff, Int.reduceLE, Int.reduceLT, Int.reduceToNat, Int.reduceBEq, Int.reduceBNe, Int.reduceAdd, Int.reduceSub, Int.cast_ofNat_Int]
    refine callA_mk A1 ?_
    cases a1 with
    | false =>
      have := bad (by simp only [c6, Bool.not_false, Bool.and_self, Bool.true_or, Bool.or_true])
      simp -implicitDefEqProofs only [this, go_sem, awp_seq, Nat.reduceBNe, Nat.reduceBEq, Nat.reduceAdd, Nat.reduceSub, Nat.reduceMul, Nat.reduceLeDiff, Nat.reduceLT, Nat.reduceEqDiff, Nat.reduceBneDiff, Int.reduceLE, Int.reduceLT, Int.reduceToNat, Int.reduceBEq, Int.reduceBNe, Int.reduceAdd, Int.reduceSub, Int.cast_ofNat_Int]
    | true =>
    simp -implicitDefEqProofs only [go_sem, awp_seq, Nat.reduceBNe, Nat.reduceBEq, Nat.reduceAdd, Nat.reduceSub, Nat.reduceMul, Nat.reduceLeDiff, Nat.reduceLT, Nat.reduceEqDiff, Nat.reduceBneDiff, Int.reduceLE, Int.reduceLT, Int.reduceToNat, Int.reduceBEq, Int.reduceBNe, Int.reduceAdd, Int.reduceSub, Int.cast_ofNat_Int]
    cases c7 : decide (p.top < 1) with
    | true =>
      have := bad (by simp only [c7, Bool.true_or, Bool.or_true])
      simp -implicitDefEqProofs only [this, go_sem, awp_seq, Nat.reduceBNe, Nat.reduceBEq, Nat.reduceAdd, Nat.reduceSub, Nat.reduceMul, Nat.reduceLeDiff, Nat.reduceLT, Nat.reduceEqDiff, Nat.reduceBneDiff, Int.reduceLE, Int.reduceLT, Int.reduceToNat, Int.reduceBEq, Int.reduceBNe, Int.reduceAdd, Int.reduceSub, Int.cast_ofNat_Int]
    | false =>
    simp -implicitDefEqProofs only [go_sem, awp_seq, Nat.reduceBNe, Nat.reduceBEq, Nat.reduceAdd, Nat.reduceSub, Nat.reduceMul, Nat.reduceLeDiff, Nat.reduceLT, Nat.reduceEqDiff, Nat.reduceBneDiff, Int.reduceLE, Int.reduceLT, Int.reduceToNat, Int.reduceBEq, Int.reduceBNe, Int.reduceAdd, Int.reduceSub, Int.cast_ofNat_Int]
    cases c8 : decide (5 < p.top) with
    | true =>
      have := bad (by simp only [c8, Bool.true_or, Bool.or_true])
      simp -implicitDefEqProofs only [this, go_sem, awp_seq, Nat.reduceBNe, Nat.reduceBEq, Nat.reduceAdd, Nat.reduceSub, Nat.reduceMul, Nat.reduceLeDiff, Nat.reduceLT, Nat.reduceEqDiff, Nat.reduceBneDiff, Int.reduceLE, Int.reduceLT, Int.reduceToNat, Int.reduceBEq, Int.reduceBNe, Int.reduceAdd, Int.reduceSub, Int.cast_ofNat_Int]
    | false =>
    simp -implicitDefEqProofs only [go_sem, awp_seq, Nat.reduceBNe, Nat.reduceBEq, Nat.reduceAdd, Nat.reduceSub, Nat.reduceMul, Nat.reduceLeDiff, Nat.reduceLT, Nat.reduceEqDiff, Nat.reduceBneDiff, Int.reduceLE, Int.reduceLT, Int.reduceToNat, Int.reduceBEq, Int.reduceBNe, Int.reduceAdd, Int.reduceSub, Int.cast_ofNat_Int]
    refine callA_mk A2 ?_
    cases a2 with
    | false =>
      have := bad (by simp only [Bool.not_false, Bool.true_or, Bool.or_true])
      simp -implicitDefEqProofs only [this, go_sem, awp_seq, Nat.reduceBNe, Nat.reduceBEq, Nat.reduceAdd, Nat.reduceSub, Nat.reduceMul, Nat.reduceLeDiff, Nat.reduceLT, Nat.reduceEqDiff, Nat.reduceBneDiff, Int.reduceLE, Int.reduceLT, Int.reduceToNat, Int.reduceBEq, Int.reduceBNe, Int.reduceAdd, Int.reduceSub, Int.cast_ofNat_Int]
    | true =>
    simp -implicitDefEqProofs only [go_sem, awp_seq, Nat.reduceBNe, Nat.reduceBEq, Nat.reduceAdd, Nat.reduceSub, Nat.reduceMul, Nat.reduceLeDiff, Nat.reduceLT, Nat.reduceEqDiff, Nat.reduceBneDiff, Int.reduceLE, Int.reduceLT, Int.reduceToNat, Int.reduceBEq, Int.reduceBNe, Int.reduceAdd, Int.reduceSub, Int.cast_ofNat_Int]
    cases c9 : decide (p.slack < 0) with
    | true =>
      have := bad (by simp only [c9, Bool.true_or, Bool.or_true])
      simp -implicitDefEqProofs only [this, go_sem, awp_seq, Nat.reduceBNe, Nat.reduceBEq, Nat.reduceAdd, Nat.reduceSub, Nat.reduceMul, Nat.reduceLeDiff, Nat.reduceLT, Nat.reduceEqDiff, Nat.reduceBneDiff, Int.reduceLE, Int.reduceLT, Int.reduceToNat, Int.reduceBEq, Int.reduceBNe, Int.reduceAdd, Int.reduceSub, Int.cast_ofNat_Int]
    | false =>
    simp -implicitDefEqProofs only [go_sem, awp_seq, Nat.reduceBNe, Nat.reduceBEq, Nat.reduceAdd, Nat.reduceSub, Nat.reduceMul, Nat.reduceLeDiff, Nat.reduceLT, Nat.reduceEqDiff, Nat.reduceBneDiff, Int.reduceLE, Int.reduceLT, Int.reduceToNat, Int.reduceBEq, Int.reduceBNe, Int.reduceAdd, Int.reduceSub, Int.cast_ofNat_Int]
    cases cA : decide (1000000 < p.slack) with
    | true =>
      have := bad (by simp only [cA, Bool.true_or, Bool.or_true])
      simp -implicitDefEqProofs only [this, go_sem, awp_seq, Nat.reduceBNe, Nat.reduceBEq, Nat.reduceAdd, Nat.reduceSub, Nat.reduceMul, Nat.reduceLeDiff, Nat.reduceLT, Nat.reduceEqDiff, Nat.reduceBneDiff, Int.reduceLE, Int.reduceLT, Int.reduceToNat, Int.reduceBEq, Int.reduceBNe, Int.reduceAdd, Int.reduceSub, Int.cast_ofNat_Int]
    | false =>
      have := good (by simp only [c1, c2, c3, c4, c5, c6, c7, c8, c9, cA, Bool.not_true, Bool.or_false, Bool.and_false, Bool.false_and])
      simp -implicitDefEqProofs only [this, go_sem, awp_seq, Nat.reduceBNe, Nat.reduceBEq, Nat.reduceAdd, Nat.reduceSub, Nat.reduceMul, Nat.reduceLeDiff, Nat.reduceLT, Nat.reduceEqDiff, Nat.reduceBneDiff, Int.reduceLE, Int.reduceLT, Int.reduceToNat, Int.reduceBEq, Int.reduceBNe, Int.reduceAdd, Int.reduceSub, Int.cast_ofNat_Int]
  | false =>
    simp -implicitDefEqProofs only [go_sem, awp_seq, Nat.reduceBNe, Nat.reduceBEq, Nat.reduceAdd, Nat.reduceSub, Nat.reduceMul, Nat.reduceLeDiff, Nat.reduceLT, Nat.reduceEqDiff, Nat.reduceBneDiff, Int.reduceLE, Int.reduceLT, Int.reduceToNat, Int.reduceBEq, Int.reduceBNe, Int.reduceAdd, Int.reduceSub, Int.cast_ofNat_Int]
    cases c7 : decide (p.top < 1) with
    | true =>
      have := bad (by simp only [c7, Bool.true_or, Bool.or_true])
      simp -implicitDefEqProofs only [this, go_sem, awp_seq, Nat.reduceBNe, Nat.reduceBEq, Nat.reduceAdd, Nat.reduceSub, Nat.reduceMul, Nat.reduceLeDiff, Nat.reduceLT, Nat.reduceEqDiff, Nat.reduceBneDiff, Int.reduceLE, Int.reduceLT, Int.reduceToNat, Int.reduceBEq, Int.reduceBNe, Int.reduceAdd, Int.reduceSub, Int.cast_ofNat_Int]
    | false =>
    simp -implicitDefEqProofs only [go_sem, awp_seq, Nat.reduceBNe, Nat.reduceBEq, Nat.reduceAdd, Nat.reduceSub, Nat.reduceMul, Nat.reduceLeDiff, Nat.reduceLT, Nat.reduceEqDiff, Nat.reduceBneDiff, Int.reduceLE, Int.reduceLT, Int.reduceToNat, Int.reduceBEq, Int.reduceBNe, Int.reduceAdd, Int.reduceSub, Int.cast_ofNat_Int]
    cases c8 : decide (5 < p.top) with
    | true =>
      have := bad (by simp only [c8, Bool.true_or, Bool.or_true])
      simp -implicitDefEqProofs only [this, go_sem, awp_seq, Nat.reduceBNe, Nat.reduceBEq, Nat.reduceAdd, Nat.reduceSub, Nat.reduceMul, Nat.reduceLeDiff, Nat.reduceLT, Nat.reduceEqDiff, Nat.reduceBneDiff, Int.reduceLE, Int.reduceLT, Int.reduceToNat, Int.reduceBEq, Int.reduceBNe, Int.reduceAdd, Int.reduceSub, Int.cast_ofNat_Int]
    | false =>
    simp -implicitDefEqProofs only [go_sem, awp_seq, Nat.reduceBNe, Nat.reduceBEq, Nat.reduceAdd, Nat.reduceSub, Nat.reduceMul, Nat.reduceLeDiff, Nat.reduceLT, Nat.reduceEqDiff, Nat.reduceBneDiff, Int.reduceLE, Int.reduceLT, Int.reduceToNat, Int.reduceBEq, Int.reduceBNe, Int.reduceAdd, Int.reduceSub, Int.cast_ofNat_Int]
    refine callA_mk A2 ?_
    cases a2 with
    | false =>
      have := bad (by simp only [Bool.not_false, Bool.true_or, Bool.or_true])
      simp -implicitDefEqProofs only [this, go_sem, awp_seq, Nat.reduceBNe, Nat.reduceBEq, Nat.reduceAdd, Nat.reduceSub, Nat.reduceMul, Nat.reduceLeDiff, Nat.reduceLT, Nat.reduceEqDiff, Nat.reduceBneDiff, Int.reduceLE, Int.reduceLT, Int.reduceToNat, Int.reduceBEq, Int.reduceBNe, Int.reduceAdd, Int.reduceSub, Int.cast_ofNat_Int]
    | true =>
    simp -implicitDefEqProofs only [go_sem, awp_seq, Nat.reduceBNe, Nat.reduceBEq, Nat.reduceAdd, Nat.reduceSub, Nat.reduceMul, Nat.reduceLeDiff, Nat.reduceLT, Nat.reduceEqDiff, Nat.reduceBneDiff, Int.reduceLE, Int.reduceLT, Int.reduceToNat, Int.reduceBEq, Int.reduceBNe, Int.reduceAdd, Int.reduceSub, Int.cast_ofNat_Int]
    cases c9 : decide (p.slack < 0) with
    | true =>
      have := bad (by simp only [c9, Bool.true_or, Bool.or_true])
      simp -implicitDefEqProofs only [this, go_sem, awp_seq, Nat.reduceBNe, Nat.reduceBEq, Nat.reduceAdd, Nat.reduceSub, Nat.reduceMul, Nat.reduceLeDiff, Nat.reduceLT, Nat.reduceEqDiff, Nat.reduceBneDiff, Int.reduceLE, Int.reduceLT, Int.reduceToNat, Int.reduceBEq, Int.reduceBNe, Int.reduceAdd, Int.reduceSub, Int.cast_ofNat_Int]
    | false =>
    simp -implicitDefEqProofs only [go_sem, awp_seq, Nat.reduceBNe, Nat.reduceBEq, Nat.reduceAdd, Nat.reduceSub, Nat.reduceMul, Nat.reduceLeDiff, Nat.reduceLT, Nat.reduceEqDiff, Nat.reduceBneDiff, Int.reduceLE, Int.reduceLT, Int.reduceToNat, Int.reduceBEq, Int.reduceBNe, Int.reduceAdd, Int.reduceSub, Int.cast_ofNat_Int]
    cases cA : decide (1000000 < p.slack) with
    | true =>
      have := bad (by simp only [cA, Bool.true_or, Bool.or_true])
      simp -implicitDefEqProofs only [this, go_sem, awp_seq, Nat.reduceBNe, Nat.reduceBEq, Nat.reduceAdd, Nat.reduceSub, Nat.reduceMul, Nat.reduceLeDiff, Nat.reduceLT, Nat.reduceEqDiff, Nat.reduceBneDiff, Int.reduceLE, Int.reduceLT, Int.reduceToNat, Int.reduceBEq, Int.reduceBNe, Int.reduceAdd, Int.reduceSub, Int.cast_ofNat_Int]
    | false =>
      have := good (by simp only [c1, c2, c3, c4, c5, c6, c7, c8, c9, cA, Bool.not_true, Bool.or_false, Bool.and_false, Bool.false_and])
      simp -implicitDefEqProofs only [this, go_sem, awp_seq, Nat.reduceBNe, Nat.reduceBEq, Nat.reduceAdd, Nat.reduceSub, Nat.reduceMul, Nat.reduceLeDiff, Nat.reduceLT, Nat.reduceEqDiff, Nat.reduceBneDiff, Int.reduceLE, Int.reduceLT, Int.reduceToNat, Int.reduceBEq, Int.reduceBNe, Int.reduceAdd, Int.reduceSub, Int.cast_ofNat_Int]
end Go.Proofs.YtfchbehmeppckaaGreat

/- Chapter 38: reasons to stop. INTS -/
set_option linter.unusedSimpArgs false
set_option linter.unusedVariables false
namespace Go.Proofs.YtfchbehmeppckaaGreat
open Go.RowKit Lim

def decE (p : PolV) (ws : List (List Nat)) : Int := if p.cut = 0 then 0 else clsE ws p.cut p.lv.z p.lv.d
def decV (p : PolV) (ws : List (List Nat)) : Bool := if p.cut = 0 then false else if clsE ws p.cut p.lv.z p.lv.d ≠ 0 then false else clsV ws p.cut p.lv.z p.lv.d != -1
section
theorem decided_c (p : PolV) (hp : POK p) (ws : List (List Nat)) (hw : WOK ws) (hl : ws.length < 3000000) : AC 33 [polA p, nats ws] (.tup [boo (decV p ws), i64 (decE p ws)]) := by
  unfold decV decE
  by_cases h1 : p.cut = 0
  · have g1 : (p.cut == 0) = true := by simp [h1]
    rw [if_pos h1, if_pos h1]
    refine ACalls.of ⟨8, []⟩ (fn := Tryz.f33) Tryz.func33 rfl rfl rfl (by kernel_rfl) (by kernel_rfl) (Nat.le_of_ble_eq_true rfl) ?_
    simp -implicitDefEqProofs only [g1, go_sem, awp_seq, Nat.reduceBNe, Nat.reduceBEq, Nat.reduceAdd, Nat.reduceSub, Nat.reduceMul, Nat.reduceLeDiff, Nat.reduceLT, Nat.reduceEqDiff, Nat.reduceBneDiff, Int.reduceLE, Int.reduceLT, Int.reduceToNat, Int.reduceBEq, Int.reduceBNe, Int.reduceAdd, Int.reduceSub, Int.cast_ofNat_Int]
  · have g1 : (p.cut == 0) = false := by simp [h1]
    rw [if_neg h1, if_neg h1]
    have hn := hp.lv.len
    have C := eclass_c hp.lv.isR (by omega) (by omega) ws p.cut hw hl
    generalize clsE ws p.cut p.lv.z p.lv.d = e at *
    generalize clsV ws p.cut p.lv.z p.lv.d = v at *
    by_cases h2 : e ≠ 0
    · have g2 : (e != 0) = true := by simpa using h2
      rw [if_pos h2]
      refine ACalls.of ⟨8, []⟩ (fn := Tryz.f33) Tryz.func33 rfl rfl rfl (by kernel_rfl) (by kernel_rfl) (Nat.le_of_ble_eq_true rfl) ?_
      simp -implicitDefEqProofs only [g1, go_sem, awp_seq, Nat.reduceBNe, Nat.reduceBEq, Nat.reduceAdd, Nat.reduceSub, Nat.reduceMul, Nat.reduceLeDiff, Nat.reduceLT, Nat.reduceEqDiff, Nat.reduceBneDiff, Int.reduceLE, Int.reduceLT, Int.reduceToNat, Int.reduceBEq, Int.reduceBNe, Int.reduceAdd, Int.reduceSub, Int.cast_ofNat_Int]
      refine callA_mk C ?_
      simp -implicitDefEqProofs only [g2, go_sem, awp_seq, Nat.reduceBNe, Nat.reduceBEq, Nat.reduceAdd, Nat.reduceSub, Nat.reduceMul, Nat.reduceLeDiff, Nat.reduceLT, Nat.reduceEqDiff, Nat.reduceBneDiff, Int.reduceLE, Int.reduceLT, Int.reduceToNat, Int.reduceBEq, Int.reduceBNe, Int.reduceAdd, Int.reduceSub, Int.cast_ofNat_Int]
    · have g2 : (e != 0) = false := by simpa using h2
      rw [if_neg h2]
      obtain rfl : e = 0 := by omega
      refine ACalls.of ⟨8, []⟩ (fn := Tryz.f33) Tryz.func33 rfl rfl rfl (by kernel_rfl) (by kernel_rfl) (Nat.le_of_ble_eq_true rfl) ?_
      simp -implicitDefEqProofs only [g1, go_sem, awp_seq, Nat.reduceBNe, Nat.reduceBEq, Nat.reduceAdd, Nat.reduceSub, Nat.reduceMul, Nat.reduceLeDiff, Nat.reduceLT, Nat.reduceEqDiff, Nat.reduceBneDiff, Int.reduceLE, Int.reduceLT, Int.reduceToNat, Int.reduceBEq, Int.reduceBNe, Int.reduceAdd, Int.reduceSub, Int.cast_ofNat_Int]
      refine callA_mk C ?_
      simp -implicitDefEqProofs only [g2, go_sem, awp_seq, Nat.reduceBNe, Nat.reduceBEq, Nat.reduceAdd, Nat.reduceSub, Nat.reduceMul, Nat.reduceLeDiff, Nat.reduceLT, Nat.reduceEqDiff, Nat.reduceBneDiff, Int.reduceLE, Int.reduceLT, Int.reduceToNat, Int.reduceBEq, Int.reduceBNe, Int.reduceAdd, Int.reduceSub, Int.cast_ofNat_Int]
def DecE (p : PolV) (ws : List (List Nat)) : Int := if polE p ≠ 0 then polE p else decE p ws
def DecV (p : PolV) (ws : List (List Nat)) : Bool := if polE p ≠ 0 then false else decV p ws
theorem Decided_c (p : PolV) (hp : POK p) (ws : List (List Nat)) (hw : WOK ws) (hl : ws.length < 3000000) : AC 14 [polA p, nats ws] (.tup [boo (DecV p ws), i64 (DecE p ws)]) := by
  have V := svalid_c p hp
  have D := decided_c p hp ws hw hl
  unfold DecV DecE
  by_cases h1 : polE p ≠ 0
  · have g1 : (polE p != 0) = true := by simpa using h1
    rw [if_pos h1, if_pos h1]
    refine ACalls.of ⟨7, []⟩ (fn := Tryz.f14) Tryz.func14 rfl rfl rfl (by kernel_rfl) (by kernel_rfl) (Nat.le_of_ble_eq_true rfl) ?_
    simp -implicitDefEqProofs only [go_sem, awp_seq, Nat.reduceBNe, Nat.reduceBEq, Nat.reduceAdd, Nat.reduceSub, Nat.reduceMul, Nat.reduceLeDiff, Nat.reduceLT, Nat.reduceEqDiff, Nat.reduceBneDiff, Int.reduceLE, Int.reduceLT, Int.reduceToNat, Int.reduceBEq, Int.reduceBNe, Int.reduceAdd, Int.reduceSub, Int.cast_ofNat_Int]
    refine callA_mk V ?_
    simp -implicitDefEqProofs only [g1, go_sem, awp_seq, Nat.reduceBNe, Nat.reduceBEq, Nat.reduceAdd, Nat.reduceSub, Nat.reduceMul, Nat.reduceLeDiff, Nat.reduceLT, Nat.reduceEqDiff, Nat.reduceBneDiff, Int.reduceLE, Int.reduceLT, Int.reduceToNat, Int.reduceBEq, Int.reduceBNe, Int.reduceAdd, Int.reduceSub, Int.cast_ofNat_Int]
  · have g1 : (polE p != 0) = false := by simpa using h1
    rw [if_neg h1, if_neg h1]
    refine ACalls.of ⟨7, []⟩ (fn := Tryz.f14) Tryz.func14 rfl rfl rfl (by kernel_rfl) (by kernel_rfl) (Nat.le_of_ble_eq_true rfl) ?_
    simp -implicitDefEqProofs only [go_sem, awp_seq, Nat.reduceBNe, Nat.reduceBEq, Nat.reduceAdd, Nat.reduceSub, Nat.reduceMul, Nat.reduceLeDiff, Nat.reduceLT, Nat.reduceEqDiff, Nat.reduceBneDiff, Int.reduceLE, Int.reduceLT, Int.reduceToNat, Int.reduceBEq, Int.reduceBNe, Int.reduceAdd, Int.reduceSub, Int.cast_ofNat_Int]
    refine callA_mk V ?_
    simp -implicitDefEqProofs only [g1, go_sem, awp_seq, Nat.reduceBNe, Nat.reduceBEq, Nat.reduceAdd, Nat.reduceSub, Nat.reduceMul, Nat.reduceLeDiff, Nat.reduceLT, Nat.reduceEqDiff, Nat.reduceBneDiff, Int.reduceLE, Int.reduceLT, Int.reduceToNat, Int.reduceBEq, Int.reduceBNe, Int.reduceAdd, Int.reduceSub, Int.cast_ofNat_Int]
    refine callA_mk D ?_
    simp -implicitDefEqProofs only [go_sem, awp_seq, Nat.reduceBNe, Nat.reduceBEq, Nat.reduceAdd, Nat.reduceSub, Nat.reduceMul, Nat.reduceLeDiff, Nat.reduceLT, Nat.reduceEqDiff, Nat.reduceBneDiff, Int.reduceLE, Int.reduceLT, Int.reduceToNat, Int.reduceBEq, Int.reduceBNe, Int.reduceAdd, Int.reduceSub, Int.cast_ofNat_Int]
/-- Whether the variance is small enough. -/
def lowB (p : PolV) (ws : List (List Nat)) : Bool := decide (0 < sgnI (pz p.v.z p.v.d)) && decide (cmpZ (varN p.pts ws * (pd p.v.d : Int)) (pz p.v.z p.v.d * (varD p.pts ws : Int)) ≤ 0)
def reasE (p : PolV) (n : Int) (ws : List (List Nat)) : Int :=
  if polE p ≠ 0 then polE p else if n < 0 then 3 else if varE p.pts p.prs ws ≠ 0 then varE p.pts p.prs ws else if p.len ≤ n then 0 else if n < p.min then 0 else if lowB p ws then 0 else decE p ws
def reasV (p : PolV) (n : Int) (ws : List (List Nat)) : Int :=
  if polE p ≠ 0 then 0 else if n < 0 then 0 else if varE p.pts p.prs ws ≠ 0 then 0 else if p.len ≤ n then 1 else if n < p.min then 0 else if lowB p ws then 2 else if decE p ws ≠ 0 then 0 else if decV p ws then 3 else 0
theorem var_cmp (p : PolV) (hp : POK p) (ws : List (List Nat)) (hw : WOK ws) (h : varE p.pts p.prs ws = 0) : AC 19 [ratN (rn (varN p.pts ws) (varD p.pts ws)) (rd (varN p.pts ws) (varD p.pts ws)), p.v.a] (i64 (cmpZ (varN p.pts ws * (pd p.v.d : Int)) (pz p.v.z p.v.d * (varD p.pts ws : Int)))) := by
  obtain ⟨h1, h2, h3⟩ := var_ok h
  obtain ⟨b0, b1, b2⟩ := mom_bounds hw h1
  have hN : mom f0 p.pts ws p.pts.length * mom f2 p.pts ws p.pts.length - mom f1 p.pts ws p.pts.length * mom f1 p.pts ws p.pts.length = varN p.pts ws := rfl
  have hD : (mom f0 p.pts ws p.pts.length * mom f0 p.pts ws p.pts.length).natAbs = varD p.pts ws := rfl
  have m1 := nlen_mulI (mom f0 p.pts ws p.pts.length) (mom f2 p.pts ws p.pts.length)
  have m2 := nlen_mulI (mom f1 p.pts ws p.pts.length) (mom f1 p.pts ws p.pts.length)
  have m3 := nlen_mulI (mom f0 p.pts ws p.pts.length) (mom f0 p.pts ws p.pts.length)
  have m4 := nlen_subI (mom f0 p.pts ws p.pts.length * mom f2 p.pts ws p.pts.length) (mom f1 p.pts ws p.pts.length * mom f1 p.pts ws p.pts.length)
  have hpos : 0 < varD p.pts ws := by
    rw [← hD]
    have := Int.mul_ne_zero h3 h3
    omega
  rw [hN] at m4
  rw [hD] at m3
  have p1 := nlen_rn (varN p.pts ws) (varD p.pts ws)
  have p2 := nlen_rd (varN p.pts ws) (varD p.pts ws)
  have q0 := rd_pos (varN p.pts ws) hpos
  have hn := hp.v.len
  have C := rcmp_c (isR (rn (varN p.pts ws) (varD p.pts ws)) (rd (varN p.pts ws) (varD p.pts ws)) (by omega) (by omega)) hp.v.isR (by omega) (by omega)
  rw [pz_pos _ q0, pd_id q0, (Eqv.norm (varN p.pts ws) hpos).cmp (Eqv.refl (pz p.v.z p.v.d) (pd_pos p.v.d))] at C
  exact C
set_option maxHeartbeats 1000000 in
theorem reason_c (p : PolV) (hp : POK p) (ws : List (List Nat)) (hw : WOK ws) (hl : ws.length < 3000000) (n : Int) : AC 12 [polA p, i64 n, nats ws] (.tup [i64 (reasV p n ws), i64 (reasE p n ws)]) := by
  have V := svalid_c p hp
  have D := decided_c p hp ws hw hl
  have R := evar_c p.pts p.prs ws hw
  have S := rsign_c hp.v.isR
  obtain ⟨z, d, ez⟩ := ratN_agg p.pts p.prs ws
  unfold reasV reasE
  by_cases h1 : polE p ≠ 0
  · have g1 : (polE p != 0) = true := by simpa using h1
    rw [if_pos h1, if_pos h1]
    refine ACalls.of ⟨12, []⟩ (fn := Tryz.f12) Tryz.func12 rfl rfl rfl (by kernel_rfl) (by kernel_rfl) (Nat.le_of_ble_eq_true rfl) ?_
    simp -implicitDefEqProofs only [go_sem, awp_seq, Nat.reduceBNe, Nat.reduceBEq, Nat.reduceAdd, Nat.reduceSub, Nat.reduceMul, Nat.reduceLeDiff, Nat.reduceLT, Nat.reduceEqDiff, Nat.reduceBneDiff, Int.reduceLE, Int.reduceLT, Int.reduceToNat, Int.reduceBEq, Int.reduceBNe, Int.reduceAdd, Int.reduceSub, Int.cast_ofNat_Int]
    refine callA_mk V ?_
    simp -implicitDefEqProofs only [g1, go_sem, awp_seq, Nat.reduceBNe, Nat.reduceBEq, Nat.reduceAdd, Nat.reduceSub, Nat.reduceMul, Nat.reduceLeDiff, Nat.reduceLT, Nat.reduceEqDiff, Nat.reduceBneDiff, Int.reduceLE, Int.reduceLT, Int.reduceToNat, Int.reduceBEq, Int.reduceBNe, Int.reduceAdd, Int.reduceSub, Int.cast_ofNat_Int]
  have g1 : (polE p != 0) = false := by simpa using h1
  rw [if_neg h1, if_neg h1]
  by_cases h2 : n < 0
  · have g2 : decide (n < 0) = true := by simp [h2]
    rw [if_pos h2, if_pos h2]
    refine ACalls.of ⟨12, []⟩ (fn := Tryz.f12) Tryz.func12 rfl rfl rfl (by kernel_rfl) (by kernel_rfl) (Nat.le_of_ble_eq_true rfl) ?_
    simp -implicitDefEqProofs only [go_sem, awp_seq, Nat.reduceBNe, Nat.reduceBEq, Nat.reduceAdd, Nat.reduceSub, Nat.reduceMul, Nat.reduceLeDiff, Nat.reduceLT, Nat.reduceEqDiff, Nat.reduceBneDiff, Int.reduceLE, Int.reduceLT, Int.reduceToNat, Int.reduceBEq, Int.reduceBNe, Int.reduceAdd, Int.reduceSub, Int.cast_ofNat_Int]
    refine callA_mk V ?_
    simp -implicitDefEqProofs only [g1, g2, go_sem, awp_seq, Nat.reduceBNe, Nat.reduceBEq, Nat.reduceAdd, Nat.reduceSub, Nat.reduceMul, Nat.reduceLeDiff, Nat.reduceLT, Nat.reduceEqDiff, Nat.reduceBneDiff, Int.reduceLE, Int.reduceLT, Int.reduceToNat, Int.reduceBEq, Int.reduceBNe, Int.reduceAdd, Int.reduceSub, Int.cast_ofNat_Int]
  have g2 : decide (n < 0) = false := by simp [h2]
  rw [if_neg h2, if_neg h2]
  by_cases h3 : varE p.pts p.prs ws ≠ 0
  · have g3 : (varE p.pts p.prs ws != 0) = true := by simpa using h3
    rw [if_pos h3, if_pos h3]
    rw [ez] at R
    refine ACalls.of ⟨12, []⟩ (fn := Tryz.f12) Tryz.func12 rfl rfl rfl (by kernel_rfl) (by kernel_rfl) (Nat.le_of_ble_eq_true rfl) ?_
    simp -implicitDefEqProofs only [go_sem, awp_seq, Nat.reduceBNe, Nat.reduceBEq, Nat.reduceAdd, Nat.reduceSub, Nat.reduceMul, Nat.reduceLeDiff, Nat.reduceLT, Nat.reduceEqDiff, Nat.reduceBneDiff, Int.reduceLE, Int.reduceLT, Int.reduceToNat, Int.reduceBEq, Int.reduceBNe, Int.reduceAdd, Int.reduceSub, Int.cast_ofNat_Int]
    refine callA_mk V ?_
    simp -implicitDefEqProofs only [g1, g2, go_sem, awp_seq, Nat.reduceBNe, Nat.reduceBEq, Nat.reduceAdd, Nat.reduceSub, Nat.reduceMul, Nat.reduceLeDiff, Nat.reduceLT, Nat.reduceEqDiff, Nat.reduceBneDiff, Int.reduceLE, Int.reduceLT, Int.reduceToNat, Int.reduceBEq, Int.reduceBNe, Int.reduceAdd, Int.reduceSub, Int.cast_ofNat_Int]
    refine callA_mk R ?_
    simp -implicitDefEqProofs only [g3, go_sem, awp_seq, Nat.reduceBNe, Nat.reduceBEq, Nat.reduceAdd, Nat.reduceSub, Nat.reduceMul, Nat.reduceLeDiff, Nat.reduceLT, Nat.reduceEqDiff, Nat.reduceBneDiff, Int.reduceLE, Int.reduceLT, Int.reduceToNat, Int.reduceBEq, Int.reduceBNe, Int.reduceAdd, Int.reduceSub, Int.cast_ofNat_Int]
  have h3' : varE p.pts p.prs ws = 0 := by omega
  rw [if_neg h3, if_neg h3]
  have C := var_cmp p hp ws hw h3'
  rw [show varR p.pts p.prs ws = ratN (rn (varN p.pts ws) (varD p.pts ws)) (rd (varN p.pts ws) (varD p.pts ws)) by unfold varR; rw [if_pos h3'], h3'] at R
  unfold lowB
  generalize rn (varN p.pts ws) (varD p.pts ws) = X at *
  generalize rd (varN p.pts ws) (varD p.pts ws) = Y at *
  generalize cmpZ (varN p.pts ws * (pd p.v.d : Int)) (pz p.v.z p.v.d * (varD p.pts ws : Int)) = cv at *
  generalize sgnI (pz p.v.z p.v.d) = sv at *
  generalize decE p ws = de at *
  generalize decV p ws = dv at *
  refine ACalls.of ⟨12, []⟩ (fn := Tryz.f12) Tryz.func12 rfl rfl rfl (by kernel_rfl) (by kernel_rfl) (Nat.le_of_ble_eq_true rfl) ?_
  simp -implicitDefEqProofs only [go_sem, awp_seq, Nat.reduceBNe, Nat.reduceBEq, Nat.reduceAdd, Nat.reduceSub, Nat.reduceMul, Nat.reduceLeDiff, Nat.reduceLT, Nat.reduceEqDiff, Nat.reduceBneDiff, Int.reduceLE, Int.reduceLT, Int.reduceToNat, Int.reduceBEq, Int.reduceBNe, Int.reduceAdd, Int.reduceSub, Int.cast_ofNat_Int]
  refine callA_mk V ?_
  simp -implicitDefEqProofs only [g1, g2, go_sem, awp_seq, Nat.reduceBNe, Nat.reduceBEq, Nat.reduceAdd, Nat.reduceSub, Nat.reduceMul, Nat.reduceLeDiff, Nat.reduceLT, Nat.reduceEqDiff, Nat.reduceBneDiff, Int.reduceLE, Int.reduceLT, Int.reduceToNat, Int.reduceBEq, Int.reduceBNe, Int.reduceAdd, Int.reduceSub, Int.cast_ofNat_Int]
  refine callA_mk R ?_
  simp -implicitDefEqProofs only [bne_self_eq_false, go_sem, awp_seq, Nat.reduceBNe, Nat.reduceBEq, Nat.reduceAdd, Nat.reduceSub, Nat.reduceMul, Nat.reduceLeDiff, Nat.reduceLT, Nat.reduceEqDiff, Nat.reduceBneDiff, Int.reduceLE, Int.reduceLT, Int.reduceToNat, Int.reduceBEq, Int.reduceBNe, Int.reduceAdd, Int.reduceSub, Int.cast_ofNat_Int]
  by_cases h4 : p.len ≤ n
  · have g4 : decide (p.len ≤ n) = true := by simp [h4]
    simp -implicitDefEqProofs only [g4, if_pos h4, go_sem, awp_seq, Nat.reduceBNe, Nat.reduceBEq, Nat.reduceAdd, Nat.reduceSub, Nat.reduceMul, Nat.reduceLeDiff, Nat.reduceLT, Nat.reduceEqDiff, Nat.reduceBneDiff, Int.reduceLE, Int.reduceLT, Int.reduceToNat, Int.reduceBEq, Int.reduceBNe, Int.reduceAdd, Int.reduceSub, Int.cast_ofNat_Int]
  have g4 : decide (p.len ≤ n) = false := by simp [h4]
  simp -implicitDefEqProofs only [g4, if_neg h4, go_sem, awp_seq, Nat.reduceBNe, Nat.reduceBEq, Nat.reduceAdd, Nat.reduceSub, Nat.reduceMul, Nat.reduceLeDiff, Nat.reduceLT, Nat.reduceEqDiff, Nat.reduceBneDiff, Int.reduceLE, Int.reduceLT, Int.reduceToNat, Int.reduceBEq, Int.reduceBNe, Int.reduceAdd, Int.reduceSub, Int.cast_ofNat_Int]
  by_cases h5 : n < p.min
  · have g5 : decide (n < p.min) = true := by simp [h5]
    simp -implicitDefEqProofs only [g5, if_pos h5, go_sem, awp_seq, Nat.reduceBNe, Nat.reduceBEq, Nat.reduceAdd, Nat.reduceSub, Nat.reduceMul, Nat.reduceLeDiff, Nat.reduceLT, Nat.reduceEqDiff, Nat.reduceBneDiff, Int.reduceLE, Int.reduceLT, Int.reduceToNat, Int.reduceBEq, Int.reduceBNe, Int.reduceAdd, Int.reduceSub, Int.cast_ofNat_Int]
  have g5 : decide (n < p.min) = false := by simp [h5]
  simp -implicitDefEqProofs only [g5, if_neg h5, go_sem, awp_seq, Nat.reduceBNe, Nat.reduceBEq, Nat.reduceAdd, Nat.reduceSub, Nat.reduceMul, Nat.reduceLeDiff, Nat.reduceLT, Nat.reduceEqDiff, Nat.reduceBneDiff, Int.reduceLE, Int.reduceLT, Int.reduceToNat, Int.reduceBEq, Int.reduceBNe, Int.reduceAdd, Int.reduceSub, Int.cast_ofNat_Int]
  refine callA_mk S ?_
  cases c1 : decide (0 < sv) with
  | true =>
    simp -implicitDefEqProofs only [c1, go_sem, awp_seq, Nat.reduceBNe, Nat.reduceBEq, Nat.reduceAdd, Nat.reduceSub, Nat.reduceMul, Nat.reduceLeDiff, Nat.reduceLT, Nat.reduceEqDiff, Nat.reduceBneDiff, Int.reduceLE, Int.reduceLT, Int.reduceToNat, Int.reduceBEq, Int.reduceBNe, Int.reduceAdd, Int.reduceSub, Int.cast_ofNat_Int]
    refine callA_mk C ?_
    cases c2 : decide (cv ≤ 0) with
    | true => simp -implicitDefEqProofs only [c2, Bool.and_self, if_true, go_sem, awp_seq, Nat.reduceBNe, Nat.reduceBEq, Nat.reduceAdd, Nat.reduceSub, Nat.reduceMul, Nat.reduceLeDiff, Nat.reduceLT, Nat.reduceEqDiff, Nat.reduceBneDiff, Int.reduceLE, Int.reduceLT, Int.reduceToNat, Int.reduceBEq, Int.reduceBNe, Int.reduceAdd, Int.reduceSub, Int.cast_ofNat_Int]
    | false =>
      simp -implicitDefEqProofs only [c2, go_sem, awp_seq, Nat.reduceBNe, Nat.reduceBEq, Nat.reduceAdd, Nat.reduceSub, Nat.reduceMul, Nat.reduceLeDiff, Nat.reduceLT, Nat.reduceEqDiff, Nat.reduceBneDiff, Int.reduceLE, Int.reduceLT, Int.reduceToNat, Int.reduceBEq, Int.reduceBNe, Int.reduceAdd, Int.reduceSub, Int.cast_ofNat_Int]
      refine callA_mk D ?_
      by_cases h6 : de ≠ 0
      · have g6 : (de != 0) = true := by simpa using h6
        simp -implicitDefEqProofs only [g6, if_pos h6, Bool.false_eq_true, if_false, go_sem, awp_seq, Nat.reduceBNe, Nat.reduceBEq, Nat.reduceAdd, Nat.reduceSub, Nat.reduceMul, Nat.reduceLeDiff, Nat.reduceLT, Nat.reduceEqDiff, Nat.reduceBneDiff, Int.reduceLE, Int.reduceLT, Int.reduceToNat, Int.reduceBEq, Int.reduceBNe, Int.reduceAdd, Int.reduceSub, Int.cast_ofNat_Int]
      · have g6 : (de != 0) = false := by simpa using h6
        obtain rfl : de = 0 := by omega
        cases dv with
        | true => simp -implicitDefEqProofs only [g6, if_neg h6, not_true_eq_false, Bool.false_eq_true, if_false, if_true, go_sem, awp_seq, Nat.reduceBNe, Nat.reduceBEq, Nat.reduceAdd, Nat.reduceSub, Nat.reduceMul, Nat.reduceLeDiff, Nat.reduceLT, Nat.reduceEqDiff, Nat.reduceBneDiff, Int.reduceLE, Int.reduceLT, Int.reduceToNat, Int.reduceBEq, Int.reduceBNe, Int.reduceAdd, Int.reduceSub, Int.cast_ofNat_Int]
        | false => simp -implicitDefEqProofs only [g6, if_neg h6, not_true_eq_false, Bool.false_eq_true, if_false, go_sem, awp_seq, Nat.reduceBNe, Nat.reduceBEq, Nat.reduceAdd, Nat.reduceSub, Nat.reduceMul, Nat.reduceLeDiff, Nat.reduceLT, Nat.reduceEqDiff, Nat.reduceBneDiff, Int.reduceLE, Int.reduceLT, Int.reduceToNat, Int.reduceBEq, Int.reduceBNe, Int.reduceAdd, Int.reduceSub, Int.cast_ofNat_Int]
  | false =>
    simp -implicitDefEqProofs only [c1, go_sem, awp_seq, Nat.reduceBNe, Nat.reduceBEq, Nat.reduceAdd, Nat.reduceSub, Nat.reduceMul, Nat.reduceLeDiff, Nat.reduceLT, Nat.reduceEqDiff, Nat.reduceBneDiff, Int.reduceLE, Int.reduceLT, Int.reduceToNat, Int.reduceBEq, Int.reduceBNe, Int.reduceAdd, Int.reduceSub, Int.cast_ofNat_Int]
    refine callA_mk D ?_
    by_cases h6 : de ≠ 0
    · have g6 : (de != 0) = true := by simpa using h6
      simp -implicitDefEqProofs only [g6, if_pos h6, Bool.false_eq_true, if_false, Bool.false_and, go_sem, awp_seq, Nat.reduceBNe, Nat.reduceBEq, Nat.reduceAdd, Nat.reduceSub, Nat.reduceMul, Nat.reduceLeDiff, Nat.reduceLT, Nat.reduceEqDiff, Nat.reduceBneDiff, Int.reduceLE, Int.reduceLT, Int.reduceToNat, Int.reduceBEq, Int.reduceBNe, Int.reduceAdd, Int.reduceSub, Int.cast_ofNat_Int]
    · have g6 : (de != 0) = false := by simpa using h6
      obtain rfl : de = 0 := by omega
      cases dv with
      | true => simp -implicitDefEqProofs only [g6, if_neg h6, not_true_eq_false, Bool.false_eq_true, if_false, if_true, Bool.false_and, go_sem, awp_seq, Nat.reduceBNe, Nat.reduceBEq, Nat.reduceAdd, Nat.reduceSub, Nat.reduceMul, Nat.reduceLeDiff, Nat.reduceLT, Nat.reduceEqDiff, Nat.reduceBneDiff, Int.reduceLE, Int.reduceLT, Int.reduceToNat, Int.reduceBEq, Int.reduceBNe, Int.reduceAdd, Int.reduceSub, Int.cast_ofNat_Int]
      | false => simp -implicitDefEqProofs only [g6, if_neg h6, not_true_eq_false, Bool.false_eq_true, if_false, Bool.false_and, go_sem, awp_seq, Nat.reduceBNe, Nat.reduceBEq, Nat.reduceAdd, Nat.reduceSub, Nat.reduceMul, Nat.reduceLeDiff, Nat.reduceLT, Nat.reduceEqDiff, Nat.reduceBneDiff, Int.reduceLE, Int.reduceLT, Int.reduceToNat, Int.reduceBEq, Int.reduceBNe, Int.reduceAdd, Int.reduceSub, Int.cast_ofNat_Int]
end
/-- What 'First' returns from response i on. -/
def firstS (p : PolV) : Nat → List (List (List Nat)) → Int × Int × Int
  | _, [] => (0, 0, 0)
  | i, w :: rest => if reasE p ((i + 1 : Nat) : Int) w ≠ 0 then (0, 0, reasE p ((i + 1 : Nat) : Int) w) else if reasV p ((i + 1 : Nat) : Int) w ≠ 0 then (((i + 1 : Nat) : Int), reasV p ((i + 1 : Nat) : Int) w, 0) else firstS p (i + 1) rest
def firstR (p : PolV) (wss : List (List (List Nat))) : Int × Int × Int := if polE p ≠ 0 then (0, 0, polE p) else if 18 < wss.length then (0, 0, 5) else firstS p 0 wss
def W3 (wss : List (List (List Nat))) : Prop := ∀ ws ∈ wss, WOK ws ∧ ws.length < 3000000
abbrev natss (wss : List (List (List Nat))) : AV := .sl 1 (wss.map (fun ws => nats ws))
abbrev tri (r : Int × Int × Int) : AV := .tup [i64 r.1, i64 r.2.1, i64 r.2.2]
set_option maxHeartbeats 1000000 in
theorem first_c (p : PolV) (hp : POK p) (wss : List (List (List Nat))) (hw : W3 wss) : AC 16 [polA p, natss wss] (tri (firstR p wss)) := by
  have V := svalid_c p hp
  unfold firstR
  by_cases h1 : polE p ≠ 0
  · have g1 : (polE p != 0) = true := by simpa using h1
    rw [if_pos h1]
    refine ACalls.of ⟨23, []⟩ (fn := Tryz.f16) Tryz.func16 rfl rfl rfl (by kernel_rfl) (by kernel_rfl) (Nat.le_of_ble_eq_true rfl) ?_
    simp -implicitDefEqProofs only [go_sem, awp_seq, Nat.reduceBNe, Nat.reduceBEq, Nat.reduceAdd, Nat.reduceSub, Nat.reduceMul, Nat.reduceLeDiff, Nat.reduceLT, Nat.reduceEqDiff, Nat.reduceBneDiff, Int.reduceLE, Int.reduceLT, Int.reduceToNat, Int.reduceBEq, Int.reduceBNe, Int.reduceAdd, Int.reduceSub, Int.cast_ofNat_Int]
    refine callA_mk V ?_
    simp -implicitDefEqProofs only [g1, go_sem, awp_seq, Nat.reduceBNe, Nat.reduceBEq, Nat.reduceAdd, Nat.reduceSub, Nat.reduceMul, Nat.reduceLeDiff, Nat.reduceLT, Nat.reduceEqDiff, Nat.reduceBneDiff, Int.reduceLE, Int.reduceLT, Int.reduceToNat, Int.reduceBEq, Int.reduceBNe, Int.reduceAdd, Int.reduceSub, Int.cast_ofNat_Int]
  have g1 : (polE p != 0) = false := by simpa using h1
  rw [if_neg h1]
  by_cases h2 : 18 < wss.length
  · have g2 : decide ((18 : Int) < (wss.length : Nat)) = true := by simp; omega
    rw [if_pos h2]
    refine ACalls.of ⟨23, []⟩ (fn := Tryz.f16) Tryz.func16 rfl rfl rfl (by kernel_rfl) (by kernel_rfl) (Nat.le_of_ble_eq_true rfl) ?_
    simp -implicitDefEqProofs only [go_sem, awp_seq, Nat.reduceBNe, Nat.reduceBEq, Nat.reduceAdd, Nat.reduceSub, Nat.reduceMul, Nat.reduceLeDiff, Nat.reduceLT, Nat.reduceEqDiff, Nat.reduceBneDiff, Int.reduceLE, Int.reduceLT, Int.reduceToNat, Int.reduceBEq, Int.reduceBNe, Int.reduceAdd, Int.reduceSub, Int.cast_ofNat_Int]
    refine callA_mk V ?_
    simp -implicitDefEqProofs only [g1, g2, List.length_map, go_sem, awp_seq, Nat.reduceBNe, Nat.reduceBEq, Nat.reduceAdd, Nat.reduceSub, Nat.reduceMul, Nat.reduceLeDiff, Nat.reduceLT, Nat.reduceEqDiff, Nat.reduceBneDiff, Int.reduceLE, Int.reduceLT, Int.reduceToNat, Int.reduceBEq, Int.reduceBNe, Int.reduceAdd, Int.reduceSub, Int.cast_ofNat_Int]
  have g2 : decide ((18 : Int) < (wss.length : Nat)) = false := by simp; omega
  rw [if_neg h2]
  obtain ⟨R, hR⟩ : ∃ R, R = firstS p 0 wss := ⟨_, rfl⟩
  rw [← hR]
  refine ACalls.of ⟨23, []⟩ (fn := Tryz.f16) Tryz.func16 rfl rfl rfl (by kernel_rfl) (by kernel_rfl) (Nat.le_of_ble_eq_true rfl) ?_
  simp -implicitDefEqProofs only [go_sem, awp_seq, Nat.reduceBNe, Nat.reduceBEq, Nat.reduceAdd, Nat.reduceSub, Nat.reduceMul, Nat.reduceLeDiff, Nat.reduceLT, Nat.reduceEqDiff, Nat.reduceBneDiff, Int.reduceLE, Int.reduceLT, Int.reduceToNat, Int.reduceBEq, Int.reduceBNe, Int.reduceAdd, Int.reduceSub, Int.cast_ofNat_Int]
  refine callA_mk V ?_
  simp -implicitDefEqProofs only [g1, g2, List.length_map, go_sem, awp_seq, Nat.reduceBNe, Nat.reduceBEq, Nat.reduceAdd, Nat.reduceSub, Nat.reduceMul, Nat.reduceLeDiff, Nat.reduceLT, Nat.reduceEqDiff, Nat.reduceBneDiff, Int.reduceLE, Int.reduceLT, Int.reduceToNat, Int.reduceBEq, Int.reduceBNe, Int.reduceAdd, Int.reduceSub, Int.cast_ofNat_Int]
  refine loop_mk (α := {k : Nat // k ≤ wss.length ∧ R = firstS p k (wss.drop k)}) (fun k => [(0, some (.av (polA p))), (1, some (.av (natss wss))), (2, some (.ref 2 0)), (4, some (.av (i64 0))), (5, some (.av (i64 0))), (6, some (.av (i64 0))), (20, some (.av (natss wss))), (21, some (.av (i64 (wss.length : Nat)))), (22, some (.av (i64 (k.1 : Nat))))]) (fun _ => [(2, polC p)]) (fun _ => []) (fun k => wss.length - k.1) ⟨0, Nat.zero_le _, hR⟩ ?_ ?_
  · simp -implicitDefEqProofs only [go_sem, awp_seq, Nat.reduceBNe, Nat.reduceBEq, Nat.reduceAdd, Nat.reduceSub, Nat.reduceMul, Nat.reduceLeDiff, Nat.reduceLT, Nat.reduceEqDiff, Nat.reduceBneDiff, Int.reduceLE, Int.reduceLT, Int.reduceToNat, Int.reduceBEq, Int.reduceBNe, Int.reduceAdd, Int.reduceSub, Int.cast_ofNat_Int]
  · clear hR
    rintro ⟨k, hk, hR⟩
    by_cases hlt : k < wss.length
    · have q1 : decide (((k : Nat) : Int) < (wss.length : Nat)) = true := by simp; omega
      have e1 := map_get (fun ws => nats ws) wss hlt
      have w1 : IntKind.i64.wrap ((k : Int) + 1) = ((k + 1 : Nat) : Int) := by rw [IntWalk.i64_in _ (by omega)]; omega
      rw [List.drop_eq_getElem_cons hlt] at hR
      obtain ⟨hw1, hw2⟩ := hw _ (List.getElem_mem hlt)
      generalize wss[k] = ws at *
      have C := reason_c p hp ws hw1 hw2 ((k + 1 : Nat) : Int)
      unfold firstS at hR
      generalize reasE p ((k + 1 : Nat) : Int) ws = e at *
      generalize reasV p ((k + 1 : Nat) : Int) ws = v at *
      by_cases h3 : e ≠ 0
      · have g3 : (e != 0) = true := by simpa using h3
        rw [if_pos h3] at hR
        subst hR
        simp -implicitDefEqProofs only [q1, e1, w1, Int.toNat_natCast, Int.natCast_nonneg, go_sem, awp_seq, Nat.reduceBNe, Nat.reduceBEq, Nat.reduceAdd, Nat.reduceSub, Nat.reduceMul, Nat.reduceLeDiff, Nat.reduceLT, Nat.reduceEqDiff, Nat.reduceBneDiff, Int.reduceLE, Int.reduceLT, Int.reduceToNat, Int.reduceBEq, Int.reduceBNe, Int.reduceAdd, Int.reduceSub, Int.cast_ofNat_Int]
        refine callA_mk C ?_
        simp -implicitDefEqProofs only [g3, go_sem, awp_seq, Nat.reduceBNe, Nat.reduceBEq, Nat.reduceAdd, Nat.reduceSub, Nat.reduceMul, Nat.reduceLeDiff, Nat.reduceLT, Nat.reduceEqDiff, Nat.reduceBneDiff, Int.reduceLE, Int.reduceLT, Int.reduceToNat, Int.reduceBEq, Int.reduceBNe, Int.reduceAdd, Int.reduceSub, Int.cast_ofNat_Int]
      · have g3 : (e != 0) = false := by simpa using h3
        obtain rfl : e = 0 := by omega
        rw [if_neg h3] at hR
        by_cases h4 : v ≠ 0
        · have g4 : (v != 0) = true := by simpa using h4
          rw [if_pos h4] at hR
          subst hR
          simp -implicitDefEqProofs only [q1, e1, w1, Int.toNat_natCast, Int.natCast_nonneg, go_sem, awp_seq, Nat.reduceBNe, Nat.reduceBEq, Nat.reduceAdd, Nat.reduceSub, Nat.reduceMul, Nat.reduceLeDiff, Nat.reduceLT, Nat.reduceEqDiff, Nat.reduceBneDiff, Int.reduceLE, Int.reduceLT, Int.reduceToNat, Int.reduceBEq, Int.reduceBNe, Int.reduceAdd, Int.reduceSub, Int.cast_ofNat_Int]
          refine callA_mk C ?_
          simp -implicitDefEqProofs only [g3, g4, w1, go_sem, awp_seq, Nat.reduceBNe, Nat.reduceBEq, Nat.reduceAdd, Nat.reduceSub, Nat.reduceMul, Nat.reduceLeDiff, Nat.reduceLT, Nat.reduceEqDiff, Nat.reduceBneDiff, Int.reduceLE, Int.reduceLT, Int.reduceToNat, Int.reduceBEq, Int.reduceBNe, Int.reduceAdd, Int.reduceSub, Int.cast_ofNat_Int]
        · have g4 : (v != 0) = false := by simpa using h4
          rw [if_neg h4] at hR
          simp -implicitDefEqProofs only [q1, e1, w1, Int.toNat_natCast, Int.natCast_nonneg, go_sem, awp_seq, Nat.reduceBNe, Nat.reduceBEq, Nat.reduceAdd, Nat.reduceSub, Nat.reduceMul, Nat.reduceLeDiff, Nat.reduceLT, Nat.reduceEqDiff, Nat.reduceBneDiff, Int.reduceLE, Int.reduceLT, Int.reduceToNat, Int.reduceBEq, Int.reduceBNe, Int.reduceAdd, Int.reduceSub, Int.cast_ofNat_Int]
          refine callA_mk C ?_
          simp -implicitDefEqProofs only [g3, g4, w1, go_sem, awp_seq, Nat.reduceBNe, Nat.reduceBEq, Nat.reduceAdd, Nat.reduceSub, Nat.reduceMul, Nat.reduceLeDiff, Nat.reduceLT, Nat.reduceEqDiff, Nat.reduceBneDiff, Int.reduceLE, Int.reduceLT, Int.reduceToNat, Int.reduceBEq, Int.reduceBNe, Int.reduceAdd, Int.reduceSub, Int.cast_ofNat_Int]
          refine roundK_mk ⟨k + 1, by omega, hR⟩ ?_ (by show wss.length - (k + 1) < wss.length - k; omega)
          simp -implicitDefEqProofs only [go_sem, awp_seq, Nat.reduceBNe, Nat.reduceBEq, Nat.reduceAdd, Nat.reduceSub, Nat.reduceMul, Nat.reduceLeDiff, Nat.reduceLT, Nat.reduceEqDiff, Nat.reduceBneDiff, Int.reduceLE, Int.reduceLT, Int.reduceToNat, Int.reduceBEq, Int.reduceBNe, Int.reduceAdd, Int.reduceSub, Int.cast_ofNat_Int]
    · have q1 : decide (((k : Nat) : Int) < (wss.length : Nat)) = false := by simp; omega
      rw [List.drop_of_length_le (by omega)] at hR
      have hR : R = (0, 0, 0) := hR
      subst hR
      simp -implicitDefEqProofs only [q1, go_sem, awp_seq, Nat.reduceBNe, Nat.reduceBEq, Nat.reduceAdd, Nat.reduceSub, Nat.reduceMul, Nat.reduceLeDiff, Nat.reduceLT, Nat.reduceEqDiff, Nat.reduceBneDiff, Int.reduceLE, Int.reduceLT, Int.reduceToNat, Int.reduceBEq, Int.reduceBNe, Int.reduceAdd, Int.reduceSub, Int.cast_ofNat_Int]
end Go.Proofs.YtfchbehmeppckaaGreat
