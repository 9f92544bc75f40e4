import Derived.Test.YtfchbehmeppckaaGreatP3
import Derived.Deep.DeepHandedRow
import Derived.Deep.DeepWitnessRowRef
import Derived.Lib.LaidTab
import Derived.Stop.LaidErr
import Derived.ChangeMaps5
/- Texts merged: Wt4 Wt5 WSq. -/
/- Chapter 38: grids and policies in the reference. INTS -/
set_option linter.unusedSimpArgs false
set_option linter.unusedVariables false
namespace Go.Proofs.YtfchbehmeppckaaGreat
open Go.RowKit Lim

theorem valid18_c (pts prs : List Int) : AT 25 [gridA pts prs] (i64 (gridE pts prs)) := by
  by_cases h1 : 21 < pts.length
  · have f1 : decide ((21 : Int) < (pts.length : Nat)) = true := by simp; omega
    have e : gridE pts prs = 5 := by unfold gridE; rw [if_pos h1]
    rw [e]
    refine ACalls.of ⟨6, []⟩ (fn := Tryz.f25) Tryz.func25 rfl rfl rfl (by kernel_rfl) (by kernel_rfl) (Nat.le_of_ble_eq_true rfl) ?_
    simp -implicitDefEqProofs only [List.length_map, f1, go_sem, awp_seq, Nat.reduceBNe, Nat.reduceBEq, Nat.reduceAdd, Nat.reduceSub, Nat.reduceMul, Nat.reduceLeDiff, Nat.reduceLT, Nat.reduceEqDiff, Nat.reduceBneDiff, Int.reduceLE, Int.reduceLT, Int.reduceToNat, Int.reduceBEq, Int.reduceBNe, Int.reduceAdd, Int.reduceSub, Int.cast_ofNat_Int]
  have f1 : decide ((21 : Int) < (pts.length : Nat)) = false := by simp; omega
  by_cases h2 : pts.length = 0
  · have e : gridE pts prs = 20 := by unfold gridE; rw [if_neg h1, if_pos h2]
    have f2 : (((pts.length : Nat) : Int) == 0) = true := by rw [h2]; rfl
    rw [e]
    refine ACalls.of ⟨6, []⟩ (fn := Tryz.f25) Tryz.func25 rfl rfl rfl (by kernel_rfl) (by kernel_rfl) (Nat.le_of_ble_eq_true rfl) ?_
    simp -implicitDefEqProofs only [List.length_map, f1, f2, go_sem, awp_seq, Nat.reduceBNe, Nat.reduceBEq, Nat.reduceAdd, Nat.reduceSub, Nat.reduceMul, Nat.reduceLeDiff, Nat.reduceLT, Nat.reduceEqDiff, Nat.reduceBneDiff, Int.reduceLE, Int.reduceLT, Int.reduceToNat, Int.reduceBEq, Int.reduceBNe, Int.reduceAdd, Int.reduceSub, Int.cast_ofNat_Int]
  have f2 : (((pts.length : Nat) : Int) == 0) = false := by rw [beq_eq_false_iff_ne]; omega
  by_cases h3 : prs.length ≠ pts.length
  · have e : gridE pts prs = 1 := by unfold gridE; rw [if_neg h1, if_neg h2, if_pos h3]
    have f3 : (((prs.length : Nat) : Int) != (pts.length : Nat)) = true := by rw [bne_iff_ne]; omega
    rw [e]
    refine ACalls.of ⟨6, []⟩ (fn := Tryz.f25) Tryz.func25 rfl rfl rfl (by kernel_rfl) (by kernel_rfl) (Nat.le_of_ble_eq_true rfl) ?_
    simp -implicitDefEqProofs only [List.length_map, f1, f2, f3, go_sem, awp_seq, Nat.reduceBNe, Nat.reduceBEq, Nat.reduceAdd, Nat.reduceSub, Nat.reduceMul, Nat.reduceLeDiff, Nat.reduceLT, Nat.reduceEqDiff, Nat.reduceBneDiff, Int.reduceLE, Int.reduceLT, Int.reduceToNat, Int.reduceBEq, Int.reduceBNe, Int.reduceAdd, Int.reduceSub, Int.cast_ofNat_Int]
  have h3' : prs.length = pts.length := by omega
  have f3 : (((prs.length : Nat) : Int) != (pts.length : Nat)) = false := by rw [h3']; simp
  have bad : ∀ k, k < pts.length → inR (pts.getD k 0) (prs.getD k 0) = false → gridE pts prs = 3 := fun k hk hb => by
    unfold gridE
    rw [if_neg h1, if_neg h2, if_neg h3, if_neg]
    intro hc
    have := List.all_eq_true.1 hc k (List.mem_range.2 hk)
    rw [hb] at this
    cases this
  refine ACalls.of ⟨6, []⟩ (fn := Tryz.f25) Tryz.func25 rfl rfl rfl (by kernel_rfl) (by kernel_rfl) (Nat.le_of_ble_eq_true rfl) ?_
  simp -implicitDefEqProofs only [List.length_map, f1, f2, f3, go_sem, awp_seq, Nat.reduceBNe, Nat.reduceBEq, Nat.reduceAdd, Nat.reduceSub, Nat.reduceMul, Nat.reduceLeDiff, Nat.reduceLT, Nat.reduceEqDiff, Nat.reduceBneDiff, Int.reduceLE, Int.reduceLT, Int.reduceToNat, Int.reduceBEq, Int.reduceBNe, Int.reduceAdd, Int.reduceSub, Int.cast_ofNat_Int]
  refine loop_mk (α := {k : Nat // k ≤ pts.length ∧ ∀ i, i < k → inR (pts.getD i 0) (prs.getD i 0) = true}) (fun k => [(0, some (.av (gridA pts prs))), (1, some (.ref 1 0)), (2, some (.av (i64 0))), (3, some (.av (i64 (pts.length : Nat)))), (4, some (.av (i64 (k.1 : Nat))))]) (fun _ => [(1, [ints pts, ints prs])]) (fun _ => []) (fun k => pts.length - k.1) ⟨0, Nat.zero_le _, fun i hi => by omega⟩ ?_ ?_
  · simp -implicitDefEqProofs only [go_sem, awp_seq, Nat.reduceBNe, Nat.reduceBEq, Nat.reduceAdd, Nat.reduceSub, Nat.reduceMul, Nat.reduceLeDiff, Nat.reduceLT, Nat.reduceEqDiff, Nat.reduceBneDiff, Int.reduceLE, Int.reduceLT, Int.reduceToNat, Int.reduceBEq, Int.reduceBNe, Int.reduceAdd, Int.reduceSub, Int.cast_ofNat_Int]
  · rintro ⟨k, hk, hall⟩
    by_cases hlt : k < pts.length
    · have g1 : decide (((k : Nat) : Int) < (pts.length : Nat)) = true := by simp; omega
      have e1 := map_get (fun x => i64 x) pts hlt
      have e2 := map_get (fun x => i64 x) prs (show k < prs.length by omega)
      have d1 := getD_get pts hlt
      have d2 := getD_get prs (show k < prs.length by omega)
      have w1 : IntKind.i64.wrap ((k : Int) + 1) = ((k + 1 : Nat) : Int) := by rw [IntWalk.i64_in _ (by omega)]; omega
      have b0 := bad k hlt
      rw [d1, d2] at b0
      generalize pts[k] = p at *
      generalize prs[k] = r at *
      cases c1 : decide (p < -1000) with
      | true =>
        have e := b0 (by simp [inR, c1])
        simp -implicitDefEqProofs only [g1, e1, e2, c1, e, Int.toNat_natCast, Int.natCast_nonneg, go_sem, awp_seq, Nat.reduceBNe, Nat.reduceBEq, Nat.reduceAdd, Nat.reduceSub, Nat.reduceMul, Nat.reduceLeDiff, Nat.reduceLT, Nat.reduceEqDiff, Nat.reduceBneDiff, Int.reduceLE, Int.reduceLT, Int.reduceToNat, Int.reduceBEq, Int.reduceBNe, Int.reduceAdd, Int.reduceSub, Int.cast_ofNat_Int]
      | false =>
        cases c2 : decide (1000 < p) with
        | true =>
          have e := b0 (by simp [inR, c2])
          simp -implicitDefEqProofs only [g1, e1, e2, c1, c2, e, Int.toNat_natCast, Int.natCast_nonneg, go_sem, awp_seq, Nat.reduceBNe, Nat.reduceBEq, Nat.reduceAdd, Nat.reduceSub, Nat.reduceMul, Nat.reduceLeDiff, Nat.reduceLT, Nat.reduceEqDiff, Nat.reduceBneDiff, Int.reduceLE, Int.reduceLT, Int.reduceToNat, Int.reduceBEq, Int.reduceBNe, Int.reduceAdd, Int.reduceSub, Int.cast_ofNat_Int]
        | false =>
          cases c3 : decide (r < 1) with
          | true =>
            have e := b0 (by simp [inR, c3])
            simp -implicitDefEqProofs only [g1, e1, e2, c1, c2, c3, e, Int.toNat_natCast, Int.natCast_nonneg, go_sem, awp_seq, Nat.reduceBNe, Nat.reduceBEq, Nat.reduceAdd, Nat.reduceSub, Nat.reduceMul, Nat.reduceLeDiff, Nat.reduceLT, Nat.reduceEqDiff, Nat.reduceBneDiff, Int.reduceLE, Int.reduceLT, Int.reduceToNat, Int.reduceBEq, Int.reduceBNe, Int.reduceAdd, Int.reduceSub, Int.cast_ofNat_Int]
          | false =>
            cases c4 : decide (1000 < r) with
            | true =>
              have e := b0 (by simp [inR, c4])
              simp -implicitDefEqProofs only [g1, e1, e2, c1, c2, c3, c4, e, Int.toNat_natCast, Int.natCast_nonneg, go_sem, awp_seq, Nat.reduceBNe, Nat.reduceBEq, Nat.reduceAdd, Nat.reduceSub, Nat.reduceMul, Nat.reduceLeDiff, Nat.reduceLT, Nat.reduceEqDiff, Nat.reduceBneDiff, Int.reduceLE, Int.reduceLT, Int.reduceToNat, Int.reduceBEq, Int.reduceBNe, Int.reduceAdd, Int.reduceSub, Int.cast_ofNat_Int]
            | false =>
              simp -implicitDefEqProofs only [g1, e1, e2, c1, c2, c3, c4, w1, Int.toNat_natCast, Int.natCast_nonneg, go_sem, awp_seq, Nat.reduceBNe, Nat.reduceBEq, Nat.reduceAdd, Nat.reduceSub, Nat.reduceMul, Nat.reduceLeDiff, Nat.reduceLT, Nat.reduceEqDiff, Nat.reduceBneDiff, Int.reduceLE, Int.reduceLT, Int.reduceToNat, Int.reduceBEq, Int.reduceBNe, Int.reduceAdd, Int.reduceSub, Int.cast_ofNat_Int]
              refine roundK_mk ⟨k + 1, by omega, fun i hi => ?_⟩ ?_ (by show pts.length - (k + 1) < pts.length - k; omega)
              · by_cases hik : i = k
                · subst hik; rw [d1, d2]; simp [inR, c1, c2, c3, c4]
                · exact hall i (by omega)
              · simp -implicitDefEqProofs only [go_sem, awp_seq, Nat.reduceBNe, Nat.reduceBEq, Nat.reduceAdd, Nat.reduceSub, Nat.reduceMul, Nat.reduceLeDiff, Nat.reduceLT, Nat.reduceEqDiff, Nat.reduceBneDiff, Int.reduceLE, Int.reduceLT, Int.reduceToNat, Int.reduceBEq, Int.reduceBNe, Int.reduceAdd, Int.reduceSub, Int.cast_ofNat_Int]
    · have g1 : decide (((k : Nat) : Int) < (pts.length : Nat)) = false := by simp; omega
      have hk' : k = pts.length := by omega
      subst hk'
      have hA : (List.range pts.length).all (fun i => inR (pts.getD i 0) (prs.getD i 0)) = true := List.all_eq_true.2 fun i hi => hall i (List.mem_range.1 hi)
      have bad2 : ∀ j, j + 1 < pts.length → ¬ pts.getD j 0 < pts.getD (j + 1) 0 → gridE pts prs = 23 := fun j hj hb => by
        unfold gridE
        rw [if_neg h1, if_neg h2, if_neg h3, if_pos hA, if_neg]
        intro hc
        have := List.all_eq_true.1 hc j (List.mem_range.2 (by omega))
        exact hb (of_decide_eq_true this)
      simp -implicitDefEqProofs only [g1, go_sem, awp_seq, Nat.reduceBNe, Nat.reduceBEq, Nat.reduceAdd, Nat.reduceSub, Nat.reduceMul, Nat.reduceLeDiff, Nat.reduceLT, Nat.reduceEqDiff, Nat.reduceBneDiff, Int.reduceLE, Int.reduceLT, Int.reduceToNat, Int.reduceBEq, Int.reduceBNe, Int.reduceAdd, Int.reduceSub, Int.cast_ofNat_Int]
      refine loop_mk (α := {j : Nat // j + 1 ≤ pts.length ∧ ∀ i, i < j → pts.getD i 0 < pts.getD (i + 1) 0}) (fun j => [(0, some (.av (gridA pts prs))), (1, some (.ref 1 0)), (2, some (.av (i64 0))), (3, some (.av (i64 (pts.length : Nat)))), (5, some (.av (i64 (j.1 + 1 : Nat))))]) (fun _ => [(1, [ints pts, ints prs])]) (fun _ => []) (fun j => pts.length - j.1) ⟨0, by omega, fun i hi => by omega⟩ ?_ ?_
      · simp -implicitDefEqProofs only [go_sem, awp_seq, Nat.reduceBNe, Nat.reduceBEq, Nat.reduceAdd, Nat.reduceSub, Nat.reduceMul, Nat.reduceLeDiff, Nat.reduceLT, Nat.reduceEqDiff, Nat.reduceBneDiff, Int.reduceLE, Int.reduceLT, Int.reduceToNat, Int.reduceBEq, Int.reduceBNe, Int.reduceAdd, Int.reduceSub, Int.cast_ofNat_Int]
      · rintro ⟨j, hj, hall2⟩
        by_cases hlt2 : j + 1 < pts.length
        · have g2 : decide (((j + 1 : Nat) : Int) < (pts.length : Nat)) = true := by simp only [decide_eq_true_eq]; omega
          have e1 := map_get (fun x => i64 x) pts hlt2
          have e2 := map_get (fun x => i64 x) pts (show j < pts.length by omega)
          have d1 := getD_get pts hlt2
          have d2 := getD_get pts (show j < pts.length by omega)
          have w1 : IntKind.i64.wrap (((j + 1 : Nat) : Int) + 1) = ((j + 1 + 1 : Nat) : Int) := by rw [IntWalk.i64_in _ (by omega)]; omega
          have w2 : IntKind.i64.wrap (((j + 1 : Nat) : Int) - 1) = ((j : Nat) : Int) := by rw [IntWalk.i64_in _ (by omega)]; omega
          have b0 := bad2 j hlt2
          rw [d1, d2] at b0
          generalize pts[j + 1] = p at *
          generalize pts[j] = r at *
          cases c1 : decide (p ≤ r) with
          | true =>
            have e := b0 (by simp at c1; omega)
            simp -implicitDefEqProofs only [List.length_map, g2, e1, e2, w2, c1, e, Int.toNat_natCast, Int.natCast_nonneg, go_sem, awp_seq, Nat.reduceBNe, Nat.reduceBEq, Nat.reduceAdd, Nat.reduceSub, Nat.reduceMul, Nat.reduceLeDiff, Nat.reduceLT, Nat.reduceEqDiff, Nat.reduceBneDiff, Int.reduceLE, Int.reduceLT, Int.reduceToNat, Int.reduceBEq, Int.reduceBNe, Int.reduceAdd, Int.reduceSub, Int.cast_ofNat_Int]
          | false =>
            simp -implicitDefEqProofs only [List.length_map, g2, e1, e2, w1, w2, c1, Int.toNat_natCast, Int.natCast_nonneg, go_sem, awp_seq, Nat.reduceBNe, Nat.reduceBEq, Nat.reduceAdd, Nat.reduceSub, Nat.reduceMul, Nat.reduceLeDiff, Nat.reduceLT, Nat.reduceEqDiff, Nat.reduceBneDiff, Int.reduceLE, Int.reduceLT, Int.reduceToNat, Int.reduceBEq, Int.reduceBNe, Int.reduceAdd, Int.reduceSub, Int.cast_ofNat_Int]
            refine roundK_mk ⟨j + 1, by omega, fun i hi => ?_⟩ ?_ (by show pts.length - (j + 1) < pts.length - j; omega)
            · by_cases hik : i = j
              · subst hik; rw [d1, d2]; simp at c1; omega
              · exact hall2 i (by omega)
            · simp -implicitDefEqProofs only [go_sem, awp_seq, Nat.reduceBNe, Nat.reduceBEq, Nat.reduceAdd, Nat.reduceSub, Nat.reduceMul, Nat.reduceLeDiff, Nat.reduceLT, Nat.reduceEqDiff, Nat.reduceBneDiff, Int.reduceLE, Int.reduceLT, Int.reduceToNat, Int.reduceBEq, Int.reduceBNe, Int.reduceAdd, Int.reduceSub, Int.cast_ofNat_Int]
        · have g2 : decide (((j + 1 : Nat) : Int) < (pts.length : Nat)) = false := by simp only [decide_eq_false_iff_not]; omega
          have e : gridE pts prs = 0 := by
            unfold gridE
            rw [if_neg h1, if_neg h2, if_neg h3, if_pos hA, if_pos]
            exact List.all_eq_true.2 fun i hi => decide_eq_true (hall2 i (by have := List.mem_range.1 hi; omega))
          simp -implicitDefEqProofs only [List.length_map, g2, e, go_sem, awp_seq, Nat.reduceBNe, Nat.reduceBEq, Nat.reduceAdd, Nat.reduceSub, Nat.reduceMul, Nat.reduceLeDiff, Nat.reduceLT, Nat.reduceEqDiff, Nat.reduceBneDiff, Int.reduceLE, Int.reduceLT, Int.reduceToNat, Int.reduceBEq, Int.reduceBNe, Int.reduceAdd, Int.reduceSub, Int.cast_ofNat_Int]
end Go.Proofs.YtfchbehmeppckaaGreat

/- Chapter 38: policies in the reference; the law StoppingChecks. INTS -/
set_option linter.unusedSimpArgs false
set_option linter.unusedVariables false
namespace Go.Proofs.YtfchbehmeppckaaGreat
open Go.RowKit Lim

theorem within38_c (n lo hi : Int) : AT 26 [i64 n, i64 lo, i64 hi] (boo (withinB n lo hi)) := by
  unfold withinB
  cases c1 : decide (lo ≤ n) with
  | true =>
    refine ACalls.of ⟨7, []⟩ (fn := Tryz.f26) Tryz.func26 rfl rfl rfl (by kernel_rfl) (by kernel_rfl) (Nat.le_of_ble_eq_true rfl) ?_
    simp -implicitDefEqProofs only [c1, go_sem, awp_seq, Nat.reduceBNe, Nat.reduceBEq, Nat.reduceAdd, Nat.reduceSub, Nat.reduceMul, Nat.reduceLeDiff, Nat.reduceLT, Nat.reduceEqDiff, Nat.reduceBneDiff, Int.reduceLE, Int.reduceLT, Int.reduceToNat, Int.reduceBEq, Int.reduceBNe, Int.reduceAdd, Int.reduceSub, Int.cast_ofNat_Int]
  | false =>
    refine ACalls.of ⟨7, []⟩ (fn := Tryz.f26) Tryz.func26 rfl rfl rfl (by kernel_rfl) (by kernel_rfl) (Nat.le_of_ble_eq_true rfl) ?_
    simp -implicitDefEqProofs only [c1, go_sem, awp_seq, Nat.reduceBNe, Nat.reduceBEq, Nat.reduceAdd, Nat.reduceSub, Nat.reduceMul, Nat.reduceLeDiff, Nat.reduceLT, Nat.reduceEqDiff, Nat.reduceBneDiff, Int.reduceLE, Int.reduceLT, Int.reduceToNat, Int.reduceBEq, Int.reduceBNe, Int.reduceAdd, Int.reduceSub, Int.cast_ofNat_Int]
theorem ROK.dR {r : RatV} (h : ROK r) : DR r.a r.z r.d := ⟨r.t, r.l, r.m, rfl, h.dl, h.dm, rfl, rfl, by have := h.nl; omega, by have := h.nm; omega⟩
theorem dr_small (a b : Nat) (ha : a < 4294967296) (hb : b < 4294967296) : DR (ratA false [a] [b]) (a : Int) b := ⟨false, [a], [b], rfl, fun x hx => by simp at hx; omega, fun x hx => by simp at hx; omega, by simp [sg, val], by simp [val], by simp, by simp⟩
def mostB (r : RatV) : Bool := decide (cmpZ (pz r.z r.d) (pd r.d) ≤ 0)
def halfB (r : RatV) : Bool := decide (0 < cmpZ (pz r.z r.d * 2) (pd r.d))
theorem most_c {r : RatV} (h : ROK r) : AT 29 [r.a] (boo (mostB r)) := by
  have C := r3cmp_c h.dR (dr_small 1 1 (by omega) (by omega))
  rw [show pd 1 = 1 from rfl, show pz ((1 : Nat) : Int) 1 = 1 from rfl, Int.one_mul, show pz r.z r.d * ((1 : Nat) : Int) = pz r.z r.d from Int.mul_one _] at C
  refine ACalls.of ⟨3, []⟩ (fn := Tryz.f29) Tryz.func29 rfl rfl rfl (by kernel_rfl) (by kernel_rfl) (Nat.le_of_ble_eq_true rfl) ?_
  simp -implicitDefEqProofs only [Int.toNat_one, Int.reduceToNat, go_sem, awp_seq, Nat.reduceBNe, Nat.reduceBEq, Nat.reduceAdd, Nat.reduceSub, Nat.reduceMul, Nat.reduceLeDiff, Nat.reduceLT, Nat.reduceEqDiff, Nat.reduceBneDiff, Int.reduceLE, Int.reduceLT, Int.reduceToNat, Int.reduceBEq, Int.reduceBNe, Int.reduceAdd, Int.reduceSub, Int.cast_ofNat_Int]
  refine callA_tt C ?_
  simp -implicitDefEqProofs only [mostB, go_sem, awp_seq, Nat.reduceBNe, Nat.reduceBEq, Nat.reduceAdd, Nat.reduceSub, Nat.reduceMul, Nat.reduceLeDiff, Nat.reduceLT, Nat.reduceEqDiff, Nat.reduceBneDiff, Int.reduceLE, Int.reduceLT, Int.reduceToNat, Int.reduceBEq, Int.reduceBNe, Int.reduceAdd, Int.reduceSub, Int.cast_ofNat_Int]
theorem level_c {r : RatV} (h : ROK r) : AT 28 [r.a] (boo (mostB r && halfB r)) := by
  have M := most_c h
  have C := r3cmp_c h.dR (dr_small 1 2 (by omega) (by omega))
  rw [show pd 2 = 2 from rfl, show pz ((1 : Nat) : Int) 2 = 1 from rfl, Int.one_mul] at C
  cases c1 : mostB r with
  | true =>
    rw [c1] at M
    refine ACalls.of ⟨3, []⟩ (fn := Tryz.f28) Tryz.func28 rfl rfl rfl (by kernel_rfl) (by kernel_rfl) (Nat.le_of_ble_eq_true rfl) ?_
    simp -implicitDefEqProofs only [go_sem, awp_seq, Nat.reduceBNe, Nat.reduceBEq, Nat.reduceAdd, Nat.reduceSub, Nat.reduceMul, Nat.reduceLeDiff, Nat.reduceLT, Nat.reduceEqDiff, Nat.reduceBneDiff, Int.reduceLE, Int.reduceLT, Int.reduceToNat, Int.reduceBEq, Int.reduceBNe, Int.reduceAdd, Int.reduceSub, Int.cast_ofNat_Int]
    refine callA_tt M ?_
    simp -implicitDefEqProofs only [Int.toNat_one, Int.reduceToNat, go_sem, awp_seq, Nat.reduceBNe, Nat.reduceBEq, Nat.reduceAdd, Nat.reduceSub, Nat.reduceMul, Nat.reduceLeDiff, Nat.reduceLT, Nat.reduceEqDiff, Nat.reduceBneDiff, Int.reduceLE, Int.reduceLT, Int.reduceToNat, Int.reduceBEq, Int.reduceBNe, Int.reduceAdd, Int.reduceSub, Int.cast_ofNat_Int]
    refine callA_tt C ?_
    simp -implicitDefEqProofs only [halfB, go_sem, awp_seq, Nat.reduceBNe, Nat.reduceBEq, Nat.reduceAdd, Nat.reduceSub, Nat.reduceMul, Nat.reduceLeDiff, Nat.reduceLT, Nat.reduceEqDiff, Nat.reduceBneDiff, Int.reduceLE, Int.reduceLT, Int.reduceToNat, Int.reduceBEq, Int.reduceBNe, Int.reduceAdd, Int.reduceSub, Int.cast_ofNat_Int]
  | false =>
    rw [c1] at M
    refine ACalls.of ⟨3, []⟩ (fn := Tryz.f28) Tryz.func28 rfl rfl rfl (by kernel_rfl) (by kernel_rfl) (Nat.le_of_ble_eq_true rfl) ?_
    simp -implicitDefEqProofs only [go_sem, awp_seq, Nat.reduceBNe, Nat.reduceBEq, Nat.reduceAdd, Nat.reduceSub, Nat.reduceMul, Nat.reduceLeDiff, Nat.reduceLT, Nat.reduceEqDiff, Nat.reduceBneDiff, Int.reduceLE, Int.reduceLT, Int.reduceToNat, Int.reduceBEq, Int.reduceBNe, Int.reduceAdd, Int.reduceSub, Int.cast_ofNat_Int]
    refine callA_tt M ?_
    simp -implicitDefEqProofs only [go_sem, awp_seq, Nat.reduceBNe, Nat.reduceBEq, Nat.reduceAdd, Nat.reduceSub, Nat.reduceMul, Nat.reduceLeDiff, Nat.reduceLT, Nat.reduceEqDiff, Nat.reduceBneDiff, Int.reduceLE, Int.reduceLT, Int.reduceToNat, Int.reduceBEq, Int.reduceBNe, Int.reduceAdd, Int.reduceSub, Int.cast_ofNat_Int]
theorem above_half (r : RatV) : aboveB r 1 2 = (mostB r && halfB r) := by
  unfold aboveB mostB halfB
  rw [Int.one_mul, Bool.and_comm]
  rfl
theorem above_zero (r : RatV) : aboveB r 0 1 = (!(decide (sgnI (pz r.z r.d) ≤ 0)) && mostB r) := by
  unfold aboveB mostB
  congr 1
  have h1 := sgn_pos (z := pz r.z r.d)
  have h2 := cmp_gt (a := pz r.z r.d * ((1 : Nat) : Int)) (b := 0 * (pd r.d : Int))
  rw [show pz r.z r.d * ((1 : Nat) : Int) = pz r.z r.d from Int.mul_one _, Int.zero_mul] at h2
  rw [show pz r.z r.d * ((1 : Nat) : Int) = pz r.z r.d from Int.mul_one _, Int.zero_mul]
  by_cases h : 0 < pz r.z r.d
  · have := h1.2 h
    rw [decide_eq_true (h2.2 h), decide_eq_false (by omega)]; rfl
  · have k1 : ¬ 0 < sgnI (pz r.z r.d) := fun q => h (h1.1 q)
    have k2 : ¬ 0 < cmpZ (pz r.z r.d) 0 := fun q => h (h2.1 q)
    rw [decide_eq_false k2, decide_eq_true (by omega)]; rfl
theorem within_not (n lo hi : Int) : withinB n lo hi = !(decide (n < lo) || decide (hi < n)) := by
  unfold withinB
  by_cases h1 : lo ≤ n <;> by_cases h2 : n ≤ hi
  · rw [decide_eq_true h1, decide_eq_true h2, decide_eq_false (by omega), decide_eq_false (by omega)]; rfl
  · rw [decide_eq_true h1, decide_eq_false h2, decide_eq_false (by omega), decide_eq_true (by omega)]; rfl
  · rw [decide_eq_false h1, decide_eq_true (by omega : n < lo)]; rfl
  · rw [decide_eq_false h1, decide_eq_true (by omega : n < lo)]; rfl
set_option maxHeartbeats 2000000 in
theorem valid38_c (p : PolV) (hp : POK p) : AT 10 [polA p] (i64 (polE p)) := by
  have B := valid33_c p.len p.rs
  have G := valid18_c p.pts p.prs
  have S := r3sign_c hp.v.dR
  have S2 := r3sign_c hp.rate.dR
  have A1 := level_c hp.lv
  have A2 := most_c hp.rate
  have W1 := within38_c p.min 0 p.len
  have W2 := within38_c p.cut 0 (((p.pts.length : Nat) : Int) - 1)
  have W3 := within38_c p.top 1 5
  have W4 := within38_c p.slack 0 1000000
  by_cases h1 : specE p.len p.rs ≠ 0
  · have g1 : (specE p.len p.rs != 0) = true := by simpa using h1
    rw [show polE p = specE p.len p.rs by unfold polE; rw [if_pos h1]]
    refine ACalls.of ⟨4, []⟩ (fn := Tryz.f10) Tryz.func10 rfl rfl rfl (by kernel_rfl) (by kernel_rfl) (Nat.le_of_ble_eq_true rfl) ?_
    simp -implicitDefEqProofs only [go_sem, awp_seq, Nat.reduceBNe, Nat.reduceBEq, Nat.reduceAdd, Nat.reduceSub, Nat.reduceMul, Nat.reduceLeDiff, Nat.reduceLT, Nat.reduceEqDiff, Nat.reduceBneDiff, Int.reduceLE, Int.reduceLT, Int.reduceToNat, Int.reduceBEq, Int.reduceBNe, Int.reduceAdd, Int.reduceSub, Int.cast_ofNat_Int]
    refine callA_tt B ?_
    simp -implicitDefEqProofs only [g1, go_sem, awp_seq, Nat.reduceBNe, Nat.reduceBEq, Nat.reduceAdd, Nat.reduceSub, Nat.reduceMul, Nat.reduceLeDiff, Nat.reduceLT, Nat.reduceEqDiff, Nat.reduceBneDiff, Int.reduceLE, Int.reduceLT, Int.reduceToNat, Int.reduceBEq, Int.reduceBNe, Int.reduceAdd, Int.reduceSub, Int.cast_ofNat_Int]
  have g1 : (specE p.len p.rs != 0) = false := by simpa using h1
  by_cases h2 : gridE p.pts p.prs ≠ 0
  · have g2 : (gridE p.pts p.prs != 0) = true := by simpa using h2
    rw [show polE p = gridE p.pts p.prs by unfold polE; rw [if_neg h1, if_pos h2]]
    refine ACalls.of ⟨4, []⟩ (fn := Tryz.f10) Tryz.func10 rfl rfl rfl (by kernel_rfl) (by kernel_rfl) (Nat.le_of_ble_eq_true rfl) ?_
    simp -implicitDefEqProofs only [go_sem, awp_seq, Nat.reduceBNe, Nat.reduceBEq, Nat.reduceAdd, Nat.reduceSub, Nat.reduceMul, Nat.reduceLeDiff, Nat.reduceLT, Nat.reduceEqDiff, Nat.reduceBneDiff, Int.reduceLE, Int.reduceLT, Int.reduceToNat, Int.reduceBEq, Int.reduceBNe, Int.reduceAdd, Int.reduceSub, Int.cast_ofNat_Int]
    refine callA_tt B ?_
    simp -implicitDefEqProofs only [g1, go_sem, awp_seq, Nat.reduceBNe, Nat.reduceBEq, Nat.reduceAdd, Nat.reduceSub, Nat.reduceMul, Nat.reduceLeDiff, Nat.reduceLT, Nat.reduceEqDiff, Nat.reduceBneDiff, Int.reduceLE, Int.reduceLT, Int.reduceToNat, Int.reduceBEq, Int.reduceBNe, Int.reduceAdd, Int.reduceSub, Int.cast_ofNat_Int]
    refine callA_tt G ?_
    simp -implicitDefEqProofs only [g2, go_sem, awp_seq, Nat.reduceBNe, Nat.reduceBEq, Nat.reduceAdd, Nat.reduceSub, Nat.reduceMul, Nat.reduceLeDiff, Nat.reduceLT, Nat.reduceEqDiff, Nat.reduceBneDiff, Int.reduceLE, Int.reduceLT, Int.reduceToNat, Int.reduceBEq, Int.reduceBNe, Int.reduceAdd, Int.reduceSub, Int.cast_ofNat_Int]
  have g2 : (gridE p.pts p.prs != 0) = false := by simpa using h2
  have hlen : p.pts.length ≤ 21 := (grid_ok (by omega : gridE p.pts p.prs = 0)).1
  by_cases h3 : 400 < p.en.length
  · have g3 : decide ((400 : Int) < (p.en.length : Nat)) = true := by simp; omega
    rw [show polE p = 5 by unfold polE; rw [if_neg h1, if_neg h2, if_pos h3]]
    refine ACalls.of ⟨4, []⟩ (fn := Tryz.f10) Tryz.func10 rfl rfl rfl (by kernel_rfl) (by kernel_rfl) (Nat.le_of_ble_eq_true rfl) ?_
    simp -implicitDefEqProofs only [go_sem, awp_seq, Nat.reduceBNe, Nat.reduceBEq, Nat.reduceAdd, Nat.reduceSub, Nat.reduceMul, Nat.reduceLeDiff, Nat.reduceLT, Nat.reduceEqDiff, Nat.reduceBneDiff, Int.reduceLE, Int.reduceLT, Int.reduceToNat, Int.reduceBEq, Int.reduceBNe, Int.reduceAdd, Int.reduceSub, Int.cast_ofNat_Int]
    refine callA_tt B ?_
    simp -implicitDefEqProofs only [g1, go_sem, awp_seq, Nat.reduceBNe, Nat.reduceBEq, Nat.reduceAdd, Nat.reduceSub, Nat.reduceMul, Nat.reduceLeDiff, Nat.reduceLT, Nat.reduceEqDiff, Nat.reduceBneDiff, Int.reduceLE, Int.reduceLT, Int.reduceToNat, Int.reduceBEq, Int.reduceBNe, Int.reduceAdd, Int.reduceSub, Int.cast_ofNat_Int]
    refine callA_tt G ?_
    simp -implicitDefEqProofs only [g2, g3, List.length_map, go_sem, awp_seq, Nat.reduceBNe, Nat.reduceBEq, Nat.reduceAdd, Nat.reduceSub, Nat.reduceMul, Nat.reduceLeDiff, Nat.reduceLT, Nat.reduceEqDiff, Nat.reduceBneDiff, Int.reduceLE, Int.reduceLT, Int.reduceToNat, Int.reduceBEq, Int.reduceBNe, Int.reduceAdd, Int.reduceSub, Int.cast_ofNat_Int]
  have g3 : decide ((400 : Int) < (p.en.length : Nat)) = false := by simp; omega
  have e : polE p = if polBad p then 3 else 0 := by unfold polE; rw [if_neg h1, if_neg h2, if_neg h3]
  have bad : polBad p = true → polE p = 3 := fun h => by rw [e, if_pos h]
  have good : polBad p = false → polE p = 0 := fun h => by rw [e, if_neg (by simp [h])]
  clear e
  have w1 : IntKind.i64.wrap (((p.pts.length : Nat) : Int) - 1) = ((p.pts.length : Nat) : Int) - 1 := IntWalk.i64_in _ (by omega)
  rw [within_not] at W1 W2 W3 W4
  unfold polBad at bad good
  rw [above_half, above_zero] at bad good
  generalize specE p.len p.rs = e1 at *
  generalize gridE p.pts p.prs = e2 at *
  generalize polE p = E at *
  generalize (mostB p.lv && halfB p.lv) = a1 at *
  generalize mostB p.rate = a2 at *
  generalize sgnI (pz p.v.z p.v.d) = sv at *
  generalize sgnI (pz p.rate.z p.rate.d) = sr at *
  generalize (decide (p.min < 0) || decide (p.len < p.min)) = q1 at *
  generalize (decide (p.cut < 0) || decide (((p.pts.length : Nat) : Int) - 1 < p.cut)) = q2 at *
  generalize (decide (p.top < 1) || decide (5 < p.top)) = q3 at *
  generalize (decide (p.slack < 0) || decide (1000000 < p.slack)) = q4 at *
  refine ACalls.of ⟨4, []⟩ (fn := Tryz.f10) Tryz.func10 rfl rfl rfl (by kernel_rfl) (by kernel_rfl) (Nat.le_of_ble_eq_true rfl) ?_
  simp -implicitDefEqProofs only [go_sem, awp_seq, Nat.reduceBNe, Nat.reduceBEq, Nat.reduceAdd, Nat.reduceSub, Nat.reduceMul, Nat.reduceLeDiff, Nat.reduceLT, Nat.reduceEqDiff, Nat.reduceBneDiff, Int.reduceLE, Int.reduceLT, Int.reduceToNat, Int.reduceBEq, Int.reduceBNe, Int.reduceAdd, Int.reduceSub, Int.cast_ofNat_Int]
  refine callA_tt B ?_
  simp -implicitDefEqProofs only [g1, go_sem, awp_seq, Nat.reduceBNe, Nat.reduceBEq, Nat.reduceAdd, Nat.reduceSub, Nat.reduceMul, Nat.reduceLeDiff, Nat.reduceLT, Nat.reduceEqDiff, Nat.reduceBneDiff, Int.reduceLE, Int.reduceLT, Int.reduceToNat, Int.reduceBEq, Int.reduceBNe, Int.reduceAdd, Int.reduceSub, Int.cast_ofNat_Int]
  refine callA_tt G ?_
  simp -implicitDefEqProofs only [g2, g3, List.length_map, go_sem, awp_seq, Nat.reduceBNe, Nat.reduceBEq, Nat.reduceAdd, Nat.reduceSub, Nat.reduceMul, Nat.reduceLeDiff, Nat.reduceLT, Nat.reduceEqDiff, Nat.reduceBneDiff, Int.reduceLE, Int.reduceLT, Int.reduceToNat, Int.reduceBEq, Int.reduceBNe, Int.reduceAdd, Int.reduceSub, Int.cast_ofNat_Int]
  refine callA_tt W1 ?_
  cases q1 with
  | true =>
    have := bad (by simp only [Bool.true_or])
    simp -implicitDefEqProofs only [this, go_sem, awp_seq, Nat.reduceBNe, Nat.reduceBEq, Nat.reduceAdd, Nat.reduceSub, Nat.reduceMul, Nat.reduceLeDiff, Nat.reduceLT, Nat.reduceEqDiff, Nat.reduceBneDiff, Int.reduceLE, Int.reduceLT, Int.reduceToNat, Int.reduceBEq, Int.reduceBNe, Int.reduceAdd, Int.reduceSub, Int.cast_ofNat_Int]
  | false =>
  simp -implicitDefEqProofs only [go_sem, awp_seq, Nat.reduceBNe, Nat.reduceBEq, Nat.reduceAdd, Nat.reduceSub, Nat.reduceMul, Nat.reduceLeDiff, Nat.reduceLT, Nat.reduceEqDiff, Nat.reduceBneDiff, Int.reduceLE, Int.reduceLT, Int.reduceToNat, Int.reduceBEq, Int.reduceBNe, Int.reduceAdd, Int.reduceSub, Int.cast_ofNat_Int]
  refine callA_tt S ?_
  cases c3 : decide (sv < 0) with
  | true =>
    have := bad (by simp only [c3, Bool.true_or, Bool.or_true])
    simp -implicitDefEqProofs only [c3, this, go_sem, awp_seq, Nat.reduceBNe, Nat.reduceBEq, Nat.reduceAdd, Nat.reduceSub, Nat.reduceMul, Nat.reduceLeDiff, Nat.reduceLT, Nat.reduceEqDiff, Nat.reduceBneDiff, Int.reduceLE, Int.reduceLT, Int.reduceToNat, Int.reduceBEq, Int.reduceBNe, Int.reduceAdd, Int.reduceSub, Int.cast_ofNat_Int]
  | false =>
  simp -implicitDefEqProofs only [c3, List.length_map, w1, go_sem, awp_seq, Nat.reduceBNe, Nat.reduceBEq, Nat.reduceAdd, Nat.reduceSub, Nat.reduceMul, Nat.reduceLeDiff, Nat.reduceLT, Nat.reduceEqDiff, Nat.reduceBneDiff, Int.reduceLE, Int.reduceLT, Int.reduceToNat, Int.reduceBEq, Int.reduceBNe, Int.reduceAdd, Int.reduceSub, Int.cast_ofNat_Int]
  refine callA_tt W2 ?_
  cases q2 with
  | true =>
    have := bad (by simp only [Bool.true_or, Bool.or_true])
    simp -implicitDefEqProofs only [this, go_sem, awp_seq, Nat.reduceBNe, Nat.reduceBEq, Nat.reduceAdd, Nat.reduceSub, Nat.reduceMul, Nat.reduceLeDiff, Nat.reduceLT, Nat.reduceEqDiff, Nat.reduceBneDiff, Int.reduceLE, Int.reduceLT, Int.reduceToNat, Int.reduceBEq, Int.reduceBNe, Int.reduceAdd, Int.reduceSub, Int.cast_ofNat_Int]
  | false =>
  simp -implicitDefEqProofs only [go_sem, awp_seq, Nat.reduceBNe, Nat.reduceBEq, Nat.reduceAdd, Nat.reduceSub, Nat.reduceMul, Nat.reduceLeDiff, Nat.reduceLT, Nat.reduceEqDiff, Nat.reduceBneDiff, Int.reduceLE, Int.reduceLT, Int.reduceToNat, Int.reduceBEq, Int.reduceBNe, Int.reduceAdd, Int.reduceSub, Int.cast_ofNat_Int]
  cases c6 : (p.cut != 0) with
  | true =>
    simp -implicitDefEqProofs only [go_sem, awp_seq, Nat.reduceBNe, Nat.reduceBEq, Nat.reduceAdd, Nat.reduceSub, Nat.reduceMul, Nat.reduceLeDiff, Nat.reduceLT, Nat.reduceEqDiff, Nat.reduceBneDiff, Int.reduceLE, Int.reduceLT, Int.reduceToNat, Int.reduceBEq, Int.reduceBNe, Int.reduceAdd, Int.reduceSub, Int.cast_ofNat_Int]
    refine callA_tt A1 ?_
    cases a1 with
    | false =>
      have := bad (by simp only [c6, Bool.not_false, Bool.and_self, Bool.true_or, Bool.or_true])
      simp -implicitDefEqProofs only [this, go_sem, awp_seq, Nat.reduceBNe, Nat.reduceBEq, Nat.reduceAdd, Nat.reduceSub, Nat.reduceMul, Nat.reduceLeDiff, Nat.reduceLT, Nat.reduceEqDiff, Nat.reduceBneDiff, Int.reduceLE, Int.reduceLT, Int.reduceToNat, Int.reduceBEq, Int.reduceBNe, Int.reduceAdd, Int.reduceSub, Int.cast_ofNat_Int]
    | true =>
    simp -implicitDefEqProofs only [go_sem, awp_seq, Nat.reduceBNe, Nat.reduceBEq, Nat.reduceAdd, Nat.reduceSub, Nat.reduceMul, Nat.reduceLeDiff, Nat.reduceLT, Nat.reduceEqDiff, Nat.reduceBneDiff, Int.reduceLE, Int.reduceLT, Int.reduceToNat, Int.reduceBEq, Int.reduceBNe, Int.reduceAdd, Int.reduceSub, Int.cast_ofNat_Int]
    refine callA_tt W3 ?_
    cases q3 with
    | true =>
      have := bad (by simp only [Bool.true_or, Bool.or_true])
      simp -implicitDefEqProofs only [this, go_sem, awp_seq, Nat.reduceBNe, Nat.reduceBEq, Nat.reduceAdd, Nat.reduceSub, Nat.reduceMul, Nat.reduceLeDiff, Nat.reduceLT, Nat.reduceEqDiff, Nat.reduceBneDiff, Int.reduceLE, Int.reduceLT, Int.reduceToNat, Int.reduceBEq, Int.reduceBNe, Int.reduceAdd, Int.reduceSub, Int.cast_ofNat_Int]
    | false =>
    simp -implicitDefEqProofs only [go_sem, awp_seq, Nat.reduceBNe, Nat.reduceBEq, Nat.reduceAdd, Nat.reduceSub, Nat.reduceMul, Nat.reduceLeDiff, Nat.reduceLT, Nat.reduceEqDiff, Nat.reduceBneDiff, Int.reduceLE, Int.reduceLT, Int.reduceToNat, Int.reduceBEq, Int.reduceBNe, Int.reduceAdd, Int.reduceSub, Int.cast_ofNat_Int]
    refine callA_tt S2 ?_
    cases c9 : decide (sr ≤ 0) with
    | true =>
      have := bad (by simp only [c9, Bool.not_true, Bool.false_and, Bool.not_false, Bool.true_or, Bool.or_true])
      simp -implicitDefEqProofs only [c9, this, go_sem, awp_seq, Nat.reduceBNe, Nat.reduceBEq, Nat.reduceAdd, Nat.reduceSub, Nat.reduceMul, Nat.reduceLeDiff, Nat.reduceLT, Nat.reduceEqDiff, Nat.reduceBneDiff, Int.reduceLE, Int.reduceLT, Int.reduceToNat, Int.reduceBEq, Int.reduceBNe, Int.reduceAdd, Int.reduceSub, Int.cast_ofNat_Int]
    | false =>
    simp -implicitDefEqProofs only [c9, go_sem, awp_seq, Nat.reduceBNe, Nat.reduceBEq, Nat.reduceAdd, Nat.reduceSub, Nat.reduceMul, Nat.reduceLeDiff, Nat.reduceLT, Nat.reduceEqDiff, Nat.reduceBneDiff, Int.reduceLE, Int.reduceLT, Int.reduceToNat, Int.reduceBEq, Int.reduceBNe, Int.reduceAdd, Int.reduceSub, Int.cast_ofNat_Int]
    refine callA_tt A2 ?_
    cases a2 with
    | false =>
      have := bad (by simp only [Bool.and_false, Bool.not_false, Bool.true_or, Bool.or_true])
      simp -implicitDefEqProofs only [this, go_sem, awp_seq, Nat.reduceBNe, Nat.reduceBEq, Nat.reduceAdd, Nat.reduceSub, Nat.reduceMul, Nat.reduceLeDiff, Nat.reduceLT, Nat.reduceEqDiff, Nat.reduceBneDiff, Int.reduceLE, Int.reduceLT, Int.reduceToNat, Int.reduceBEq, Int.reduceBNe, Int.reduceAdd, Int.reduceSub, Int.cast_ofNat_Int]
    | true =>
    simp -implicitDefEqProofs only [go_sem, awp_seq, Nat.reduceBNe, Nat.reduceBEq, Nat.reduceAdd, Nat.reduceSub, Nat.reduceMul, Nat.reduceLeDiff, Nat.reduceLT, Nat.reduceEqDiff, Nat.reduceBneDiff, Int.reduceLE, Int.reduceLT, Int.reduceToNat, Int.reduceBEq, Int.reduceBNe, Int.reduceAdd, Int.reduceSub, Int.cast_ofNat_Int]
    refine callA_tt W4 ?_
    cases q4 with
    | true =>
      have := bad (by simp only [Bool.true_or, Bool.or_true])
      simp -implicitDefEqProofs only [this, go_sem, awp_seq, Nat.reduceBNe, Nat.reduceBEq, Nat.reduceAdd, Nat.reduceSub, Nat.reduceMul, Nat.reduceLeDiff, Nat.reduceLT, Nat.reduceEqDiff, Nat.reduceBneDiff, Int.reduceLE, Int.reduceLT, Int.reduceToNat, Int.reduceBEq, Int.reduceBNe, Int.reduceAdd, Int.reduceSub, Int.cast_ofNat_Int]
    | false =>
      have := good (by simp only [c3, c6, c9, Bool.not_true, Bool.not_false, Bool.or_false, Bool.and_false, Bool.false_and, Bool.and_self])
      simp -implicitDefEqProofs only [this, go_sem, awp_seq, Nat.reduceBNe, Nat.reduceBEq, Nat.reduceAdd, Nat.reduceSub, Nat.reduceMul, Nat.reduceLeDiff, Nat.reduceLT, Nat.reduceEqDiff, Nat.reduceBneDiff, Int.reduceLE, Int.reduceLT, Int.reduceToNat, Int.reduceBEq, Int.reduceBNe, Int.reduceAdd, Int.reduceSub, Int.cast_ofNat_Int]
  | false =>
    simp -implicitDefEqProofs only [go_sem, awp_seq, Nat.reduceBNe, Nat.reduceBEq, Nat.reduceAdd, Nat.reduceSub, Nat.reduceMul, Nat.reduceLeDiff, Nat.reduceLT, Nat.reduceEqDiff, Nat.reduceBneDiff, Int.reduceLE, Int.reduceLT, Int.reduceToNat, Int.reduceBEq, Int.reduceBNe, Int.reduceAdd, Int.reduceSub, Int.cast_ofNat_Int]
    refine callA_tt W3 ?_
    cases q3 with
    | true =>
      have := bad (by simp only [Bool.true_or, Bool.or_true])
      simp -implicitDefEqProofs only [this, go_sem, awp_seq, Nat.reduceBNe, Nat.reduceBEq, Nat.reduceAdd, Nat.reduceSub, Nat.reduceMul, Nat.reduceLeDiff, Nat.reduceLT, Nat.reduceEqDiff, Nat.reduceBneDiff, Int.reduceLE, Int.reduceLT, Int.reduceToNat, Int.reduceBEq, Int.reduceBNe, Int.reduceAdd, Int.reduceSub, Int.cast_ofNat_Int]
    | false =>
    simp -implicitDefEqProofs only [go_sem, awp_seq, Nat.reduceBNe, Nat.reduceBEq, Nat.reduceAdd, Nat.reduceSub, Nat.reduceMul, Nat.reduceLeDiff, Nat.reduceLT, Nat.reduceEqDiff, Nat.reduceBneDiff, Int.reduceLE, Int.reduceLT, Int.reduceToNat, Int.reduceBEq, Int.reduceBNe, Int.reduceAdd, Int.reduceSub, Int.cast_ofNat_Int]
    refine callA_tt S2 ?_
    cases c9 : decide (sr ≤ 0) with
    | true =>
      have := bad (by simp only [c9, Bool.not_true, Bool.false_and, Bool.not_false, Bool.true_or, Bool.or_true])
      simp -implicitDefEqProofs only [c9, this, go_sem, awp_seq, Nat.reduceBNe, Nat.reduceBEq, Nat.reduceAdd, Nat.reduceSub, Nat.reduceMul, Nat.reduceLeDiff, Nat.reduceLT, Nat.reduceEqDiff, Nat.reduceBneDiff, Int.reduceLE, Int.reduceLT, Int.reduceToNat, Int.reduceBEq, Int.reduceBNe, Int.reduceAdd, Int.reduceSub, Int.cast_ofNat_Int]
    | false =>
    simp -implicitDefEqProofs only [c9, go_sem, awp_seq, Nat.reduceBNe, Nat.reduceBEq, Nat.reduceAdd, Nat.reduceSub, Nat.reduceMul, Nat.reduceLeDiff, Nat.reduceLT, Nat.reduceEqDiff, Nat.reduceBneDiff, Int.reduceLE, Int.reduceLT, Int.reduceToNat, Int.reduceBEq, Int.reduceBNe, Int.reduceAdd, Int.reduceSub, Int.cast_ofNat_Int]
    refine callA_tt A2 ?_
    cases a2 with
    | false =>
      have := bad (by simp only [Bool.and_false, Bool.not_false, Bool.true_or, Bool.or_true])
      simp -implicitDefEqProofs only [this, go_sem, awp_seq, Nat.reduceBNe, Nat.reduceBEq, Nat.reduceAdd, Nat.reduceSub, Nat.reduceMul, Nat.reduceLeDiff, Nat.reduceLT, Nat.reduceEqDiff, Nat.reduceBneDiff, Int.reduceLE, Int.reduceLT, Int.reduceToNat, Int.reduceBEq, Int.reduceBNe, Int.reduceAdd, Int.reduceSub, Int.cast_ofNat_Int]
    | true =>
    simp -implicitDefEqProofs only [go_sem, awp_seq, Nat.reduceBNe, Nat.reduceBEq, Nat.reduceAdd, Nat.reduceSub, Nat.reduceMul, Nat.reduceLeDiff, Nat.reduceLT, Nat.reduceEqDiff, Nat.reduceBneDiff, Int.reduceLE, Int.reduceLT, Int.reduceToNat, Int.reduceBEq, Int.reduceBNe, Int.reduceAdd, Int.reduceSub, Int.cast_ofNat_Int]
    refine callA_tt W4 ?_
    cases q4 with
    | true =>
      have := bad (by simp only [Bool.true_or, Bool.or_true])
      simp -implicitDefEqProofs only [this, go_sem, awp_seq, Nat.reduceBNe, Nat.reduceBEq, Nat.reduceAdd, Nat.reduceSub, Nat.reduceMul, Nat.reduceLeDiff, Nat.reduceLT, Nat.reduceEqDiff, Nat.reduceBneDiff, Int.reduceLE, Int.reduceLT, Int.reduceToNat, Int.reduceBEq, Int.reduceBNe, Int.reduceAdd, Int.reduceSub, Int.cast_ofNat_Int]
    | false =>
      have := good (by simp only [c3, c6, c9, Bool.not_true, Bool.not_false, Bool.or_false, Bool.and_false, Bool.false_and, Bool.and_self])
      simp -implicitDefEqProofs only [this, go_sem, awp_seq, Nat.reduceBNe, Nat.reduceBEq, Nat.reduceAdd, Nat.reduceSub, Nat.reduceMul, Nat.reduceLeDiff, Nat.reduceLT, Nat.reduceEqDiff, Nat.reduceBneDiff, Int.reduceLE, Int.reduceLT, Int.reduceToNat, Int.reduceBEq, Int.reduceBNe, Int.reduceAdd, Int.reduceSub, Int.cast_ofNat_Int]
theorem checks_c (p : PolV) (hp : POK p) : AC 3 [polA p] (boo true) := by
  have V := svalid_c p hp
  have R := valid38_c p hp
  generalize polE p = e at *
  refine ACalls.of ⟨3, []⟩ (fn := Tryz.f3) Tryz.func3 rfl rfl rfl (by kernel_rfl) (by kernel_rfl) (Nat.le_of_ble_eq_true rfl) ?_
  simp -implicitDefEqProofs only [go_sem, awp_seq, Nat.reduceBNe, Nat.reduceBEq, Nat.reduceAdd, Nat.reduceSub, Nat.reduceMul, Nat.reduceLeDiff, Nat.reduceLT, Nat.reduceEqDiff, Nat.reduceBneDiff, Int.reduceLE, Int.reduceLT, Int.reduceToNat, Int.reduceBEq, Int.reduceBNe, Int.reduceAdd, Int.reduceSub, Int.cast_ofNat_Int]
  refine callA_mk V ?_
  simp -implicitDefEqProofs only [go_sem, awp_seq, Nat.reduceBNe, Nat.reduceBEq, Nat.reduceAdd, Nat.reduceSub, Nat.reduceMul, Nat.reduceLeDiff, Nat.reduceLT, Nat.reduceEqDiff, Nat.reduceBneDiff, Int.reduceLE, Int.reduceLT, Int.reduceToNat, Int.reduceBEq, Int.reduceBNe, Int.reduceAdd, Int.reduceSub, Int.cast_ofNat_Int]
  refine callA_t R ?_
  simp -implicitDefEqProofs only [BEq.rfl, go_sem, awp_seq, Nat.reduceBNe, Nat.reduceBEq, Nat.reduceAdd, Nat.reduceSub, Nat.reduceMul, Nat.reduceLeDiff, Nat.reduceLT, Nat.reduceEqDiff, Nat.reduceBneDiff, Int.reduceLE, Int.reduceLT, Int.reduceToNat, Int.reduceBEq, Int.reduceBNe, Int.reduceAdd, Int.reduceSub, Int.cast_ofNat_Int]
  refine callA_mk awake38_c ?_
  simp -implicitDefEqProofs only [go_sem, awp_seq, Nat.reduceBNe, Nat.reduceBEq, Nat.reduceAdd, Nat.reduceSub, Nat.reduceMul, Nat.reduceLeDiff, Nat.reduceLT, Nat.reduceEqDiff, Nat.reduceBneDiff, Int.reduceLE, Int.reduceLT, Int.reduceToNat, Int.reduceBEq, Int.reduceBNe, Int.reduceAdd, Int.reduceSub, Int.cast_ofNat_Int]
end Go.Proofs.YtfchbehmeppckaaGreat

/- The laws of chapter 38, for all arguments of their shapes. -/
set_option linter.unusedSimpArgs false
set_option linter.unusedVariables false
namespace Go.Proofs.YtfchbehmeppckaaGreat
open Go.RowKit Lim

abbrev shW : SH := .sl (.sl .nat)
theorem Ok.wss {B : Nat} {cs : List AV} (h : Ok B shW cs) (hB : B ≤ 2000000) : ∃ wss : List (List (List Nat)), cs = [natss wss] ∧ W3 wss := by
  obtain ⟨l, rfl, h1, h2⟩ := h.list (f := fun ws : List (List Nat) => [nats ws]) (Q := fun ws => WOK ws ∧ ws.length < 3000000) (fun x hx => by
    obtain ⟨ws, rfl, k1, k2⟩ := hx.weights hB
    exact ⟨ws, rfl, k1, by omega⟩)
  exact ⟨l, rfl, h2⟩
theorem okA_one {B : Nat} {s : SH} {as' : List AV} (h : OkA B [s] as') : ∃ a, as' = [s.top a] ∧ Ok B s a := by
  cases h with | cons h1 h2 => cases h2; exact ⟨_, rfl, h1⟩
theorem okA_two {B : Nat} {s t : SH} {as' : List AV} (h : OkA B [s, t] as') : ∃ a b, as' = [s.top a, t.top b] ∧ Ok B s a ∧ Ok B t b := by
  cases h with | cons h1 h2 => obtain ⟨b, rfl, h3⟩ := okA_one h2; exact ⟨_, b, rfl, h1, h3⟩
theorem okA_three {B : Nat} {s t u : SH} {as' : List AV} (h : OkA B [s, t, u] as') : ∃ a b c, as' = [s.top a, t.top b, u.top c] ∧ Ok B s a ∧ Ok B t b ∧ Ok B u c := by
  cases h with | cons h1 h2 => obtain ⟨b, c, rfl, h3, h4⟩ := okA_two h2; exact ⟨_, b, c, rfl, h1, h3, h4⟩
theorem sFull.law (as' : List AV) (h : OkA 1048576 [shPol, shW] as') : AC 7 as' (boo true) := by
  obtain ⟨a, b, rfl, h1, h2⟩ := okA_two h
  obtain ⟨p, rfl, hp⟩ := h1.pol (by omega)
  obtain ⟨wss, rfl, hw⟩ := h2.wss (by omega)
  exact full_c p hp wss hw
theorem sLen.law (as' : List AV) (h : OkA 1048576 [shPol, shW] as') : AC 6 as' (boo true) := by
  obtain ⟨a, b, rfl, h1, h2⟩ := okA_two h
  obtain ⟨p, rfl, hp⟩ := h1.pol (by omega)
  obtain ⟨wss, rfl, hw⟩ := h2.wss (by omega)
  exact length_c p hp wss hw
theorem sPrec.law (as' : List AV) (h : OkA 1048576 [shPol, shR, shW] as') : AC 8 as' (boo true) := by
  obtain ⟨a, b, c, rfl, h1, h2, h3⟩ := okA_three h
  obtain ⟨p, rfl, hp⟩ := h1.pol (by omega)
  obtain ⟨o, rfl, ho⟩ := h2.rat (by omega)
  obtain ⟨wss, rfl, hw⟩ := h3.wss (by omega)
  exact precision_c p hp o ho wss hw
theorem sChk.law (as' : List AV) (h : OkA 1048576 [shPol] as') : AC 3 as' (boo true) := by
  obtain ⟨a, rfl, h1⟩ := okA_one h
  obtain ⟨p, rfl, hp⟩ := h1.pol (by omega)
  exact checks_c p hp
end Go.Proofs.YtfchbehmeppckaaGreat
