/- 'DecimalRounds': what its contract gives at the row's arguments. -/
import Derived.Test.YtnifjdhjimjihaaGreatDoorWRnd
import Derived.Test.YtnifjdhjimjihaaGreatDoorWRow
import Derived.ChangeMaps5
set_option linter.unusedSimpArgs false
set_option linter.unusedVariables false
namespace Go.Proofs.YtnifjdhjimjihaaGreatDoor
open Go.ChangeShapes Go.WideShapes Go.ChangeAt Go.RowKit Lim
namespace dRnd

theorem reps {W : World} {Z : Zone} {x0 : AV} {y0 : Value} {x1 : AV} {y1 : Value} {x2 : AV} {y2 : Value} (h0 : Rep W Z x0 y0) (h1 : Rep W Z x1 y1) (h2 : Rep W Z x2 y2) : Rep W Z (.agg [x0, x1, x2]) (.agg #[y0, y1, y2]) := by
  refine .agg rfl fun j hj => ?_
  match j, hj with
  | 0, _ => exact h0
  | 1, _ => exact h1
  | 2, _ => exact h2

set_option maxRecDepth 100000 in
theorem contract (H : Type) (enc : TypeId × Value → H) (W : World) (base : Nat) (args : Array Value) (ds gs : List (DataW H)) (before : List MemPlace)
    (hval : ∀ (j : Nat) t v, Tryz.f3.params[j]? = some t → args[j]? = some v → Value.okWide Tryz.prog W .any base t v)
    (hW : DataW.Whole enc Tryz.prog Tryz.f3.params.toList Rows.decimalRoundsSpec.vars false W args.toList ds gs before) (hE : Env W) (hu : Rows.uptoSmall H (ds ++ gs) = true) :
    Calls Tryz.prog 3 args W fun e W' => ∃ v, e = .returned v ∧ Rows.decimalRoundsSpec.post enc Tryz.prog Tryz.f3 false true false false W args v W' := by
  have hW' := hW
  obtain ⟨p, q, hA0, hV, rfl, hfz, hnd⟩ := hW
  have hA : DataW.TrodAll enc Tryz.prog W 0 (fun _ => true) true Tryz.f3.params.toList args.toList ds p := hA0
  rw [Tryz.params3] at hA hval
  obtain ⟨v0, v1, v2, d0, d1, d2, p0, p1, p2, rfl, rfl, rfl, h0, h1, h2⟩ := trodAll_three hA
  obtain ⟨rfl, rfl⟩ := trodVars_none hV
  obtain ⟨n0, hn0⟩ := h0
  obtain ⟨t0, A0, c0, l0, B0, f0, m0, e0, ra0, rb0, rc0, rd0, re0, rf0⟩ := trod_rat hn0
  have ev0 : v0 = .agg #[.bool t0, .slice A0 l0.length c0, .slice B0 m0.length f0] := agg_val (j := 0) Tryz.underlying27 hval rfl rfl e0
  clear hn0 e0
  dsimp only at re0 rf0
  subst ev0
  obtain ⟨z1, rfl, rfl, rfl, _⟩ := open_int Tryz.underlying3 (hval 1 3 v1 rfl rfl) h1
  obtain ⟨z2, rfl, rfl, rfl, _⟩ := open_int Tryz.underlying3 (hval 2 3 v2 rfl rfl) h2
  simp only [Rows.uptoSmall, List.append_nil, Rows.uptoBulkAll, decide_eq_true_eq] at hu
  exact law_end laidOut04 Tryz.underlying4 rfl (by kernel_rfl) (by kernel_rfl) hW' rfl
    (ac_calls (drounds_c t0 l0 m0 z1 z2 (by omega) (by omega) ra0.1 rc0.1) hE (reps (rep_rat ra0 rb0 rc0 rd0) (.lit rfl) (.lit rfl)))
end dRnd
end Go.Proofs.YtnifjdhjimjihaaGreatDoor
