/- 'DecimalNotation': what its contract gives at the row's arguments. -/
import Derived.Test.YtnifjdhjimjihaaGreatDoorNot
import Derived.Test.YtnifjdhjimjihaaGreatDoorMirrorC
import Derived.ChangeMaps5
set_option linter.unusedSimpArgs false
set_option linter.unusedVariables false
namespace Go.Proofs.YtnifjdhjimjihaaGreatDoor
open Go.ChangeShapes Go.WideShapes Go.ChangeAt Go.RowKit Lim
namespace dNot
open dMirror

theorem reps {W : World} {Z : Zone} {x0 : AV} {y0 : Value} {x1 : AV} {y1 : Value} (h0 : Rep W Z x0 y0) (h1 : Rep W Z x1 y1) : Rep W Z (.agg [x0, x1]) (.agg #[y0, y1]) := by
  refine .agg rfl fun j hj => ?_
  match j, hj with
  | 0, _ => exact h0
  | 1, _ => exact h1

set_option maxRecDepth 100000 in
theorem contract (H : Type) (enc : TypeId × Value → H) (W : World) (base : Nat) (args : Array Value) (ds gs : List (DataW H)) (before : List MemPlace)
    (hval : ∀ (j : Nat) t v, Tryz.f4.params[j]? = some t → args[j]? = some v → Value.okWide Tryz.prog W .any base t v)
    (hW : DataW.Whole enc Tryz.prog Tryz.f4.params.toList Rows.decimalNotationSpec.vars false W args.toList ds gs before) (hE : Env W) (hu : Rows.uptoSmall H (ds ++ gs) = true) :
    Calls Tryz.prog 4 args W fun e W' => ∃ v, e = .returned v ∧ Rows.decimalNotationSpec.post enc Tryz.prog Tryz.f4 false true false false W args v W' := by
  have hW' := hW
  obtain ⟨p, q, hA0, hV, rfl, hfz, hnd⟩ := hW
  have hA : DataW.TrodAll enc Tryz.prog W 0 (fun _ => true) true Tryz.f4.params.toList args.toList ds p := hA0
  rw [Tryz.params4] at hA hval
  obtain ⟨v0, v1, d0, d1, p0, p1, rfl, rfl, rfl, h0, h1⟩ := trodAll_two hA
  obtain ⟨rfl, rfl⟩ := trodVars_none hV
  obtain ⟨n0, hn0⟩ := h0
  obtain ⟨t0, A0, c0, l0, q0, e0, ra0, rb0, re0⟩ := trod_dec hn0
  have ev0 : v0 = .agg #[.bool t0, .slice A0 l0.length c0, .int .i64 q0] := agg_val (j := 0) Tryz.underlying29 hval rfl rfl e0
  clear hn0 e0
  dsimp only at re0
  subst ev0
  obtain ⟨s1, rfl, rfl, rfl, _⟩ := Go.ChangeMaps.open_string Tryz.underlying9 (hval 1 9 v1 rfl rfl) h1
  simp only [Rows.uptoSmall, List.append_nil, Rows.uptoBulkAll, Rows.uptoBulk, decide_eq_true_eq] at hu
  exact law_end laidOut04 Tryz.underlying4 rfl (by kernel_rfl) (by kernel_rfl) hW' rfl
    (ac_calls (notation_c t0 l0 q0 s1.data.toList (by omega) ra0.1 (by omega)) hE (reps (rep3 (.lit rfl) (.nat ra0 rb0) (.lit rfl)) (rep_str s1)))
end dNot
end Go.Proofs.YtnifjdhjimjihaaGreatDoor
