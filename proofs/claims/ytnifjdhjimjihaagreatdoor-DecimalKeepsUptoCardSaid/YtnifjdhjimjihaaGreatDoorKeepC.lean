/- 'DecimalKeeps': what its contract gives at the row's arguments. -/
import Derived.Test.YtnifjdhjimjihaaGreatDoorKeep
import Derived.Test.YtnifjdhjimjihaaGreatDoorMirrorC
import Derived.ChangeMaps5
set_option linter.unusedSimpArgs false
set_option linter.unusedVariables false
namespace Go.Proofs.YtnifjdhjimjihaaGreatDoor
open Go.ChangeShapes Go.WideShapes Go.ChangeAt Go.RowKit Lim
namespace dKeep
open dMirror

theorem reps {W : World} {Z : Zone} {x0 : AV} {y0 : Value} {x1 : AV} {y1 : Value} {x2 : AV} {y2 : Value} {x3 : AV} {y3 : Value} (h0 : Rep W Z x0 y0) (h1 : Rep W Z x1 y1) (h2 : Rep W Z x2 y2) (h3 : Rep W Z x3 y3) : Rep W Z (.agg [x0, x1, x2, x3]) (.agg #[y0, y1, y2, y3]) := by
  refine .agg rfl fun j hj => ?_
  match j, hj with
  | 0, _ => exact h0
  | 1, _ => exact h1
  | 2, _ => exact h2
  | 3, _ => exact h3

set_option maxRecDepth 100000 in
theorem contract (H : Type) (enc : TypeId × Value → H) (W : World) (base : Nat) (args : Array Value) (ds gs : List (DataW H)) (before : List MemPlace)
    (hval : ∀ (j : Nat) t v, Tryz.f7.params[j]? = some t → args[j]? = some v → Value.okWide Tryz.prog W .any base t v)
    (hW : DataW.Whole enc Tryz.prog Tryz.f7.params.toList Rows.decimalKeepsSpec.vars false W args.toList ds gs before) (hE : Env W) (hu : Rows.uptoSmall H (ds ++ gs) = true) :
    Calls Tryz.prog 7 args W fun e W' => ∃ v, e = .returned v ∧ Rows.decimalKeepsSpec.post enc Tryz.prog Tryz.f7 false true false false W args v W' := by
  have hW' := hW
  obtain ⟨p, q, hA0, hV, rfl, hfz, hnd⟩ := hW
  have hA : DataW.TrodAll enc Tryz.prog W 0 (fun _ => true) true Tryz.f7.params.toList args.toList ds p := hA0
  rw [Tryz.params7] at hA hval
  obtain ⟨v0, v1, v2, v3, d0, d1, d2, d3, p0, p1, p2, p3, rfl, rfl, rfl, h0, h1, h2, h3⟩ := trodAll_four hA
  obtain ⟨rfl, rfl⟩ := trodVars_none hV
  obtain ⟨n0, hn0⟩ := h0
  obtain ⟨t0, A0, c0, l0, q0, e0, ra0, rb0, re0⟩ := trod_dec hn0
  have ev0 : v0 = .agg #[.bool t0, .slice A0 l0.length c0, .int .i64 q0] := agg_val (j := 0) Tryz.underlying29 hval rfl rfl e0
  clear hn0 e0
  dsimp only at re0
  subst ev0
  obtain ⟨n1, hn1⟩ := h1
  obtain ⟨t1, A1, c1, l1, B1, f1, m1, e1, ra1, rb1, rc1, rd1, re1, rf1⟩ := trod_rat hn1
  have ev1 : v1 = .agg #[.bool t1, .slice A1 l1.length c1, .slice B1 m1.length f1] := agg_val (j := 1) Tryz.underlying27 hval rfl rfl e1
  clear hn1 e1
  dsimp only at re1 rf1
  subst ev1
  obtain ⟨z2, rfl, rfl, rfl, _⟩ := open_int Tryz.underlying3 (hval 2 3 v2 rfl rfl) h2
  obtain ⟨z3, rfl, rfl, rfl, _⟩ := open_int Tryz.underlying3 (hval 3 3 v3 rfl rfl) h3
  simp only [Rows.uptoSmall, List.append_nil, Rows.uptoBulkAll, decide_eq_true_eq] at hu
  exact law_end laidOut04 Tryz.underlying4 rfl (by kernel_rfl) (by kernel_rfl) hW' rfl
    (ac_calls (keeps_c t0 l0 q0 t1 l1 m1 z2 z3 (by omega) ra0.1 (by omega) (by omega) ra1.1 rc1.1) hE (reps (rep3 (.lit rfl) (.nat ra0 rb0) (.lit rfl)) (rep_rat ra1 rb1 rc1 rd1) (.lit rfl) (.lit rfl)))
end dKeep
end Go.Proofs.YtnifjdhjimjihaaGreatDoor
