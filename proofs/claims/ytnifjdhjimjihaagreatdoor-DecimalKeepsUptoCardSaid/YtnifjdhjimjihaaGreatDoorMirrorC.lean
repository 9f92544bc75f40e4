/- 'DecimalMirror': the row and its card. -/
import Derived.Test.YtnifjdhjimjihaaGreatDoorRow
import Derived.Test.YtnifjdhjimjihaaGreatDoorLawM
import Derived.Deep.DeepWitnessRowRef
set_option linter.unusedSimpArgs false
set_option linter.unusedVariables false
namespace Go.Proofs.YtnifjdhjimjihaaGreatDoor
open Go.ChangeShapes Go.WideShapes Go.ChangeAt Go.RowKit Lim
namespace dMirror

theorem agg_val {P : Program} {t : TypeId} {fs : Array Field} {W : World} {r : Reach} {base j : Nat} {v : Value} {cs : List Value} {ps : Array TypeId} {args : Array Value} (hu : P.underlying t = some (.struct fs))
    (hval : ∀ (j : Nat) t v, ps[j]? = some t → args[j]? = some v → Value.okWide P W r base t v) (hp : ps[j]? = some t) (ha : args[j]? = some v) (h : v.cells.toList = cs) : v = .agg cs.toArray := by
  obtain ⟨a, rfl, _⟩ := okWide_struct hu (hval j t v hp ha)
  simp only [Value.cells] at h
  rw [← h]
theorem rep_rat {W : World} {Z : Zone} {t : Bool} {A B : Option Addr} {c f : Nat} {l m : List Nat} (h1 : Rd W A l) (h2 : l.length ≤ c) (h3 : Rd W B m) (h4 : m.length ≤ f) :
    Rep W Z (ratA t l m) (.agg #[.bool t, .slice A l.length c, .slice B m.length f]) := by
  refine .agg rfl fun j hj => ?_
  match j, hj with
  | 0, _ => exact .lit rfl
  | 1, _ => exact .nat h1 h2
  | 2, _ => exact .nat h3 h4
theorem rep_str {W : World} {Z : Zone} (s : ByteArray) : Rep W Z (str s.data.toList) (.string s) := by
  have e : bs s.data.toList = s := by cases s; simp [bs]
  show Rep W Z (.lit (.string (bs s.data.toList))) (.string s)
  rw [e]
  exact .lit rfl
theorem rep3 {W : World} {Z : Zone} {a b c : AV} {x y z : Value} (h1 : Rep W Z a x) (h2 : Rep W Z b y) (h3 : Rep W Z c z) : Rep W Z (.agg [a, b, c]) (.agg #[x, y, z]) := by
  refine .agg rfl fun j hj => ?_
  match j, hj with
  | 0, _ => exact h1
  | 1, _ => exact h2
  | 2, _ => exact h3

set_option maxRecDepth 100000 in
theorem contract (H : Type) (enc : TypeId × Value → H) (W : World) (base : Nat) (args : Array Value) (ds gs : List (DataW H)) (before : List MemPlace)
    (hval : ∀ (j : Nat) t v, Tryz.f5.params[j]? = some t → args[j]? = some v → Value.okWide Tryz.prog W .any base t v)
    (hW : DataW.Whole enc Tryz.prog Tryz.f5.params.toList Rows.decimalMirrorSpec.vars false W args.toList ds gs before) (hE : Env W) (hu : Rows.uptoSmall H (ds ++ gs) = true) :
    Calls Tryz.prog 5 args W fun e W' => ∃ v, e = .returned v ∧ Rows.decimalMirrorSpec.post enc Tryz.prog Tryz.f5 false true false false W args v W' := by
  have hW' := hW
  obtain ⟨p, q, hA0, hV, rfl, hfz, hnd⟩ := hW
  have hA : DataW.TrodAll enc Tryz.prog W 0 (fun _ => true) true Tryz.f5.params.toList args.toList ds p := hA0
  rw [Tryz.params5] at hA hval
  obtain ⟨v0, v1, v2, d0, d1, d2, p0, p1, p2, rfl, rfl, rfl, h0, h1, h2⟩ := trodAll_three hA
  obtain ⟨rfl, rfl⟩ := trodVars_none hV
  obtain ⟨n, hn⟩ := h0
  obtain ⟨t, A, c, l, B, f, m, e, r1, r2, r3, r4, r5, r6⟩ := trod_rat hn
  have ev : v0 = .agg #[.bool t, .slice A l.length c, .slice B m.length f] := agg_val (j := 0) Tryz.underlying27 hval rfl rfl e
  clear hn e
  subst ev
  obtain ⟨pl, rfl, rfl, rfl, _⟩ := open_int Tryz.underlying3 (hval 1 3 v1 rfl rfl) h1
  obtain ⟨mode, rfl, rfl, rfl, _⟩ := open_int Tryz.underlying3 (hval 2 3 v2 rfl rfl) h2
  have hb : Rows.uptoBulk d0 ≤ 1048576 := by
    simp only [Rows.uptoSmall, List.append_nil, Rows.uptoBulkAll, decide_eq_true_eq] at hu
    omega
  exact law_end laidOut04 Tryz.underlying4 rfl (by kernel_rfl) (by kernel_rfl) hW' rfl
    (ac_calls (mirror_c t l m pl mode (Nat.le_trans r5 hb) (Nat.le_trans r6 hb) r1.1 r3.1) hE (rep3 (rep_rat r1 r2 r3 r4) (.lit rfl) (.lit rfl)))

end dMirror
end Go.Proofs.YtnifjdhjimjihaaGreatDoor
