/- PROVED: 'Rows.StoppingReasonsUptoSaid': for all arguments that can be read and are together of bulk at most 1048576, 'examboardlaw38.StoppingReasons' returns true and leaves what it was given as it was. CONDITIONS: the bulk. -/
import Derived.Test.YtfchbehmeppckaaGreatP4
set_option linter.unusedSimpArgs false
set_option linter.unusedVariables false
namespace Go.Proofs.YtfchbehmeppckaaGreat
open Go.ChangeShapes Go.WideShapes Go.ChangeAt Go.RowKit Lim
namespace sReas

theorem own : ownKnob Tryz.prog.godebug = none := by kernel_rfl
theorem laidOut : laidOutB Tryz.prog = true := by kernel_rfl
set_option maxRecDepth 100000 in
theorem env_of {W : World} (hs : W.ShapedOpen Tryz.prog) : Env W :=
  ⟨Go.Proofs.cell_of_shapedOpen_int (zero := #[.int .i64 0]) (t := 3) hs (of_decide_eq_true (by kernel_rfl)) (by kernel_rfl) rfl (by kernel_rfl) (by kernel_rfl) Tryz.underlying3⟩
def arg0 : Array Value := #[.agg #[.int .i64 0, .slice none 0 0, .slice none 0 0, .slice none 0 0, .slice none 0 0, .int .i64 0, .bool false, .slice none 0 0, .slice none 0 0, .int .i64 0, .bool false, .slice none 0 0, .slice none 0 0, .int .i64 0, .bool false, .slice none 0 0, .slice none 0 0, .int .i64 0], .int .i64 0, .slice none 0 0]
theorem laid_met (os : Os) : laidMetH Tryz.prog Rows.stoppingReasonsUptoRow.laid ((World.laidAll Tryz.prog os Rows.stoppingReasonsUptoRow.laid).forCall (fun _ _ => 0) ⟨#[], arg0, []⟩).memory := by
  rw [MakeChecks.laidMetH_plain _ _ _ (by kernel_rfl)]
  exact laidMet_laidAll _ (by kernel_rfl) (by kernel_rfl)
theorem reads (os : Os) {H : Type} (enc : TypeId × Value → H) : ∃ places, DataW.whole enc Tryz.prog ((World.laidAll Tryz.prog os Rows.stoppingReasonsUptoRow.laid).forCall (fun _ _ => 0) ⟨#[], arg0, []⟩).memory Tryz.f4.params.toList Rows.stoppingReasonsSpec.vars false arg0.toList 8 = some ([.agg [.agg [.lit (.int .i64 0), .nil], .agg [.nil, .nil], .nil, .lit (.int .i64 0), .agg [.agg [.lit (.bool false), .nil], .nil], .lit (.int .i64 0), .agg [.agg [.lit (.bool false), .nil], .nil], .lit (.int .i64 0), .agg [.agg [.lit (.bool false), .nil], .nil], .lit (.int .i64 0)], .lit (.int .i64 0), .nil], [], places) :=
  ⟨[], by kernel_rfl⟩

set_option maxRecDepth 100000 in
theorem contract (H : Type) (enc : TypeId × Value → H) (W : World) (base : Nat) (args : Array Value) (ds gs : List (DataW H)) (before : List MemPlace)
    (hval : ∀ (j : Nat) t v, Tryz.f4.params[j]? = some t → args[j]? = some v → Value.okWide Tryz.prog W .any base t v)
    (hW : DataW.Whole enc Tryz.prog Tryz.f4.params.toList Rows.stoppingReasonsSpec.vars false W args.toList ds gs before) (hE : Env W) (hu : Rows.uptoSmall H (ds ++ gs) = true) :
    Calls Tryz.prog 4 args W fun e W' => ∃ v, e = .returned v ∧ Rows.stoppingReasonsSpec.post enc Tryz.prog Tryz.f4 false true false false W args v W' :=
  law_row laidOut Tryz.underlying4 rfl (by kernel_rfl) (by kernel_rfl) [shPol, shI, (.sl .nat)] (by kernel_rfl) (fun ds hd => by
    match ds, hd with
    | [d0, d1, d2], _ => rfl) law hval hW hE hu

set_option maxRecDepth 100000 in
theorem liftedUpto (os : Os) (started : os.Started) (H : Type) (enc : TypeId × Value → H) (F : Stop.Interp) :
    ReturnsInHanded {} Tryz.checked os 4 .any ((Rows.OpenSpec.upto Rows.stoppingReasonsSpec).preRow enc Tryz.prog Tryz.f4 Rows.stoppingReasonsUptoRow.domain false Rows.stoppingReasonsUptoRow.laid) (((Rows.OpenSpec.upto Rows.stoppingReasonsSpec).at F).post enc Tryz.prog Tryz.f4 false true false false) := by
  obtain ⟨places, hx⟩ := reads os enc
  refine returnsInHanded_of_row (C := Tryz.checked) (s := Rows.OpenSpec.upto Rows.stoppingReasonsSpec) own started (by kernel_rfl) Tryz.func4
    (witness_row_at (enc := enc) (C := Tryz.checked) false (World.laidAll Tryz.prog os Rows.stoppingReasonsUptoRow.laid) arg0 (World.laidAll_os _ _ _) (by kernel_rfl) (by kernel_rfl) (by kernel_rfl)
      (OpenSpec.preRow_of_cond 8 hx (by kernel_rfl) (fun k hk => by cases hk; kernel_rfl) (by kernel_rfl) (laid_met os))) ?_
  intro W base args ds gs before hval hW _ hcond _ hL hsh _
  exact contract H enc W base args ds gs before hval hW (env_of hsh) (hcond _ rfl)

theorem saidUpto : Rows.StoppingReasonsUptoSaid :=
  OpenClaim.holds_of_cond 4 Tryz.f4 rfl rfl rfl rfl rfl rfl rfl ⟨rfl, rfl, rfl, rfl, rfl⟩ rfl rfl rfl rfl rfl (by kernel_rfl) Tryz.func4 (by kernel_rfl)
    (of_decide_eq_true (by kernel_rfl)) (by unfold Func.isWrapper; first | (rw [if_pos (by decide +kernel)]; kernel_rfl) | (rw [if_neg (by decide +kernel)]; exact ⟨rfl, rfl⟩))
    (fun os started H enc _ F => by rw [OpenClaim.pre_eq_preRow]; exact liftedUpto os started H enc F)
end sReas
end Go.Proofs.YtfchbehmeppckaaGreat
