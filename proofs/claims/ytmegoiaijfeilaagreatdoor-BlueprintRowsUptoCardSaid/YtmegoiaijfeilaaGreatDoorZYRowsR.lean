/- PROVED: 'Rows.BlueprintRowsUptoCardSaid': for all arguments that can be read and are together of bulk at most 1048576, 'examboardlaw33.BlueprintRows' returns true and leaves what it was given as it was. CONDITIONS: the bulk; the variables that the row lists, tied to the program's text by the given tie. -/
import Derived.Test.YtmegoiaijfeilaaGreatDoorB5
import Derived.Test.YtmegoiaijfeilaaGreatDoorCards
import Derived.Test.YtmegoiaijfeilaaGreatDoorTie
import Derived.Stop.LaidErr
import Derived.Lib.LaidTab
import Derived.ChangeMaps5
set_option linter.unusedSimpArgs false
set_option linter.unusedVariables false
namespace Go.Proofs.YtmegoiaijfeilaaGreatDoor
open Go.ChangeShapes Go.WideShapes Go.ChangeAt Go.RowKit Lim
namespace brows
theorem own:ownKnob Tryz.prog.godebug=none:=by kernel_rfl
theorem laidOut:laidOutB Tryz.prog=true:=by kernel_rfl
set_option maxRecDepth 100000 in
theorem env_of {W:World} (hL:laidMetH Tryz.prog Rows.blueprintRowsUptoRow.laid W) (hs:W.ShapedOpen Tryz.prog):Env W:=by
 rw [MakeChecks.laidMetH_plain _ _ _ (by kernel_rfl)]at hL
 have h3:=hL.tail.tail
 refine ⟨Lib.tabIs_of_head (g:=1) (t:=220) (e:=183) (n:=20) (by kernel_rfl) (by kernel_rfl) Tryz.underlying220 Tryz.underlying183 (by kernel_rfl) (by kernel_rfl) h3,?_,fun _ _ h=>by cases h⟩
 exact Go.Proofs.cell_of_shapedOpen_int (zero:=#[.int .i64 0]) (t:=3) hs (of_decide_eq_true (by kernel_rfl)) (by kernel_rfl) rfl (by kernel_rfl) (by kernel_rfl) Tryz.underlying3
def arg0:Array Value:=#[.agg #[.int .i64 0,.slice none 0 0],.slice none 0 0,.slice none 0 0,.slice none 0 0]
theorem laid_met (os:Os):laidMetH Tryz.prog Rows.blueprintRowsUptoRow.laid ((World.laidAll Tryz.prog os Rows.blueprintRowsUptoRow.laid).forCall (fun _ _=>0) ⟨#[],arg0,[]⟩).memory:=by
 rw [MakeChecks.laidMetH_plain _ _ _ (by kernel_rfl)]
 exact laidMet_laidAll _ (by kernel_rfl) (by kernel_rfl)
theorem reads (os:Os) {H:Type} (enc:TypeId × Value→H):∃places,DataW.whole enc Tryz.prog ((World.laidAll Tryz.prog os Rows.blueprintRowsUptoRow.laid).forCall (fun _ _=>0) ⟨#[],arg0,[]⟩).memory Tryz.f4.params.toList Rows.blueprintRowsSpec.vars false arg0.toList 8=some ([.agg [.lit (.int .i64 0),.nil],.nil,.nil,.nil],[],places) :=
 ⟨[],by kernel_rfl⟩
set_option maxRecDepth 100000 in
theorem contract (H:Type) (enc:TypeId × Value→H) (W:World) (base:Nat) (args:Array Value) (ds gs:List (DataW H)) (before:List MemPlace)
  (hval:∀(j:Nat) t v,Tryz.f4.params[j]? = some t→args[j]? = some v→Value.okWide Tryz.prog W .any base t v)
  (hW:DataW.Whole enc Tryz.prog Tryz.f4.params.toList Rows.blueprintRowsSpec.vars false W args.toList ds gs before) (hE:Env W) (hu:Rows.uptoSmall H (ds ++ gs)=true) :
  Calls Tryz.prog 4 args W fun e W'=>∃v,e=.returned v∧Rows.blueprintRowsSpec.post enc Tryz.prog Tryz.f4 false true false false W args v W' :=
 law_row laidOut Tryz.underlying4 rfl (by kernel_rfl) (by kernel_rfl) [shSp,(.sl shPI),(.sl shPr),(.sl shI)] (by kernel_rfl) (fun ds hd=>by
  match ds,hd with
  | [d0,d1,d2,d3],_=>rfl) law hval hW hE hu
set_option maxRecDepth 100000 in
theorem liftedUpto (os:Os) (started:os.Started) (H:Type) (enc:TypeId × Value→H) (F:Stop.Interp) :
  ReturnsInHanded {} Tryz.checked os 4 .any ((Rows.OpenSpec.upto Rows.blueprintRowsSpec).preRow enc Tryz.prog Tryz.f4 Rows.blueprintRowsUptoRow.domain false Rows.blueprintRowsUptoRow.laid) (((Rows.OpenSpec.upto Rows.blueprintRowsSpec).at F).post enc Tryz.prog Tryz.f4 false true false false):=by
 obtain ⟨places,hx⟩:=reads os enc
 refine returnsInHanded_of_row (C:=Tryz.checked) (s:=Rows.OpenSpec.upto Rows.blueprintRowsSpec) own started (by kernel_rfl) Tryz.func4
  (witness_row_at (enc:=enc) (C:=Tryz.checked) false (World.laidAll Tryz.prog os Rows.blueprintRowsUptoRow.laid) arg0 (World.laidAll_os _ _ _) (by kernel_rfl) (by kernel_rfl) (by kernel_rfl)
   (OpenSpec.preRow_of_cond 8 hx (by kernel_rfl) (fun k hk=>by cases hk;kernel_rfl) (by kernel_rfl) (laid_met os))) ?_
 intro W base args ds gs before hval hW _ hcond _ hL hsh _
 exact contract H enc W base args ds gs before hval hW (env_of hL hsh) (hcond _ rfl)
theorem saidUpto:Rows.BlueprintRowsUptoSaid :=
 OpenClaim.holds_of_cond 4 Tryz.f4 rfl rfl rfl rfl rfl rfl rfl ⟨rfl,rfl,rfl,rfl,rfl⟩ rfl rfl rfl rfl rfl (by kernel_rfl) Tryz.func4 (by kernel_rfl)
  (of_decide_eq_true (by kernel_rfl)) (by unfold Func.isWrapper;first|(rw [if_pos (by decide +kernel)];kernel_rfl)|(rw [if_neg (by decide +kernel)];exact ⟨rfl,rfl⟩))
  (fun os started H enc _ F=>by rw [OpenClaim.pre_eq_preRow];exact liftedUpto os started H enc F)
theorem plain (f : FuncId) (fn : Func) (hf : Tryz.pinned.checked.prog.funcNamed "examboard/examboardlaw33.BlueprintRows" = some f) (hfn : Tryz.pinned.checked.prog.funcs[f]? = some fn) :
  true=Tryz.pinned.checked.prog.looks []∧∀(j:Nat) t,fn.params[j]? = some t→Tryz.pinned.checked.prog.wantsStandIn t=false:=by
 obtain rfl : f = 4 := Option.some.inj ((show Tryz.prog.funcNamed "examboard/examboardlaw33.BlueprintRows" = some 4 by kernel_rfl).symm.trans hf) |>.symm
 obtain rfl:fn=Tryz.f4:=(Option.some.inj (Tryz.func4.symm.trans hfn)).symm
 refine ⟨by kernel_rfl,fun j t ht=>?_⟩
 rw [Tryz.params4]at ht
 obtain rfl|rfl|rfl|rfl:t=24∨t=25∨t=26∨t=27:=by simpa using Array.mem_of_getElem? ht
 ·exact (show Tryz.prog.wantsStandIn 24=false by kernel_rfl)
 ·exact (show Tryz.prog.wantsStandIn 25=false by kernel_rfl)
 ·exact (show Tryz.prog.wantsStandIn 26=false by kernel_rfl)
 ·exact (show Tryz.prog.wantsStandIn 27=false by kernel_rfl)
theorem cardUpto:Rows.BlueprintRowsUptoCardSaid :=
 Claim7.holds_tied_plain_at .later [] _ _ _ _ saidUpto (fun _ h=>by cases h) (by kernel_rfl) (fun _ h=>by cases h) blueprintRowsUpto_row_tie rfl ⟨rfl,rfl⟩ (by kernel_rfl) rfl plain (by kernel_rfl)
end brows
end Go.Proofs.YtmegoiaijfeilaaGreatDoor
