import Derived.Test.YtcaahphghaddgaaGreatDoorDXH
/- Text XI. -/
set_option linter.unusedSimpArgs false
set_option linter.unusedVariables false
namespace Go.Proofs.YtcaahphghaddgaaGreatDoor
open Go.RowKit Lim
def prims:Bool→FuncId→Option Ask1:=fun b f=>(lk primL f).bind fun p=>bif b || p.t then some p.ask else none
noncomputable def evwF (F:Nat):EvW:=⟨tab,Tryz.prog.funcs,lk howL,lk elL,sigM,prims,F⟩
theorem prims_some {b:Bool} {f:FuncId} {p:Ask1} (h:prims b f=some p):∃q,Prim.OK f q∧(b || q.t)=true∧p=q.ask:=by
 obtain ⟨q,h1,h2⟩:=bind_of h
 obtain ⟨h3,h4⟩:=bif_of h2
 cases h4
 exact ⟨q,primL_ok _ (lk_mem h1),h3,rfl⟩
set_option maxRecDepth 100000 in
theorem evw_ok {F:Nat}:EvOK ctx (evwF F):=by
 refine ⟨rfl,rfl,fun _ _ _ _ a a' h1 h2=>meth_some methL_ok h1 a a' h2,fun f h fn c h1 h2 h3=>fnOK_of (List.all_eq_true.1 how_ok _ (lk_mem h1)) h2 h3,fun f p args g x _ hp hx=>?_,fun f p args g x _ hp hx=>?_,fun f p args g x hl hp hx=>?_,fun f p args g x hl hp hx=>?_⟩
 ·obtain ⟨q,h1,_,rfl⟩:=prims_some (b:=true) (f:=f) hp
  rcases h1.ac hx with h|h
  ·exact .inl h.2
  ·exact .inr h.2
 ·obtain ⟨q,h1,h2,rfl⟩:=prims_some (b:=false) (f:=f) hp
  rw [Bool.false_or]at h2
  rcases h1.ac hx with h|h
  ·exact h.2
  ·rw [h.1]at h2;cases h2
 ·obtain ⟨q,_,_,rfl⟩:=prims_some (b:=true) (f:=f) hp
  rw [Prim.ask_plain hx]at hl;cases hl
 ·obtain ⟨q,_,_,rfl⟩:=prims_some (b:=false) (f:=f) hp
  rw [Prim.ask_plain hx]at hl;cases hl
noncomputable abbrev EF (F n:Nat):Ask:=ev (evwF F) n true
noncomputable abbrev E (n:Nat):Ask:=EF fuel n
end Go.Proofs.YtcaahphghaddgaaGreatDoor
