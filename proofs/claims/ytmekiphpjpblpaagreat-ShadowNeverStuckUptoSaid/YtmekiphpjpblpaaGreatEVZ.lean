import Derived.Test.YtmekiphpjpblpaaGreatEVT
import Derived.Laws.IdiomStrings
/- Text VZ. -/
set_option linter.unusedSimpArgs false
set_option linter.unusedVariables false
set_option maxHeartbeats 40000000
set_option maxRecDepth 100000
namespace Go.Proofs.YtmekiphpjpblpaaGreat
open Go.RowKit Lim
inductive Move where
 | ren (d n:Nat)
 | shut (ns:List Nat)
 | frz (ts:List Nat)
 | frzB (ts:List Nat)
section
variable {C:Ctx} {u:Bool} {w0:Base} {w w':World} {Z0 Z Z':Zone} {σ τ:AS} {a:Act} {β:Nat→Nat} {κ:Nat→Nat × Nat}
end
def EqV (P:Program) (op:BinOp) (ty:TypeId) (ox oy:Operand) (a b:AV) (r:Bool):Prop :=
 ∀w Z va vb,Rep w Z a va→Rep w Z b vb→(do eqGuard op ty ox oy va vb;binOp op ty va vb:Sem Value).run P w=.ok (.bool r) w
section
variable {C:Ctx} {u:Bool} {w0:Base} {w w':World} {Z0 Z Z':Zone} {σ τ:AS} {a:Act} {β:Nat→Nat} {κ:Nat→Nat × Nat}
theorem run_append_zero {P:Program} (w:World) (t ty e:TypeId) (i:TypeInfo) (ht:P.underlying t=some (.slice e)) (hi:P.info? e=some i) (A B:Option Addr) (n c c2:Nat) (hn:n≤c) :
  (Builtin.append_ #[t,t] ty #[.slice A n c,.slice B 0 c2]).run P w=.ok (.slice A n c) w:=by
 have hf:(Builtin.firstCells i.size 0 (.slice B 0 c2)).run P w=.ok #[] w:=by
  cases B with
  | none=>exact run_firstCells_none w i.size 0 0 c2
  | some b =>
   have:=run_firstCells_some (P:=P) w i.size 0 b 0 c2 [] (by simp) (fun j v hj=>by simp at hj)
   simpa using this
 cases A with
 | none=>simp [Builtin.append_,run_underlying ht,sizeOf,typeInfo,hi,Builtin.lenOf,hn,hf]
 | some a=>simp [Builtin.append_,run_underlying ht,sizeOf,typeInfo,hi,Builtin.lenOf,hn,hf,storeCells]
end
section
variable {C:Ctx} {ops:Array Oper} {N:Nat} {w0:Base} {Z0:Zone} {σ τ:AS} {o:Oper}
end
end Go.Proofs.YtmekiphpjpblpaaGreat
