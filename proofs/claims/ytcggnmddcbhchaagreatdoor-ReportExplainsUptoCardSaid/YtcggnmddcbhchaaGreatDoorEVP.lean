import Derived.Test.YtcggnmddcbhchaaGreatDoorEVO
/- Text VP. -/
set_option linter.unusedSimpArgs false
set_option linter.unusedVariables false
namespace Go.Proofs.YtcggnmddcbhchaaGreatDoor
open Go.RowKit Lim
abbrev LT:=List (Nat × Option TV)
abbrev LM:=List (Nat × List AV)
abbrev LQ:=List (Nat × OV)
section
variable {α:Type} {L:α→LT} {M:α→LM} {Q:α→LQ} {μ:α→Nat} {x:α} {K:Exit→AS→Prop} {σ:AS}
end
def lookL (m:LM) (q:LQ):TV→Option (List AV)
 | .ref t off=>(ofL m t).map (·.drop off)
 | .av (.ptr cs)=>some cs
 | .oref t k i o=>(ofL q t).bind (OV.look k i o)
 | _=>none
section
variable {C:Ctx} {dr:Bool} {ops:Array Oper} {os:List Oper} {l:LT} {m:LM} {q:LQ} {K:AS→Prop} {ty:TypeId} {p:String} {af:Array Edge} {t:Nat} {d:Option Nat}
def lookG (m:LM) (q:LQ):TV→Option (List AV)
 | .av (.lit (.pointer (some ⟨g,off,none⟩)))=>(globT g).map fun cs=>(cs.drop off).map AV.lit
 | x=>lookL m q x
def rowA (C:Ctx) (dr:Bool) (ops:Array Oper) (os:List Oper) (l:LT) (m:LM) (q:LQ) (t k j o:Nat) (ov:OV) (z:AV) (K:AS→Prop):Prop:=z.cells.all AV.one=true∧(match ov with
   | .row e k' es=>k'=k∧z.cells.all AV.noLimb=true∧∃el,es[j]? = some el∧o+z.cells.length≤k∧arun C dr ops os ⟨ofT l,ofL m,ofL (setL q t (.row e k (es.set j (mkEl k (splice el.cells o z.cells)))))⟩ K
   | .limb e ns=>k=1∧o=0∧j<ns.length∧∃n,z=.lit (.int .u32 n)∧0≤n∧n<4294967296∧arun C dr ops os ⟨ofT l,ofL m,ofL (setL q t (.limb e (ns.set j n.toNat)))⟩ K)
end
end Go.Proofs.YtcggnmddcbhchaaGreatDoor
