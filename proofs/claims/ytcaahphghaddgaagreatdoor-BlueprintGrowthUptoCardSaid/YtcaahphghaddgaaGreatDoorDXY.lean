import Derived.Test.YtcaahphghaddgaaGreatDoorDKA
/- Text XY. -/
set_option linter.unusedSimpArgs false
set_option linter.unusedVariables false
namespace Go.Proofs.YtcaahphghaddgaaGreatDoor
open Go.RowKit Lim
structure MeRow where
 t:TypeId
 name:String
 f:FuncId
 p:Option (Nat × Nat × Nat)
def partA (n o m:Nat):AV→Option AV
 | .agg cs=>bif Nat.beq cs.length n then some (.agg ((cs.drop o).take m)) else none
 | _=>none
def recvA:Option (Nat × Nat × Nat)→AV→Option AV
 | none,a=>some a
 | some (n,o,m),a=>partA n o m a
def MeE (P:Program) (e:MeRow):Prop:=∀a a',recvA e.p a=some a'→Meth P e.t e.name a e.f a'
def meth:List MeRow→TypeId→String→Option (FuncId × (AV→Option AV))
 | [],_,_=>none
 | e :: l,t,s=>bif Nat.beq e.t t && e.name == s then some (e.f,recvA e.p) else meth l t s
theorem meth_some {P:Program}:∀{l:List MeRow} {t:TypeId} {s:String} {f:FuncId} {r:AV→Option AV},(∀p∈l,MeE P p)→meth l t s=some (f,r)→∀a a',r a=some a'→Meth P t s a f a'
 | [],_,_,_,_,_,h=>by cases h
 | e :: l,t,s,f,r,hl,h=>by
  unfold meth at h
  cases hc:(Nat.beq e.t t && e.name == s)with
  | true =>
   rw [hc]at h
   cases h
   simp only [Bool.and_eq_true,beq_iff_eq]at hc
   have h1:=kbeq hc.1
   have h2:=hc.2
   subst h1
   subst h2
   exact hl e List.mem_cons_self
  | false =>
   rw [hc]at h
   exact meth_some (fun p hp=>hl p (List.mem_cons_of_mem _ hp)) h
theorem meW {P:Program} {t:TypeId} {s:String} {f:FuncId} (h:∀(w:World) (v:Value) (_:Unit),(method (P.types.size+Made.depth) t v s).run P w=.ok (f,v) w):MeE P ⟨t,s,f,none⟩ :=
 fun a a' ha w Z v hr=>by cases ha;exact ⟨v,h w v (),hr⟩
theorem rep_part {w:World} {Z:Zone} {cs:List AV} {vs:Array Value} (h:Rep w Z (.agg cs) (.agg vs)) (o m:Nat):Rep w Z (.agg ((cs.drop o).take m)) (.agg ((vs.toList.drop o).take m).toArray):=by
 obtain ⟨h1,h2⟩:=Rep.agg_iff.1 h
 refine Rep.agg_iff.2 ⟨by simp [h1],fun j x u hx hu=>?_⟩
 have hx':cs[o+j]? = some x:=by
  rw [List.getElem?_take]at hx
  split at hx
  ·rwa [List.getElem?_drop]at hx
  ·cases hx
 have hu':vs[o+j]? = some u:=by
  rw [List.getElem?_toArray,List.getElem?_take]at hu
  split at hu
  ·rw [List.getElem?_drop,Array.getElem?_toList]at hu;exact hu
  ·cases hu
 exact h2 _ _ _ hx' hu'
theorem arr_3 {vs:Array Value} (h:vs.size=3):∃a b c,vs=#[a,b,c]:=⟨vs[0],vs[1],vs[2],Array.ext (by simp [h]) fun i h1 h2=>by
 match i,h2 with
 | 0,_=>rfl
 | 1,_=>rfl
 | 2,_=>rfl⟩
theorem arr_4 {vs:Array Value} (h:vs.size=4):∃a b c d,vs=#[a,b,c,d]:=⟨vs[0],vs[1],vs[2],vs[3],Array.ext (by simp [h]) fun i h1 h2=>by
 match i,h2 with
 | 0,_=>rfl
 | 1,_=>rfl
 | 2,_=>rfl
 | 3,_=>rfl⟩
theorem partA_some {n o m:Nat} {a a':AV} (h:partA n o m a=some a'):∃cs,a=.agg cs∧cs.length=n∧a'=.agg ((cs.drop o).take m):=by
 unfold partA at h
 split at h
 ·rename_i cs
  obtain ⟨h1,h⟩:=kif h
  cases h
  exact ⟨cs,rfl,kbeq h1,rfl⟩
 ·cases h
theorem rep_aggV {w:World} {Z:Zone} {cs:List AV} {v:Value} (h:Rep w Z (.agg cs) v):∃vs,v=.agg vs∧vs.size=cs.length:=by
 cases h with
 | agg hl hr=>exact ⟨_,rfl,hl⟩
section
variable {P:Program} {t:TypeId} {s:String} {f:FuncId} {o m:Nat}
theorem meP3 (h:∀(w:World) (x0 x1 x2:Value),(method (P.types.size+Made.depth) t (.agg #[x0,x1,x2]) s).run P w=.ok (f,.agg (([x0,x1,x2].drop o).take m).toArray) w):MeE P ⟨t,s,f,some (3,o,m)⟩:=fun a a' ha w Z v hr=>by
 obtain ⟨cs,rfl,hn,rfl⟩:=partA_some ha
 obtain ⟨vs,rfl,hs⟩:=rep_aggV hr
 obtain ⟨x0,x1,x2,rfl⟩:=arr_3 (hs.trans hn)
 exact ⟨_,h w x0 x1 x2,rep_part hr o m⟩
theorem meP4 (h:∀(w:World) (x0 x1 x2 x3:Value),(method (P.types.size+Made.depth) t (.agg #[x0,x1,x2,x3]) s).run P w=.ok (f,.agg (([x0,x1,x2,x3].drop o).take m).toArray) w):MeE P ⟨t,s,f,some (4,o,m)⟩:=fun a a' ha w Z v hr=>by
 obtain ⟨cs,rfl,hn,rfl⟩:=partA_some ha
 obtain ⟨vs,rfl,hs⟩:=rep_aggV hr
 obtain ⟨x0,x1,x2,x3,rfl⟩:=arr_4 (hs.trans hn)
 exact ⟨_,h w x0 x1 x2 x3,rep_part hr o m⟩
end
end Go.Proofs.YtcaahphghaddgaaGreatDoor
