import Derived.Test.YtmegoiaijfeilaaGreatDoorDVR
/- Text VT. -/
set_option linter.unusedSimpArgs false
set_option linter.unusedVariables false
namespace Go.Proofs.YtmegoiaijfeilaaGreatDoor
open Go.RowKit Lim
section
variable {C:Ctx} {u:Bool} {w0:Base} {w w':World} {Z0 Z Z':Zone} {σ τ:AS} {a:Act} {β:Nat→Nat} {κ:Nat→Nat × Nat}
end
def pinned (xs:List TV) (M:List (Nat × List AV)) (O:List (Nat × OV)):Prop:=(∀t cs,ofL M t=some cs→∃off,xs[t]? = some (.ref t off))∧∀t ov,ofL O t=some ov→t<BIG→∃k len,xs[t]? = some (.osl t k 0 len)
def linkV:TV→Option AV
 | .osl t _ 0 len=>if BIG≤t then some (.lnk (t-BIG) len) else none
 | .avl a=>some a
 | _=>none
def partL (T:TyTab) (ty:TypeId):TV→Option AV
 | .av a=>if a.links.isEmpty then some (normA T ty a) else none
 | x=>linkV x
section
variable {C:Ctx} {u:Bool} {w0:Base} {w w':World} {Z0 Z Z':Zone} {σ τ:AS} {a:Act} {β:Nat→Nat} {κ:Nat→Nat × Nat}
theorem lnk1_none {κ:Nat→Nat × Nat} {a:AV} {v:Value} (h:a.links1=[]):lnk1 κ a v:=by
 cases a with
 | lnk n len=>cases h
 | _=>trivial
theorem lnk2_none {κ:Nat→Nat × Nat} {a:AV} {v:Value} (h:a.links2=[]):lnk2 κ a v:=by
 cases a with
 | agg cs=>exact fun j c u h1 _=>lnk1_none (List.flatMap_eq_nil_iff.1 h c (List.mem_of_getElem? h1))
 | _=>simp only [lnk2,AV.links2]at h ⊢;exact lnk1_none h
theorem lnk3_none {κ:Nat→Nat × Nat} {a:AV} {v:Value} (h:a.links=[]):lnk3 κ a v:=by
 cases a with
 | tup l =>
  cases v with
  | tuple vs=>exact fun j c u h1 _=>lnk2_none (List.flatMap_eq_nil_iff.1 h c (List.mem_of_getElem? h1))
  | _=>trivial
 | _=>simp only [lnk3,AV.links]at h ⊢;exact lnk2_none h
theorem linkV_sound (S:Sim1 u w0 Z0 σ a w Z β κ) {x:TV} {y:AV} {v:Value} (hx:RepT w Z β κ x v) (h:linkV x=some y):Rep w Z y v∧lnk3 κ y v:=by
 cases x with
 | osl t k off len =>
  cases off with
  | succ o=>cases h
  | zero =>
   simp only [linkV]at h
   split at h
   ·rename_i hb
    cases h
    obtain ⟨_,rfl⟩:=hx
    refine ⟨.lnk rfl rfl,?_⟩
    show _=_
    have e:BIG+(t-BIG)=t:=by omega
    simp only [e,Nat.zero_mul,Nat.sub_zero]
   ·cases h
 | avl b=>cases h;exact hx
 | _=>cases h
end
section
variable {C:Ctx} {u:Bool} {w0:Base} {w w':World} {Z0 Z Z':Zone} {σ τ:AS} {a:Act} {β:Nat→Nat} {κ:Nat→Nat × Nat}
theorem norm_links {T:TyTab} {ty:TypeId} {b:AV} (h:b.links=[]):(normA T ty b).links=[]:=by
 unfold normA
 split
 ·split
  ·split <;> rfl
  ·rfl
 ·exact h
theorem run_loadVar_L {ty:TypeId} {i:TI} (h:TIOK C.P ty i) {b o:Nat} {cs:List AV} (hc:CellsAt w Z b o cs) {x:AV} (ht:takeA i cs=some x) (hone:cs.all AV.oneM=true) (hl:∀(j n len:Nat),cs[j]? = some (.lnk n len)→w.cell? ⟨b,o+j,none⟩=some (.slice (some ⟨(κ (BIG+n)).1,0,none⟩) len (κ (BIG+n)).2)) :
  ∃u,(loadVar ty ⟨b,o,none⟩).run C.P w=.ok u w∧Rep w Z x u∧lnk2 κ x u:=by
 obtain ⟨info,zv,h1,h2,_⟩:=h.inf
 have ha:=run_isAgg h w
 have many:i.zero.length≤cs.length→x=.agg (cs.take i.zero.length)→(isAgg ty).run C.P w=.ok true w→∃u,(loadVar ty ⟨b,o,none⟩).run C.P w=.ok u w∧Rep w Z x u∧lnk2 κ x u:=fun hle hx ha=>by
  subst hx
  have hc':∀q,q<i.zero.length→∃u,w.cell? ⟨b,o+q,none⟩=some u∧∀hq:q<cs.length,Rep w Z (cs[q]'hq) u:=fun q hq=>by
   obtain ⟨u,q1,q2⟩:=hc q (by omega)
   exact ⟨u,q1,fun _=>q2⟩
  have hf:∃f:Nat→Value,∀q,q<i.zero.length→w.cell? ⟨b,o+q,none⟩=some (f q)∧∀hq:q<cs.length,Rep w Z (cs[q]'hq) (f q) :=
   ⟨fun q=>if hq:q<i.zero.length then (hc' q hq).choose else undef,fun q hq=>by simp only [hq,dif_pos];exact (hc' q hq).choose_spec⟩
  obtain ⟨f,hf⟩:=hf
  refine ⟨.agg ((List.range i.zero.length).map f).toArray,?_,?_,?_⟩
  ·simp only [loadVar,Sem.run_bind,ha,Result.andThen_ok,if_true,run_size h1,h2]
   rw [run_loadCells w ⟨b,o,none⟩ i.zero.length f (fun j hj=>by rw [add_addr];exact (hf j hj).1)]
   rfl
  ·refine .agg (by simp;omega) fun j hj=>?_
   simp at hj
   simp only [List.getElem_toArray,List.getElem_map,List.getElem_range,List.getElem_take]
   exact (hf j (by omega)).2 _
  ·intro j c u h3 h4
   have hj:j<i.zero.length:=by
    have:=(List.getElem?_eq_some_iff.1 h3).1
    simp at this;omega
   rw [List.getElem?_take_of_lt hj]at h3
   have h4:((List.range i.zero.length).map f).toArray[j]? = some u:=h4
   simp [hj]at h4
   subst h4
   cases c with
   | lnk n len =>
    have q1:=hl j n len h3
    rw [(hf j hj).1]at q1
    exact Option.some.inj q1
   | _=>trivial
 unfold takeA at ht
 split at ht
 ·rename_i fs hk
  rw [hk]at ha
  split at ht
  ·rename_i hle
   cases ht
   exact many hle rfl ha
  ·cases ht
 ·rename_i hk
  rw [hk]at ha
  split at ht
  ·rename_i hle
   cases ht
   exact many hle rfl ha
  ·cases ht
 ·rename_i hk1 hk2
  cases cs with
  | nil=>cases ht
  | cons c cs =>
   cases ht
   obtain ⟨u,q1,q2⟩:=hc 0 (by simp)
   rw [Nat.add_zero]at q1
   refine ⟨u,?_,q2,?_⟩
   ·have ha':(isAgg ty).run C.P w=.ok false w:=by
     rw [ha]
     cases hkk:i.kind <;> first|rfl|exact absurd hkk (hk1 _)|exact absurd hkk (hk2 _ _ _)
    simp [loadVar,ha',q1]
   ·cases x with
    | lnk n len =>
     have q3:=hl 0 n len rfl
     rw [Nat.add_zero,q1]at q3
     exact Option.some.inj q3
    | agg _=>simp [AV.oneM]at hone
    | _=>trivial
end
end Go.Proofs.YtmegoiaijfeilaaGreatDoor
