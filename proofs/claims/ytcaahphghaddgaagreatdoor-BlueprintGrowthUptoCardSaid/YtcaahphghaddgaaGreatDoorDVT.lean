import Derived.Test.YtcaahphghaddgaaGreatDoorDVR
/- Text VT. -/
set_option linter.unusedSimpArgs false
set_option linter.unusedVariables false
namespace Go.Proofs.YtcaahphghaddgaaGreatDoor
open Go.RowKit Lim
section
variable {C:Ctx} {u:Bool} {w0:Base} {w w':World} {Z0 Z Z':Zone} {σ τ:AS} {a:Act} {β:Nat→Nat} {κ:Nat→Nat × Nat}
theorem Sim1.widen (S:Sim1 u w0 Z0 σ a w Z β κ) (W:Nat→Prop) (hW:∀b,W b→w0.free b∧b<w.heap.size) (hm:∀t cs,σ.mem t=some cs→¬W (β t)) (ho:∀t ov,σ.own t=some ov→¬W (κ t).1):Sim1 u w0 Z0 σ a w (fun b o=>Z b o∨W b) β κ:=by
 have hz:∀b o,Z b o→Z b o∨W b:=fun _ _ h=>.inl h
 have hk:Keeps Z w w:=Keeps.refl _ _
 refine ⟨fun b o h=>hz b o (S.z0 b o h),fun b o h=>?_,fun t x h=>⟨(S.tm t x h).1,(S.tm t x h).2.keep hk hz⟩,fun t cs h=>?_,S.inj,fun t ov h=>?_,S.injO,S.injM,fun hu b o v hc hl=>(S.al hu b o v hc hl).imp (hz b o) id,S.below,S.defers,S.lnk⟩
 ·rcases h with h|h
  ·exact S.z1 b o h
  ·exact .inr (hW b h)
 ·obtain ⟨q1,q2⟩:=S.mem t cs h
  exact ⟨q1,q2.keep rfl hk hz fun o hh=>hh.elim (q2.out o) (hm t cs h)⟩
 ·obtain ⟨q1,q2⟩:=S.own t ov h
  exact ⟨q1,q2.keep rfl hk hz fun o hh=>hh.elim (q2.out o) (ho t ov h)⟩
theorem Sim1.base (S:Sim1 u w0 Z0 σ a w Z β κ) (np:Nat) (val:Nat→Value):Sim1 u ⟨w0.w,w0.L,np,val⟩ Z0 σ a w Z β κ :=
 ⟨S.z0,S.z1,S.tm,S.mem,S.inj,S.own,S.injO,S.injM,S.al,⟨S.below.os,S.below.tape,S.below.output,S.below.size,S.below.block⟩,S.defers,S.lnk⟩
end
def startTL:Nat→List TV→List (Nat × Option TV)
 | _,[]=>[]
 | k,x :: l=>(k,some x) :: startTL (k+1) l
theorem startTL_get:∀(l:List TV) (k t:Nat),ofT (startTL k l) t=slotsT k l t
 | [],_,_=>rfl
 | x :: l,k,t=>by
  simp only [startTL,ofT,slotsT]
  split
  ·rfl
  ·exact startTL_get l (k+1) t
def startX (xs:List TV) (M:List (Nat × List AV)) (O:List (Nat × OV)):AS:=⟨ofT (startTL 0 xs),ofL M,ofL O⟩
def pinned (xs:List TV) (M:List (Nat × List AV)) (O:List (Nat × OV)):Prop:=(∀t cs,ofL M t=some cs→∃off,xs[t]? = some (.ref t off))∧∀t ov,ofL O t=some ov→t<BIG→∃k len,xs[t]? = some (.osl t k 0 len)
def keysL {α:Type}:List (Nat × α)→List Nat
 | []=>[]
 | (k,_) :: l=>k :: keysL l
theorem keysL_mem {α:Type}:∀(l:List (Nat × α)) (t:Nat) (x:α),ofL l t=some x→t∈keysL l
 | (k,v) :: l,t,x,h=>by
  simp only [ofL]at h
  split at h
  ·rename_i e;simp [keysL,e]
  ·simp [keysL,keysL_mem l t x h]
theorem keysL_of {α:Type}:∀(l:List (Nat × α)) (t:Nat),t∈keysL l→∃x,ofL l t=some x
 | (k,v) :: l,t,h=>by
  simp only [keysL,List.mem_cons]at h
  simp only [ofL]
  split
  ·exact ⟨v,rfl⟩
  ·rename_i e;exact keysL_of l t (h.resolve_left e)
def pinsK (σ:AS) (xs:List TV):List Nat→Prop
 | []=>True
 | t :: l=>(t<BIG→σ.tm t=xs[t]?)∧pinsK σ xs l
theorem pinsK_mem {σ:AS} {xs:List TV}:∀(l:List Nat),pinsK σ xs l→∀t∈l,t<BIG→σ.tm t=xs[t]?
 | [],_,t,h,_=>by cases h
 | s :: l,⟨h1,h2⟩,t,h,hb=>by
  rcases List.mem_cons.1 h with rfl|h
  ·exact h1 hb
  ·exact pinsK_mem l h2 t h hb
def linkV:TV→Option AV
 | .osl t _ 0 len=>if BIG≤t then some (.lnk (t-BIG) len) else none
 | .avl a=>some a
 | _=>none
def partL (T:TyTab) (ty:TypeId):TV→Option AV
 | .av a=>if a.links.isEmpty then some (normA T ty a) else none
 | x=>linkV x
section
variable {C:Ctx} {u:Bool} {w0:Base} {w w':World} {Z0 Z Z':Zone} {σ τ:AS} {a:Act} {β:Nat→Nat} {κ:Nat→Nat × Nat}
theorem lnk1_none {κ:Nat→Nat × Nat} {a:AV} {v:Value} (h:a.links1=[]):lnk1 κ a v:=by
 cases a with
 | lnk n len=>cases h
 | _=>trivial
theorem lnk2_none {κ:Nat→Nat × Nat} {a:AV} {v:Value} (h:a.links2=[]):lnk2 κ a v:=by
 cases a with
 | agg cs=>exact fun j c u h1 _=>lnk1_none (List.flatMap_eq_nil_iff.1 h c (List.mem_of_getElem? h1))
 | _=>simp only [lnk2,AV.links2]at h ⊢;exact lnk1_none h
theorem lnk3_none {κ:Nat→Nat × Nat} {a:AV} {v:Value} (h:a.links=[]):lnk3 κ a v:=by
 cases a with
 | tup l =>
  cases v with
  | tuple vs=>exact fun j c u h1 _=>lnk2_none (List.flatMap_eq_nil_iff.1 h c (List.mem_of_getElem? h1))
  | _=>trivial
 | _=>simp only [lnk3,AV.links]at h ⊢;exact lnk2_none h
theorem linkV_sound (S:Sim1 u w0 Z0 σ a w Z β κ) {x:TV} {y:AV} {v:Value} (hx:RepT w Z β κ x v) (h:linkV x=some y):Rep w Z y v∧lnk3 κ y v:=by
 cases x with
 | osl t k off len =>
  cases off with
  | succ o=>cases h
  | zero =>
   simp only [linkV]at h
   split at h
   ·rename_i hb
    cases h
    obtain ⟨_,rfl⟩:=hx
    refine ⟨.lnk rfl rfl,?_⟩
    show _=_
    have e:BIG+(t-BIG)=t:=by omega
    simp only [e,Nat.zero_mul,Nat.sub_zero]
   ·cases h
 | avl b=>cases h;exact hx
 | _=>cases h
end
def resX1 (C:Ctx) (σ:AS):ResultVar→TypeId→Option AV
 | .tmp t,ty=>(σ.tm t).bind (fun x=>match x with|.av a=>if a.links=[] then some (normA C.T ty a) else none|x=>linkV x)
 | .cell t ty,_=>(match C.T ty,σ.tm t with|some i,some (.ref s off)=>(σ.mem s).bind fun cs=>takeA i (cs.drop off)|_,_=>none)
def resX (C:Ctx) (σ:AS):List ResultVar→List TypeId→Option (List AV)
 | [],_=>some []
 | x :: l,tys=>(match resX1 C σ x (tys.headD 0),resX C σ l tys.tail with|some a,some l'=>some (a :: l')|_,_=>none)
section
variable {C:Ctx} {u:Bool} {w0:Base} {w w':World} {Z0 Z Z':Zone} {σ τ:AS} {a:Act} {β:Nat→Nat} {κ:Nat→Nat × Nat}
theorem norm_links {T:TyTab} {ty:TypeId} {b:AV} (h:b.links=[]):(normA T ty b).links=[]:=by
 unfold normA
 split
 ·split
  ·split <;> rfl
  ·rfl
 ·exact h
theorem run_loadVar_L {ty:TypeId} {i:TI} (h:TIOK C.P ty i) {b o:Nat} {cs:List AV} (hc:CellsAt w Z b o cs) {x:AV} (ht:takeA i cs=some x) (hone:cs.all AV.oneM=true) (hl:∀(j n len:Nat),cs[j]? = some (.lnk n len)→w.cell? ⟨b,o+j,none⟩=some (.slice (some ⟨(κ (BIG+n)).1,0,none⟩) len (κ (BIG+n)).2)) :
  ∃u,(loadVar ty ⟨b,o,none⟩).run C.P w=.ok u w∧Rep w Z x u∧lnk2 κ x u:=by
 obtain ⟨info,zv,h1,h2,_⟩:=h.inf
 have ha:=run_isAgg h w
 have many:i.zero.length≤cs.length→x=.agg (cs.take i.zero.length)→(isAgg ty).run C.P w=.ok true w→∃u,(loadVar ty ⟨b,o,none⟩).run C.P w=.ok u w∧Rep w Z x u∧lnk2 κ x u:=fun hle hx ha=>by
  subst hx
  have hc':∀q,q<i.zero.length→∃u,w.cell? ⟨b,o+q,none⟩=some u∧∀hq:q<cs.length,Rep w Z (cs[q]'hq) u:=fun q hq=>by
   obtain ⟨u,q1,q2⟩:=hc q (by omega)
   exact ⟨u,q1,fun _=>q2⟩
  have hf:∃f:Nat→Value,∀q,q<i.zero.length→w.cell? ⟨b,o+q,none⟩=some (f q)∧∀hq:q<cs.length,Rep w Z (cs[q]'hq) (f q) :=
   ⟨fun q=>if hq:q<i.zero.length then (hc' q hq).choose else undef,fun q hq=>by simp only [hq,dif_pos];exact (hc' q hq).choose_spec⟩
  obtain ⟨f,hf⟩:=hf
  refine ⟨.agg ((List.range i.zero.length).map f).toArray,?_,?_,?_⟩
  ·simp only [loadVar,Sem.run_bind,ha,Result.andThen_ok,if_true,run_size h1,h2]
   rw [run_loadCells w ⟨b,o,none⟩ i.zero.length f (fun j hj=>by rw [add_addr];exact (hf j hj).1)]
   rfl
  ·refine .agg (by simp;omega) fun j hj=>?_
   simp at hj
   simp only [List.getElem_toArray,List.getElem_map,List.getElem_range,List.getElem_take]
   exact (hf j (by omega)).2 _
  ·intro j c u h3 h4
   have hj:j<i.zero.length:=by
    have:=(List.getElem?_eq_some_iff.1 h3).1
    simp at this;omega
   rw [List.getElem?_take_of_lt hj]at h3
   have h4:((List.range i.zero.length).map f).toArray[j]? = some u:=h4
   simp [hj]at h4
   subst h4
   cases c with
   | lnk n len =>
    have q1:=hl j n len h3
    rw [(hf j hj).1]at q1
    exact Option.some.inj q1
   | _=>trivial
 unfold takeA at ht
 split at ht
 ·rename_i fs hk
  rw [hk]at ha
  split at ht
  ·rename_i hle
   cases ht
   exact many hle rfl ha
  ·cases ht
 ·rename_i hk
  rw [hk]at ha
  split at ht
  ·rename_i hle
   cases ht
   exact many hle rfl ha
  ·cases ht
 ·rename_i hk1 hk2
  cases cs with
  | nil=>cases ht
  | cons c cs =>
   cases ht
   obtain ⟨u,q1,q2⟩:=hc 0 (by simp)
   rw [Nat.add_zero]at q1
   refine ⟨u,?_,q2,?_⟩
   ·have ha':(isAgg ty).run C.P w=.ok false w:=by
     rw [ha]
     cases hkk:i.kind <;> first|rfl|exact absurd hkk (hk1 _)|exact absurd hkk (hk2 _ _ _)
    simp [loadVar,ha',q1]
   ·cases x with
    | lnk n len =>
     have q3:=hl 0 n len rfl
     rw [Nat.add_zero,q1]at q3
     exact Option.some.inj q3
    | agg _=>simp [AV.oneM]at hone
    | _=>trivial
theorem lnk2_of3 {y:AV} {v:Value} (h:lnk3 κ y v):lnk2 κ y v:=by
 cases y with
 | tup l=>trivial
 | _=>exact h
theorem resX1_sound (S:Sim1 u w0 Z0 σ a w Z β κ) {x:ResultVar} {ty:TypeId} {y:AV} (h:resX1 C σ x ty=some y):∃u,(resG a x).run C.P w=.ok u w∧Rep w Z y u∧lnk3 κ y u:=by
 cases x with
 | tmp t =>
  simp only [resX1,Option.bind_eq_some_iff]at h
  obtain ⟨v,h1,h2⟩:=h
  have hr:=(S.tm t v h1).2
  cases v with
  | av b =>
   simp only at h2
   split at h2
   ·rename_i hb
    cases h2
    exact ⟨_,rfl,normA_sound hr,lnk3_none (norm_links hb)⟩
   ·cases h2
  | _ =>
   obtain ⟨q1,q2⟩:=linkV_sound S hr h2
   exact ⟨_,rfl,q1,q2⟩
 | cell p t =>
  simp only [resX1]at h
  split at h
  ·rename_i i s off h1 h2
   obtain ⟨cs,h3,h4⟩:=Option.bind_eq_some_iff.1 h
   have e':a.tmps.getD p undef=.pointer (some ⟨β s,off,none⟩):=(S.tm p _ h2).2
   have hL:=(S.mem s cs h3).2
   have hc:=hL.cellsAt.drop (n:=off)
   rw [Nat.zero_add]at hc
   obtain ⟨u,r1,r2,r3⟩:=run_loadVar_L (C.hT _ _ h1) hc h4 (by
    have:=hL.one
    rw [List.all_eq_true]at this ⊢
    exact fun x hx=>this x (List.mem_of_mem_drop hx)) (fun j n len hj=>by
    rw [List.getElem?_drop]at hj
    exact S.lnk s cs _ n len h3 hj)
   refine ⟨u,by simp only [resG,e',asAddr,Sem.run_bind,Sem.run_pure,Result.andThen_ok,r1],r2,?_⟩
   cases y with
   | tup l =>
    have hone:=hL.one
    unfold takeA at h4
    split at h4
    ·split at h4 <;> cases h4
    ·split at h4 <;> cases h4
    ·have hm:AV.tup l∈cs:=by
      have:=List.mem_of_mem_head? (h4:(cs.drop off).head? = some _)
      exact List.mem_of_mem_drop this
     have:=List.all_eq_true.1 hone _ hm
     cases this
   | _=>exact r3
  ·cases h
theorem resX_sound (S:Sim1 u w0 Z0 σ a w Z β κ):∀(xs:List ResultVar) (tys:List TypeId) (l:List AV),resX C σ xs tys=some l →
  ∃f:ResultVar→Value,(∀x∈xs,(resG a x).run C.P w=.ok (f x) w)∧Rep w Z (.agg l) (.agg (xs.map f).toArray)∧∀(j:Nat) y v,l[j]? = some y→(xs.map f)[j]? = some v→lnk3 κ y v:=by
 intro xs tys l h
 refine ⟨fun x=>match (resG a x).run C.P w with|.ok u _=>u|_=>undef,?_⟩
 induction xs generalizing tys l with
 | nil =>
  cases h
  exact ⟨by simp,Rep.agg_iff.2 ⟨rfl,fun j x u h1=>by simp at h1⟩,fun j y v h=>by simp at h⟩
 | cons x xs ih =>
  simp only [resX]at h
  split at h
  ·rename_i y ys h1 h2
   cases h
   obtain ⟨q1,q2,q3⟩:=ih tys.tail ys h2
   obtain ⟨u,r1,r2,r3⟩:=resX1_sound S h1
   obtain ⟨l1,l2⟩:=Rep.agg_iff.1 q2
   refine ⟨fun z hz=>?_,Rep.agg_iff.2 ⟨by simpa using l1,fun j z v h3 h4=>?_⟩,fun j z v h3 h4=>?_⟩
   ·rcases List.mem_cons.1 hz with rfl|hz
    ·simp only [r1]
    ·exact q1 z hz
   ·cases j with
    | zero =>
     simp at h3 h4
     subst h3
     rw [r1]at h4
     simp at h4
     subst h4
     exact r2
    | succ j =>
     simp at h3 h4
     exact l2 j z v h3 (by simpa using h4)
   ·cases j with
    | zero =>
     simp at h3 h4
     subst h3
     rw [r1]at h4
     simp at h4
     subst h4
     exact r3
    | succ j =>
     simp only [List.getElem?_cons_succ,List.map_cons]at h3 h4
     exact q3 j z v h3 h4
  ·cases h
theorem retX_sound (S:Sim1 u w0 Z0 σ a w Z β κ) {fn:Func} {l:List AV} (h1:resX C σ fn.results.toList fn.resultTypes.toList=some l):∃v,(results fn a.tmps).run C.P w=.ok v w∧RepT w Z β κ (.avl (packA l)) v:=by
 obtain ⟨f,q1,q2,q3⟩:=resX_sound S _ _ _ h1
 have hm:(fn.results.mapM (resG a)).run C.P w=.ok (fn.results.map f) w:=by
  rw [Array.mapM_eq_foldlM,←Array.foldlM_toList,run_mapM (P:=C.P) _ f w fn.results.toList #[] q1]
  congr 1
  apply Array.ext'
  simp
 have hm':(results fn a.tmps).run C.P w=.ok (if h:(fn.results.map f).size=1 then (fn.results.map f)[0] else .tuple (fn.results.map f)) w:=by
  have:results fn a.tmps=(do let vs ←fn.results.mapM (resG a);pure (if h:vs.size=1 then vs[0] else .tuple vs)):=rfl
  rw [this,Sem.run_bind,hm]
  rfl
 have e:(fn.results.toList.map f).toArray=fn.results.map f:=by apply Array.ext';simp
 have eg:∀j,(fn.results.toList.map f)[j]? = (fn.results.map f)[j]?:=fun j=>by rw [←e,List.getElem?_toArray]
 rw [e]at q2
 obtain ⟨l1,l2⟩:=Rep.agg_iff.1 q2
 refine ⟨_,hm',?_⟩
 by_cases hone:(fn.results.map f).size=1
 ·rw [dif_pos hone]
  have hl:l.length=1:=by omega
  obtain ⟨x,rfl⟩:∃x,l=[x]:=List.length_eq_one_iff.1 hl
  have hv:(fn.results.map f)[0]? = some ((fn.results.map f)[0]):=Array.getElem?_eq_getElem (by omega)
  refine ⟨l2 0 x _ rfl hv,?_⟩
  have:=q3 0 x _ rfl ((eg 0).trans hv)
  exact this
 ·rw [dif_neg hone]
  have hp:packA l=.tup l:=by
   unfold packA
   split
   ·simp at l1;exact absurd (by simpa using l1) hone
   ·rfl
  rw [hp]
  exact ⟨.tup l1 fun j hj=>l2 j _ _ (List.getElem?_eq_getElem hj) (Array.getElem?_eq_getElem (by omega)),fun j c v h1 h2=>lnk2_of3 (q3 j c v h1 ((eg j).trans h2))⟩
end
def retX (C:Ctx) (rs:List ResultVar) (tys:List TypeId) (xs:List TV) (M:List (Nat × List AV)) (O:List (Nat × OV)) (r:TV) (M':List (Nat × List AV)) (O':List (Nat × OV)) (e:Exit) (σ:AS):Prop :=
 (e=.ret∨e=.normal)∧leM σ.mem M'∧leM σ.own O'∧pinsK σ xs (keysL M)∧pinsK σ xs (keysL O) ∧
 match r with
 | .av a=>(∃l,resL C σ rs tys=some l∧packA l=a)∧(∀t∈resU σ rs,t ∉ keysL O')
 | .avl a=>∃l,resX C σ rs tys=some l∧packA l=a
 | .osl s k 0 len=>(∃t,rs=[.tmp t]∧σ.tm t=some (.osl s k 0 len))∧s∈keysL O'
 | _=>False
set_option maxHeartbeats 2000000 in
theorem LCalls.of_wp {C:Ctx} {f:FuncId} {fn:Func} {c:Code} {rs:List ResultVar} {tys:List TypeId} {xs:List TV} {M:List (Nat × List AV)} {O:List (Nat × OV)} {r:TV} {M':List (Nat × List AV)} {O':List (Nat × OV)} (hf:C.P.funcs[f]? = some fn) (hb:fn.body=some c) (hrs:fn.results=List.toArray rs) (hrt:fn.resultTypes=List.toArray tys)
  (hnm : (fn.name == "runtime.NumGoroutine") = false) (hl : fn.params.size ≤ fn.ntmps)
  (h:∀(w0:Base) (Z0:Zone),C.EL w0→(∀b o,Z0 b o→b<w0.w.heap.size)→w0.np=fn.params.size→∀(a:Act) (w:World),Sim C.u w0 Z0 fn.ntmps (startX xs M O) a w→c.wp C.P (fun e a' w'=>Exit.plainB e=true∧∃σ',retX C rs tys xs M O r M' O' e σ'∧Sim C.u w0 Z0 fn.ntmps σ' a' w') a w) (hxl:xs.length=fn.params.size:=by rfl) (hpin:pinned xs M O) (hxB:xs.length≤BIG) (hM:keysL M'=keysL M:=by rfl):LCalls C f xs (ofL M) (ofL O) r (ofL M') (ofL O'):=by
 refine ⟨⟨fn,hf,hnm,by rw [hb];rfl⟩,fun t cs ht=>keysL_of M t (hM ▸ keysL_mem M' t cs ht),fun B Z β κ vs hE hz hBL hvs S=>?_⟩
 refine calls_of_wp hf hb ?_
 have hvx:vs.size=xs.length:=hvs
 let B1:Base:=⟨B.w,B.L,fn.params.size,fun t=>vs.getD t undef⟩
 have hst:startX xs M O=⟨slotsT 0 xs,ofL M,ofL O⟩:=by
  simp only [startX]
  congr 1
  funext t
  exact startTL_get xs 0 t
 have hget:∀t,t<vs.size→(vs ++ Array.replicate (fn.ntmps-vs.size) undef).getD t undef=vs.getD t undef:=fun t ht=>by
  simp only [Array.getD_eq_getD_getElem?]
  rw [Array.getElem?_append_left ht]
 have S0:Sim C.u B1 Z fn.ntmps ⟨slotsT 0 xs,ofL M,ofL O⟩ { tmps:=vs ++ Array.replicate (fn.ntmps-vs.size) undef,defers:=[] } B.w:=by
  have S1:=S.base fn.params.size (fun t=>vs.getD t undef)
  refine ⟨⟨Z,β,κ,⟨S1.z0,S1.z1,fun t x h=>?_,S1.mem,S1.inj,S1.own,S1.injO,S1.injM,S1.al,S1.below,rfl,S1.lnk⟩⟩,by simp;omega,fun t ht=>?_⟩
  ·obtain ⟨q1,q2⟩:=S1.tm t x h
   have q1:t<vs.size:=q1
   have q2:RepT B.w Z β κ x (vs.getD t undef):=q2
   refine ⟨by simp;omega,?_⟩
   show RepT B.w Z β κ x ((vs ++ Array.replicate (fn.ntmps-vs.size) undef).getD t undef)
   rw [hget t q1]
   exact q2
  ·have ht:t<fn.params.size:=ht
   exact hget t (by omega)
 refine wp_mono (h B1 Z hE hz rfl _ _ (by rw [hst];exact S0)) ?_
 rintro e a' w' ⟨he,σ',h1,⟨Z1,β1,κ1,S1⟩,hfit⟩
 obtain ⟨hex,hm',ho',hpm,hpo,hres⟩:=h1
 have pm:=pinsK_mem _ hpm
 have po:=pinsK_mem _ hpo
 have hβ:∀t cs,ofL M t=some cs→β1 t=β t:=fun t cs ht=>by
  obtain ⟨off,hx⟩:=hpin.1 t cs ht
  have hlt:=(List.getElem?_eq_some_iff.1 hx).1
  have q1:=(S1.tm t (.ref t off) ((pm t (keysL_mem M t cs ht) (by omega)).trans hx)).2
  have q2:=(S.tm t (.ref t off) (by show slotsT 0 xs t=_;rw [slotsT_get];simpa using hx)).2
  have q3:=hfit.2 t (show t<fn.params.size by omega)
  have q1:a'.tmps.getD t undef=.pointer (some ⟨β1 t,off,none⟩):=q1
  have q2:vs.getD t undef=.pointer (some ⟨β t,off,none⟩):=q2
  have q3:a'.tmps.getD t undef=vs.getD t undef:=q3
  rw [q1,q2]at q3
  injection q3 with q3;injection q3 with q3;injection q3
 have hκ:∀t ov,ofL O t=some ov→t<BIG→κ1 t=κ t:=fun t ov ht hB=>by
  obtain ⟨k,len,hx⟩:=hpin.2 t ov ht hB
  have hlt:=(List.getElem?_eq_some_iff.1 hx).1
  have q1:=(S1.tm t (.osl t k 0 len) ((po t (keysL_mem O t ov ht) hB).trans hx)).2
  have q2:=(S.tm t (.osl t k 0 len) (by show slotsT 0 xs t=_;rw [slotsT_get];simpa using hx)).2
  have q3:=hfit.2 t (show t<fn.params.size by omega)
  have q1:a'.tmps.getD t undef=.slice (some ⟨(κ1 t).1,0*k,none⟩) len ((κ1 t).2-0):=q1.2
  have q2:vs.getD t undef=.slice (some ⟨(κ t).1,0*k,none⟩) len ((κ t).2-0):=q2.2
  have q3:a'.tmps.getD t undef=vs.getD t undef:=q3
  rw [q1,q2]at q3
  injection q3 with q3 q4 q5
  injection q3 with q3;injection q3 with q3
  exact Prod.ext q3 (by simpa using q5)
 have hBlt:∀b,B.L b→b<B.w.heap.size:=fun b hb=>by
  rcases hBL b hb with ⟨t,cs,g1,rfl⟩|⟨t,ov,g1,rfl⟩
  ·exact (S.mem t cs g1).2.lt
  ·exact (S.own t ov g1).2.lt
 have fin:∀(us:List Nat) (v:Value),(∀t∈us,t ∉ keysL O')→(results fn a'.tmps).run C.P w'=.ok v w'→RepT w' (frzZ σ' κ1 us Z1) β1 κ1 r v →
   ∃Z' β' κ',Sim1 C.u B Z ⟨slotsT 0 [r],ofL M',ofL O'⟩ ⟨#[v],[]⟩ w' Z' β' κ'∧(∀t cs,ofL M t=some cs→β' t=β t)∧(∀t ov,ofL O t=some ov→t<BIG→κ' t=κ t) ∧
    (∀b,B.free b→b<w'.heap.size→(∀o,Z' b o)∨(∃t ov,ofL O' t=some ov∧(κ' t).1=b)∨∃t cs,ofL M' t=some cs∧β' t=b):=by
  intro us v hus hv hrv
  have S2:=S1.frz us
  have hown2:∀t ov,ofL O' t=some ov→(σ'.frz us).own t=some ov:=fun t ov ht=>by
   simp only [AS.frz]
   have hc:us.contains t=false:=by
    cases hh:us.contains t with
    | false=>rfl
    | true=>exact absurd (keysL_mem O' t ov ht) (hus t (by simpa using hh))
   rw [hc]
   exact leM_le _ _ ho' t ov ht
  have hmem2:∀t cs,ofL M' t=some cs→(σ'.frz us).mem t=some cs:=fun t cs ht=>leM_le _ _ hm' t cs ht
  have S3:=S2.drop (τ:=⟨fun _=>none,ofL M',ofL O'⟩) hmem2 hown2 rfl (fun t x h=>by cases h)
  have S4:=S3.widen (fun b=>B.free b∧b<w'.heap.size∧(∀t ov,ofL O' t=some ov→(κ1 t).1≠b)∧∀t cs,ofL M' t=some cs→β1 t≠b) (fun b hb=>⟨hb.1,hb.2.1⟩) (fun t cs ht hb=>hb.2.2.2 t cs ht rfl) (fun t ov ht hb=>hb.2.2.1 t ov ht rfl)
  refine ⟨_,β1,κ1,⟨S4.z0,S4.z1,fun t x h=>?_,S4.mem,S4.inj,S4.own,S4.injO,S4.injM,S4.al,⟨S4.below.os,S4.below.tape,S4.below.output,S4.below.size,S4.below.block⟩,rfl,S4.lnk⟩,hβ,hκ,fun b hb1 hb2=>?_⟩
  ·have h:slotsT 0 [r] t=some x:=h
   simp only [slotsT]at h
   split at h
   ·rename_i e
    subst e
    cases h
    refine ⟨by show 0<1;omega,?_⟩
    show RepT w' _ β1 κ1 r ((#[v]:Array Value).getD 0 undef)
    exact hrv.keep (Keeps.refl _ _) (fun b o h=>.inl (.inl h))
   ·cases h
  ·by_cases hx:∃t ov,ofL O' t=some ov∧(κ1 t).1=b
   ·exact .inr (.inl hx)
   ·by_cases hy:∃t cs,ofL M' t=some cs∧β1 t=b
    ·exact .inr (.inr hy)
    ·exact .inl fun o=>.inr ⟨hb1,hb2,fun t ov ht he=>hx ⟨t,ov,ht,he⟩,fun t cs ht he=>hy ⟨t,cs,ht,he⟩⟩
 have hpost:a'.defers=[]∧∃v,(results fn a'.tmps).run C.P w'=.ok v w'∧∃v2 Z' β' κ',Ending.returned v=.returned v2∧Sim1 C.u B Z ⟨slotsT 0 [r],ofL M',ofL O'⟩ ⟨#[v2],[]⟩ w' Z' β' κ'∧(∀t cs,ofL M t=some cs→β' t=β t)∧(∀t ov,ofL O t=some ov→t<BIG→κ' t=κ t) ∧
       (∀b,B.free b→b<w'.heap.size→(∀o,Z' b o)∨(∃t ov,ofL O' t=some ov∧(κ' t).1=b)∨∃t cs,ofL M' t=some cs∧β' t=b):=by
  cases r with
  | av x =>
   obtain ⟨⟨l,q1,q2⟩,q3⟩:=hres
   have hret:retA C fn x .ret σ':=⟨.inl rfl,l,by rw [hrs,hrt];exact q1,q2⟩
   obtain ⟨v,r1,r2⟩:=retA_sound S1 hret
   rw [hrs]at r2
   have hu:(List.toArray rs).toList=rs:=rfl
   obtain ⟨Z',β',κ',g⟩:=fin (resU σ' rs) v q3 r1 r2
   exact ⟨S1.defers,v,r1,v,Z',β',κ',rfl,g⟩
  | avl x =>
   obtain ⟨l,q1,rfl⟩:=hres
   obtain ⟨v,r1,r2⟩:=retX_sound S1 (fn:=fn) (l:=l) (by rw [hrs,hrt];exact q1)
   obtain ⟨Z',β',κ',g⟩:=fin [] v (fun t h=>by cases h) r1 (r2.keep (Keeps.refl _ _) (frzZ_le _ _ _ _))
   exact ⟨S1.defers,v,r1,v,Z',β',κ',rfl,g⟩
  | osl s k off len =>
   have hoff:off=0:=by cases off with|zero=>rfl|succ=>exact hres.elim
   subst hoff
   obtain ⟨⟨t,rfl,q1⟩,q2⟩:=hres
   obtain ⟨p1,p2⟩:=S1.tm t _ q1
   have r1:(results fn a'.tmps).run C.P w'=.ok (a'.tmps.getD t undef) w':=by
    simp [results,hrs]
   obtain ⟨Z',β',κ',g⟩:=fin [] _ (fun t h=>by cases h) r1 (p2.keep (Keeps.refl _ _) (frzZ_le _ _ _ _))
   exact ⟨S1.defers,_,r1,_,Z',β',κ',rfl,g⟩
  | _=>exact hres.elim
 rcases hex with rfl|rfl
 ·exact hpost
 ·exact hpost
end Go.Proofs.YtcaahphghaddgaaGreatDoor
