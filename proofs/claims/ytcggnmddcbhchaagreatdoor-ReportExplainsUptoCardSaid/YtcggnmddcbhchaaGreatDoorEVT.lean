import Derived.Test.YtcggnmddcbhchaaGreatDoorEVR
/- Text VT. -/
set_option linter.unusedSimpArgs false
set_option linter.unusedVariables false
namespace Go.Proofs.YtcggnmddcbhchaaGreatDoor
open Go.RowKit Lim
section
variable {C:Ctx} {u:Bool} {w0:Base} {w w':World} {Z0 Z Z':Zone} {σ τ:AS} {a:Act} {β:Nat→Nat} {κ:Nat→Nat × Nat}
theorem Sim1.widen (S:Sim1 u w0 Z0 σ a w Z β κ) (W:Nat→Prop) (hW:∀b,W b→w0.free b∧b<w.heap.size) (hm:∀t cs,σ.mem t=some cs→¬W (β t)) (ho:∀t ov,σ.own t=some ov→¬W (κ t).1):Sim1 u w0 Z0 σ a w (fun b o=>Z b o∨W b) β κ:=by
 have hz:∀b o,Z b o→Z b o∨W b:=fun _ _ h=>.inl h
 have hk:Keeps Z w w:=Keeps.refl _ _
 refine ⟨fun b o h=>hz b o (S.z0 b o h),fun b o h=>?_,fun t x h=>⟨(S.tm t x h).1,(S.tm t x h).2.keep hk hz⟩,fun t cs h=>?_,S.inj,fun t ov h=>?_,S.injO,S.injM,fun hu b o v hc hl=>(S.al hu b o v hc hl).imp (hz b o) id,S.below,S.defers⟩
 ·rcases h with h|h
  ·exact S.z1 b o h
  ·exact .inr (hW b h)
 ·obtain ⟨q1,q2⟩:=S.mem t cs h
  exact ⟨q1,q2.keep rfl hk hz fun o hh=>hh.elim (q2.out o) (hm t cs h)⟩
 ·obtain ⟨q1,q2⟩:=S.own t ov h
  exact ⟨q1,q2.keep rfl hk hz fun o hh=>hh.elim (q2.out o) (ho t ov h)⟩
theorem Sim1.base (S:Sim1 u w0 Z0 σ a w Z β κ) (np:Nat) (val:Nat→Value):Sim1 u ⟨w0.w,w0.L,np,val⟩ Z0 σ a w Z β κ :=
 ⟨S.z0,S.z1,S.tm,S.mem,S.inj,S.own,S.injO,S.injM,S.al,⟨S.below.os,S.below.tape,S.below.output,S.below.size,S.below.block⟩,S.defers⟩
end
def startTL:Nat→List TV→List (Nat × Option TV)
 | _,[]=>[]
 | k,x :: l=>(k,some x) :: startTL (k+1) l
theorem startTL_get:∀(l:List TV) (k t:Nat),ofT (startTL k l) t=slotsT k l t
 | [],_,_=>rfl
 | x :: l,k,t=>by
  simp only [startTL,ofT,slotsT]
  split
  ·rfl
  ·exact startTL_get l (k+1) t
def startX (xs:List TV) (M:List (Nat × List AV)) (O:List (Nat × OV)):AS:=⟨ofT (startTL 0 xs),ofL M,ofL O⟩
def pinned (xs:List TV) (M:List (Nat × List AV)) (O:List (Nat × OV)):Prop:=(∀t cs,ofL M t=some cs→∃off,xs[t]? = some (.ref t off))∧∀t ov,ofL O t=some ov→∃k len,xs[t]? = some (.osl t k 0 len)
def keysL {α:Type}:List (Nat × α)→List Nat
 | []=>[]
 | (k,_) :: l=>k :: keysL l
theorem keysL_mem {α:Type}:∀(l:List (Nat × α)) (t:Nat) (x:α),ofL l t=some x→t∈keysL l
 | (k,v) :: l,t,x,h=>by
  simp only [ofL]at h
  split at h
  ·rename_i e;simp [keysL,e]
  ·simp [keysL,keysL_mem l t x h]
theorem keysL_of {α:Type}:∀(l:List (Nat × α)) (t:Nat),t∈keysL l→∃x,ofL l t=some x
 | (k,v) :: l,t,h=>by
  simp only [keysL,List.mem_cons]at h
  simp only [ofL]
  split
  ·exact ⟨v,rfl⟩
  ·rename_i e;exact keysL_of l t (h.resolve_left e)
def pinsK (σ:AS) (xs:List TV):List Nat→Prop
 | []=>True
 | t :: l=>σ.tm t=xs[t]?∧pinsK σ xs l
theorem pinsK_mem {σ:AS} {xs:List TV}:∀(l:List Nat),pinsK σ xs l→∀t∈l,σ.tm t=xs[t]?
 | [],_,t,h=>by cases h
 | s :: l,⟨h1,h2⟩,t,h=>by
  rcases List.mem_cons.1 h with rfl|h
  ·exact h1
  ·exact pinsK_mem l h2 t h
def retX (C:Ctx) (rs:List ResultVar) (tys:List TypeId) (xs:List TV) (M:List (Nat × List AV)) (O:List (Nat × OV)) (r:TV) (M':List (Nat × List AV)) (O':List (Nat × OV)) (e:Exit) (σ:AS):Prop :=
 (e=.ret∨e=.normal)∧leM σ.mem M'∧leM σ.own O'∧pinsK σ xs (keysL M)∧pinsK σ xs (keysL O) ∧
 match r with
 | .av a=>(∃l,resL C σ rs tys=some l∧packA l=a)∧(∀t∈resU σ rs,t ∉ keysL O')
 | .osl s k 0 len=>(∃t,rs=[.tmp t]∧σ.tm t=some (.osl s k 0 len))∧s∈keysL O'
 | _=>False
set_option maxHeartbeats 2000000 in
theorem LCalls.of_wp {C:Ctx} {f:FuncId} {fn:Func} {c:Code} {rs:List ResultVar} {tys:List TypeId} {xs:List TV} {M:List (Nat × List AV)} {O:List (Nat × OV)} {r:TV} {M':List (Nat × List AV)} {O':List (Nat × OV)} (hf:C.P.funcs[f]? = some fn) (hb:fn.body=some c) (hrs:fn.results=List.toArray rs) (hrt:fn.resultTypes=List.toArray tys)
  (hnm : (fn.name == "runtime.NumGoroutine") = false) (hl : fn.params.size ≤ fn.ntmps)
  (h:∀(w0:Base) (Z0:Zone),C.EL w0→(∀b o,Z0 b o→b<w0.w.heap.size)→w0.np=fn.params.size→∀(a:Act) (w:World),Sim C.u w0 Z0 fn.ntmps (startX xs M O) a w→c.wp C.P (fun e a' w'=>Exit.plainB e=true∧∃σ',retX C rs tys xs M O r M' O' e σ'∧Sim C.u w0 Z0 fn.ntmps σ' a' w') a w) (hxl:xs.length=fn.params.size:=by rfl) (hpin:pinned xs M O) (hM:keysL M'=keysL M:=by rfl) (hO:∀t,t∈keysL O' ↔ t∈keysL O∨r.new=some t) (hr0:∀t,r.new=some t→t ∉ keysL O):LCalls C f xs (ofL M) (ofL O) r (ofL M') (ofL O'):=by
 refine ⟨⟨fn,hf,hnm,by rw [hb];rfl⟩,fun t cs ht=>keysL_of M t (hM ▸ keysL_mem M' t cs ht),fun B Z β κ vs hE hz hBL hvs S=>?_⟩
 refine calls_of_wp hf hb ?_
 have hvx:vs.size=xs.length:=hvs
 let B1:Base:=⟨B.w,B.L,fn.params.size,fun t=>vs.getD t undef⟩
 have hst:startX xs M O=⟨slotsT 0 xs,ofL M,ofL O⟩:=by
  simp only [startX]
  congr 1
  funext t
  exact startTL_get xs 0 t
 have hget:∀t,t<vs.size→(vs ++ Array.replicate (fn.ntmps-vs.size) undef).getD t undef=vs.getD t undef:=fun t ht=>by
  simp only [Array.getD_eq_getD_getElem?]
  rw [Array.getElem?_append_left ht]
 have S0:Sim C.u B1 Z fn.ntmps ⟨slotsT 0 xs,ofL M,ofL O⟩ { tmps:=vs ++ Array.replicate (fn.ntmps-vs.size) undef,defers:=[] } B.w:=by
  have S1:=S.base fn.params.size (fun t=>vs.getD t undef)
  refine ⟨⟨Z,β,κ,⟨S1.z0,S1.z1,fun t x h=>?_,S1.mem,S1.inj,S1.own,S1.injO,S1.injM,S1.al,S1.below,rfl⟩⟩,by simp;omega,fun t ht=>?_⟩
  ·obtain ⟨q1,q2⟩:=S1.tm t x h
   have q1:t<vs.size:=q1
   have q2:RepT B.w Z β κ x (vs.getD t undef):=q2
   refine ⟨by simp;omega,?_⟩
   show RepT B.w Z β κ x ((vs ++ Array.replicate (fn.ntmps-vs.size) undef).getD t undef)
   rw [hget t q1]
   exact q2
  ·have ht:t<fn.params.size:=ht
   exact hget t (by omega)
 refine wp_mono (h B1 Z hE hz rfl _ _ (by rw [hst];exact S0)) ?_
 rintro e a' w' ⟨he,σ',h1,⟨Z1,β1,κ1,S1⟩,hfit⟩
 obtain ⟨hex,hm',ho',hpm,hpo,hres⟩:=h1
 have pm:=pinsK_mem _ hpm
 have po:=pinsK_mem _ hpo
 have hβ:∀t cs,ofL M t=some cs→β1 t=β t:=fun t cs ht=>by
  obtain ⟨off,hx⟩:=hpin.1 t cs ht
  have hlt:=(List.getElem?_eq_some_iff.1 hx).1
  have q1:=(S1.tm t (.ref t off) ((pm t (keysL_mem M t cs ht)).trans hx)).2
  have q2:=(S.tm t (.ref t off) (by show slotsT 0 xs t=_;rw [slotsT_get];simpa using hx)).2
  have q3:=hfit.2 t (show t<fn.params.size by omega)
  have q1:a'.tmps.getD t undef=.pointer (some ⟨β1 t,off,none⟩):=q1
  have q2:vs.getD t undef=.pointer (some ⟨β t,off,none⟩):=q2
  have q3:a'.tmps.getD t undef=vs.getD t undef:=q3
  rw [q1,q2]at q3
  injection q3 with q3;injection q3 with q3;injection q3
 have hκ:∀t ov,ofL O t=some ov→κ1 t=κ t:=fun t ov ht=>by
  obtain ⟨k,len,hx⟩:=hpin.2 t ov ht
  have hlt:=(List.getElem?_eq_some_iff.1 hx).1
  have q1:=(S1.tm t (.osl t k 0 len) ((po t (keysL_mem O t ov ht)).trans hx)).2
  have q2:=(S.tm t (.osl t k 0 len) (by show slotsT 0 xs t=_;rw [slotsT_get];simpa using hx)).2
  have q3:=hfit.2 t (show t<fn.params.size by omega)
  have q1:a'.tmps.getD t undef=.slice (some ⟨(κ1 t).1,0*k,none⟩) len ((κ1 t).2-0):=q1.2
  have q2:vs.getD t undef=.slice (some ⟨(κ t).1,0*k,none⟩) len ((κ t).2-0):=q2.2
  have q3:a'.tmps.getD t undef=vs.getD t undef:=q3
  rw [q1,q2]at q3
  injection q3 with q3 q4 q5
  injection q3 with q3;injection q3 with q3
  exact Prod.ext q3 (by simpa using q5)
 have hβlt:∀t cs,ofL M t=some cs→β1 t<B.w.heap.size:=fun t cs ht=>by rw [hβ t cs ht];exact (S.mem t cs ht).2.lt
 have hM'M:∀t cs,ofL M' t=some cs→∃cs',ofL M t=some cs':=fun t cs ht=>keysL_of M t (hM ▸ keysL_mem M' t cs ht)
 have fin:∀(us:List Nat) (v:Value),(∀t∈us,t ∉ keysL O')→(results fn a'.tmps).run C.P w'=.ok v w'→RepT w' (frzZ σ' κ1 us Z1) β1 κ1 r v→(∀t ov,ofL O' t=some ov→ofL O t=none→B.w.heap.size≤(κ1 t).1) →
   ∃Z' β' κ',Sim1 C.u B Z ⟨slotsT 0 [r],ofL M',ofL O'⟩ ⟨#[v],[]⟩ w' Z' β' κ'∧(∀t cs,ofL M t=some cs→β' t=β t)∧(∀t ov,ofL O t=some ov→κ' t=κ t)∧(∀t ov,ofL O' t=some ov→ofL O t=none→B.w.heap.size≤(κ' t).1) ∧
    (∀b,B.w.heap.size≤b→b<w'.heap.size→(∀o,Z' b o)∨∃t ov,ofL O' t=some ov∧(κ' t).1=b):=by
  intro us v hus hv hrv hfresh
  have S2:=S1.frz us
  have hown2:∀t ov,ofL O' t=some ov→(σ'.frz us).own t=some ov:=fun t ov ht=>by
   simp only [AS.frz]
   have hc:us.contains t=false:=by
    cases hh:us.contains t with
    | false=>rfl
    | true=>exact absurd (keysL_mem O' t ov ht) (hus t (by simpa using hh))
   rw [hc]
   exact leM_le _ _ ho' t ov ht
  have hmem2:∀t cs,ofL M' t=some cs→(σ'.frz us).mem t=some cs:=fun t cs ht=>leM_le _ _ hm' t cs ht
  have S3:=S2.drop (τ:=⟨fun _=>none,ofL M',ofL O'⟩) hmem2 hown2 rfl (fun t x h=>by cases h)
  have S4:=S3.widen (fun b=>B.w.heap.size≤b∧b<w'.heap.size∧∀t ov,ofL O' t=some ov→(κ1 t).1≠b) (fun b hb=>⟨.inl hb.1,hb.2.1⟩) (fun t cs ht hb=>by
   obtain ⟨cs',hc⟩:=hM'M t cs ht
   have:=hβlt t cs' hc
   have:=hb.1
   omega) (fun t ov ht hb=>hb.2.2 t ov ht rfl)
  refine ⟨_,β1,κ1,⟨S4.z0,S4.z1,fun t x h=>?_,S4.mem,S4.inj,S4.own,S4.injO,S4.injM,S4.al,⟨S4.below.os,S4.below.tape,S4.below.output,S4.below.size,S4.below.block⟩,rfl⟩,hβ,hκ,hfresh,fun b hb1 hb2=>?_⟩
  ·have h:slotsT 0 [r] t=some x:=h
   simp only [slotsT]at h
   split at h
   ·rename_i e
    subst e
    cases h
    refine ⟨by show 0<1;omega,?_⟩
    show RepT w' _ β1 κ1 r ((#[v]:Array Value).getD 0 undef)
    exact hrv.keep (Keeps.refl _ _) (fun b o h=>.inl (.inl h))
   ·cases h
  ·by_cases hx:∃t ov,ofL O' t=some ov∧(κ1 t).1=b
   ·exact .inr hx
   ·exact .inl fun o=>.inr ⟨hb1,hb2,fun t ov ht he=>hx ⟨t,ov,ht,he⟩⟩
 have hpost:a'.defers=[]∧∃v,(results fn a'.tmps).run C.P w'=.ok v w'∧∃v2 Z' β' κ',Ending.returned v=.returned v2∧Sim1 C.u B Z ⟨slotsT 0 [r],ofL M',ofL O'⟩ ⟨#[v2],[]⟩ w' Z' β' κ'∧(∀t cs,ofL M t=some cs→β' t=β t)∧(∀t ov,ofL O t=some ov→κ' t=κ t)∧(∀t ov,ofL O' t=some ov→ofL O t=none→B.w.heap.size≤(κ' t).1) ∧
       (∀b,B.w.heap.size≤b→b<w'.heap.size→(∀o,Z' b o)∨∃t ov,ofL O' t=some ov∧(κ' t).1=b):=by
  cases r with
  | av x =>
   obtain ⟨⟨l,q1,q2⟩,q3⟩:=hres
   have hret:retA C fn x .ret σ':=⟨.inl rfl,l,by rw [hrs,hrt];exact q1,q2⟩
   obtain ⟨v,r1,r2⟩:=retA_sound S1 hret
   rw [hrs]at r2
   have hu:(List.toArray rs).toList=rs:=rfl
   obtain ⟨Z',β',κ',g⟩:=fin (resU σ' rs) v q3 r1 r2 (fun t ov ht hn=>by
    have:=(hO t).1 (keysL_mem O' t ov ht)
    rcases this with h|h
    ·obtain ⟨y,hy⟩:=keysL_of O t h;rw [hn]at hy;cases hy
    ·cases h)
   exact ⟨S1.defers,v,r1,v,Z',β',κ',rfl,g⟩
  | osl s k off len =>
   have hoff:off=0:=by cases off with|zero=>rfl|succ=>exact hres.elim
   subst hoff
   obtain ⟨⟨t,rfl,q1⟩,q2⟩:=hres
   obtain ⟨p1,p2⟩:=S1.tm t _ q1
   have r1:(results fn a'.tmps).run C.P w'=.ok (a'.tmps.getD t undef) w':=by
    simp [results,hrs]
   obtain ⟨Z',β',κ',g⟩:=fin [] _ (fun t h=>by cases h) r1 (p2.keep (Keeps.refl _ _) (frzZ_le _ _ _ _)) (fun t ov ht hn=>by
    have:=(hO t).1 (keysL_mem O' t ov ht)
    rcases this with h|h
    ·obtain ⟨y,hy⟩:=keysL_of O t h;rw [hn]at hy;cases hy
    ·cases h
     obtain ⟨q3,q4⟩:=S1.own s ov (leM_le _ _ ho' s ov ht)
     rcases q3 with q3|q3
     ·exact q3
     ·exfalso
      rcases hBL _ q3 with ⟨t2,cs,g1,g2⟩|⟨t2,ov2,g1,g2⟩
      ·obtain ⟨y,hy⟩:=keysL_of M' t2 (hM.symm ▸ keysL_mem M t2 cs g1)
       refine S1.injM t2 s y ov (leM_le _ _ hm' t2 y hy) (leM_le _ _ ho' s ov ht) ?_
       rw [hβ t2 cs g1];exact g2
      ·have hk:=(hO t2).2 (.inl (keysL_mem O t2 ov2 g1))
       obtain ⟨y,hy⟩:=keysL_of O' t2 hk
       have:=S1.injO t2 s y ov (leM_le _ _ ho' t2 y hy) (leM_le _ _ ho' s ov ht) (by rw [hκ t2 ov2 g1];exact g2)
       subst this
       exact hr0 t2 rfl (keysL_mem O t2 ov2 g1))
   exact ⟨S1.defers,_,r1,_,Z',β',κ',rfl,g⟩
  | _=>exact hres.elim
 rcases hex with rfl|rfl
 ·exact hpost
 ·exact hpost
end Go.Proofs.YtcggnmddcbhchaaGreatDoor
namespace Go.Proofs.YtcggnmddcbhchaaGreatDoor
open Go.RowKit Lim
section
variable {C:Ctx} {l:LT} {m:LM} {q:LQ} {K:AS→Prop} {os post:List Oper} {o:Oper}
variable {f:FuncId} {args:Array Operand} {tys:Array TypeId} {ty:TypeId} {p:String} {af:Array Edge} {d:Option Nat} {t:Nat} {xs:List TV} {M M':List (Nat × List AV)} {O O':List (Nat × OV)}
end
end Go.Proofs.YtcggnmddcbhchaaGreatDoor
