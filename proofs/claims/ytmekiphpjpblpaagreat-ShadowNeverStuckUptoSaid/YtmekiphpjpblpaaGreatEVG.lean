import Derived.Test.YtmekiphpjpblpaaGreatEVF
/- Text VG. -/
set_option linter.unusedSimpArgs false
set_option linter.unusedVariables false
set_option maxHeartbeats 40000000
set_option maxRecDepth 100000
namespace Go.Proofs.YtmekiphpjpblpaaGreat
open Go.RowKit Lim
theorem staleO_idem (d:Nat) (x:Option TV):staleO d (staleO d x)=staleO d x:=by
 cases x with
 | none=>rfl
 | some v =>
  cases v with
  | osl t k o n=>simp only [staleO];by_cases h:t=d <;> simp [h]
  | oref t k i o=>simp only [staleO];by_cases h:t=d <;> simp [h]
  | omap t=>simp only [staleO];by_cases h:t=d <;> simp [h]
  | _=>rfl
theorem staleO_comm (d s:Nat) (x:Option TV):staleO d (staleO s x)=staleO s (staleO d x):=by
 cases x with
 | none=>rfl
 | some v =>
  cases v with
  | osl t k o n=>simp only [staleO];by_cases h:t=d <;> by_cases h2:t=s <;> simp [h,h2] <;> (try simp_all)
  | oref t k i o=>simp only [staleO];by_cases h:t=d <;> by_cases h2:t=s <;> simp [h,h2] <;> (try simp_all)
  | omap t=>simp only [staleO];by_cases h:t=d <;> by_cases h2:t=s <;> simp [h,h2] <;> (try simp_all)
  | _=>rfl
theorem upd_upd {α:Type} (f:Nat→Option α) (t:Nat) (v v':Option α):upd (upd f t v) t v'=upd f t v':=by
 funext x
 by_cases h:x=t <;> simp [upd,h]
theorem upd_swap {α:Type} (f:Nat→Option α) {t s:Nat} (v v':Option α):upd (upd (upd f t v) s none) t v'=upd (upd f s none) t v':=by
 funext x
 by_cases h:x=t <;> by_cases h2:x=s <;> simp [upd,h,h2]
theorem newOwn_drop (σ:AS) (d:Nat) (ov:OV):(σ.dropOwn d).newOwn none d ov=σ.newOwn none d ov:=by
 simp only [AS.newOwn,AS.dropOwn,upd_upd,staleO_idem]
theorem newOwn_spent (σ:AS) (s d:Nat) (ov:OV):(σ.dropOwn s).newOwn none d ov=σ.newOwn (some s) d ov:=rfl
theorem newOwn_drop2 (σ:AS) (s d:Nat) (ov:OV):(σ.dropOwn d).newOwn (some s) d ov=σ.newOwn (some s) d ov:=by
 simp only [AS.newOwn,AS.dropOwn,upd_swap]
 congr 2
 funext x
 rw [staleO_comm s d,staleO_idem,staleO_comm d s]
section
variable {C:Ctx} {u:Bool} {w0:Base} {w w':World} {Z0 Z Z':Zone} {σ τ:AS} {a:Act} {β:Nat→Nat} {κ:Nat→Nat × Nat}
theorem Sim1.drewW (S:Sim1 u w0 Z0 σ a w Z β κ):Sim1 u w0 Z0 σ a w.drew Z β κ:=by
 have hb:Below w.heap.size w w.drew:=(Below.refl _ _).drew
 exact S.grow hb (fun _ _ h=>h) (fun _ _ h=>.inl h) (fun _ b o v hbb hc _=>absurd (World.block_lt_of_cell? _ _ hc) (Nat.not_lt.2 hbb))
theorem Sim1.appRow (S:Sim1 u w0 Z0 σ a w Z β κ) {s d:Nat} {ov ov':OV} {cells old:Array Value} (hs:σ.own s=some ov) (hd:d<a.tmps.size) (hdB:d<BIG) (hq:d=s∨σ.own d=none) (hb:Box w (κ s).1 old ov.e) (ho:Own (w.setRow (κ s).1 cells) Z (κ s).1 (κ s).2 ov') (hh:ov'.hot=false→∀c∈cells.toList,noLimb c=true) :
  Sim1 u w0 Z0 (σ.newOwn (some s) d ov') (a.put (some d) (.slice (some ⟨(κ s).1,0,none⟩) ov'.len (κ s).2)) (w.setRow (κ s).1 cells) Z β (fun x=>if x=d then κ s else κ x):=by
 obtain ⟨g1,hL⟩:=S.own s ov hs
 have hk:Keeps Z w (w.setRow (κ s).1 cells):=Keeps.ofGrown (grownBy_setRow w _ _) hL.out
 have hsz:=ho.size_le
 refine S.chg (κ s).1 (some d) none g1 hL.out (grownBy_setRow w _ _) (fun _ _ h=>h) (by simp [World.setRow];exact hL.lt) (fun _ _ h=>.inl h) (.inr rfl) (fun t' cs h _=>⟨h,S.injM t' s cs ov h hs,rfl⟩) (fun t' cs h he=>by cases he) (fun t' ov2 h hne=>?_) (fun t' ov2 h he=>?_) (fun t' x h=>?_) S.defers (fun _ b o v hbb hc hl=>?_) (fun _ t' ov2 h _ hne=>?_) (fun n=>if_neg (by omega)) (fun t' cs j n len h he hj=>by cases he)
 ·have e:t'≠d:=fun e=>hne (by rw [e])
  simp only [AS.newOwn]at h
  rw [upd_ne _ _ e]at h
  by_cases e2:t'=s
  ·rw [e2,upd_same]at h;cases h
  ·rw [upd_ne _ _ e2]at h
   exact ⟨h,fun he=>e2 (S.injO t' s ov2 ov h hs he),by simp only [if_neg e]⟩
 ·cases he
  simp only [AS.newOwn,upd_same]at h
  cases h
  simp only [if_true]
  exact ⟨.inl trivial,ho⟩
 ·rw [size_put]
  by_cases e:t'=d
  ·subst e
   simp only [AS.newOwn,upd_same]at h
   cases h
   rw [getD_put_same a _ hd]
   refine ⟨hd,?_⟩
   simp only [RepT,if_true,Nat.zero_add,Nat.zero_mul,Nat.sub_zero]
   exact ⟨hsz.1,trivial⟩
  ·simp only [AS.newOwn]at h
   rw [upd_ne _ _ e]at h
   obtain ⟨q1,q2,q3⟩:=staleO_some h
   have hstale:=h
   obtain ⟨r1,_,_⟩:=staleO_some q1
   obtain ⟨p1,p2⟩:=S.tm t' x r1
   rw [getD_put a _ e]
   refine ⟨p1,?_⟩
   have p3:=p2.keep hk (fun _ _ h=>h)
   cases x with
   | osl t2 k o m =>
    have:t2≠d:=fun h=>q2 k o m (by rw [h])
    simp only [RepT,if_neg this]
    exact p3
   | oref t2 k i o =>
    have:t2≠d:=fun h=>q3 k i o (by rw [h])
    simp only [RepT,if_neg this]
    exact p3
   | omap t2 =>
    have:t2≠d:=fun h=>staleO_omap hstale (by rw [h])
    simp only [RepT,if_neg this]
    exact p3
   | avl b=>exact ⟨p3.1,lnk3_congr (fun n=>if_neg (by omega)) p3.2⟩
   | _=>exact p3
 ·have hlt:=World.block_lt_of_cell? _ _ hc
  simp [World.setRow]at hlt
  have e:b=(κ s).1:=by omega
  subst e
  cases hq2:ov'.hot with
  | true=>exact .inr ⟨d,ov',by simp [AS.newOwn,upd_same],hq2,by simp⟩
  | false =>
   have hv:=cell_setRow_g hb hc
   have:=hh hq2 v (by obtain ⟨q1,q2⟩:=Array.getElem?_eq_some_iff.1 hv;rw [←q2];simp)
   rw [hl]at this
   cases this
 ·have e:t'≠s:=fun e=>hne (by rw [e])
  have e2:t'≠d:=fun e2=>by
   rcases hq with hq|hq
   ·exact e (e2.trans hq)
   ·rw [e2,hq]at h;cases h
  refine ⟨by simp only [AS.newOwn];rw [upd_ne _ _ e2,upd_ne _ _ e];exact h,?_⟩
  simpa using fun h=>e2 h.symm
theorem Sim1.newRowA (S:Sim1 u w0 Z0 σ a w Z β κ) (hz0:∀b o,Z0 b o→b<w0.w.heap.size) {d cap:Nat} {ov:OV} {cells:Array Value} (hd:d<a.tmps.size) (hdB:d<BIG) (hcs:cells.size=cap*ov.k) (hle:ov.len≤cap) (hcap:cap≤maxLen) (hk:0<ov.k) (hf:∀w' Z',Keeps Z w w'→(∀b o,Z b o→Z' b o)→Fits w' Z' cells ov) (hh:ov.hot=false→∀c∈cells.toList,noLimb c=true) :
  ∃Z' κ',Sim1 u w0 Z0 (σ.newOwn none d ov) (a.put (some d) (.slice (some ⟨w.heap.size,0,none⟩) ov.len cap)) (w.alloc (.cells cells ov.e)) Z' β κ':=by
 have S1:=S.dropRow d
 have hfree:(σ.dropOwn d).own d=none:=by simp [AS.dropOwn,upd_same]
 have hfresh:∀o,¬frzZ σ κ [d] Z w.heap.size o:=fun o ho=>absurd (S1.zlt hz0 _ _ ho) (Nat.lt_irrefl _)
 have hb:Below w.heap.size w (w.alloc (.cells cells ov.e)):=(Below.refl _ _).alloc (Nat.le_refl _) _
 have hO:Own (w.alloc (.cells cells ov.e)) (frzZ σ κ [d] Z) w.heap.size cap ov:=Own.of (heap_alloc_new w _) hcs hle hcap hk hfresh (hf _ _ (Keeps.ofBelow hb) (frzZ_le _ _ _ _))
 have:=S1.newRowO hz0 (n:=0) hd hdB hO hh hfree
 rw [newOwn_drop]at this
 exact ⟨_,_,this⟩
theorem cell_map {w:World} {g o:Nat} {es:Array MapEntry} {clock:Nat} (h:w.heap[g]? = some (.map es clock)):w.cell? ⟨g,o,none⟩=none:=by
 simp [World.cell?,h]
theorem Sim1.newMapA (S:Sim1 u w0 Z0 σ a w Z β κ) (hz0:∀b o,Z0 b o→b<w0.w.heap.size) {d:Nat} {kd:TK} (hd:d<a.tmps.size) (hdB:d<BIG) :
  ∃Z' κ',Sim1 u w0 Z0 (σ.newMap d (.map kd [])) (a.put (some d) (.map (some w.heap.size))) (w.alloc (.map #[] 0)) Z' β κ':=by
 have S1:=S.dropRow d
 have hb:Below w.heap.size w (w.alloc (.map #[] 0)):=(Below.refl _ _).alloc (Nat.le_refl _) _
 have hfresh:∀o,¬frzZ σ κ [d] Z w.heap.size o:=fun o ho=>absurd (S1.zlt hz0 _ _ ho) (Nat.lt_irrefl _)
 have hk:Keeps (frzZ σ κ [d] Z) w (w.alloc (.map #[] 0)):=Keeps.ofBelow hb
 have hnew:=(MapKept.heap_alloc w (.map #[] 0)).1
 refine ⟨frzZ σ κ [d] Z,fun x=>if x=d then (w.heap.size,0) else κ x,?_⟩
 refine S1.chg w.heap.size (some d) none (.inl S1.below.size) hfresh (World.grownBy_alloc w _ _) (fun _ _ h=>h) (by rw [World.size_alloc];omega) (fun _ _ h=>.inl h) (.inr rfl) (fun t' cs h _=>⟨h,Nat.ne_of_lt (S1.mem t' cs h).2.lt,rfl⟩) (fun t' cs h he=>by cases he) (fun t' ov2 h hne=>?_) (fun t' ov2 h he=>?_) (fun t' x h=>?_) S1.defers (fun _ b o v hbb hc hl=>?_) (fun _ t' ov2 h _ _=>?_) (fun n=>if_neg (by omega)) (fun t' cs j n len h he hj=>by cases he)
 ·have e:t'≠d:=fun e=>hne (by rw [e])
  simp only [AS.newMap]at h
  rw [upd_ne _ _ e]at h
  have h':(σ.dropOwn d).own t'=some ov2:=by simp only [AS.dropOwn];rw [upd_ne _ _ e];exact h
  exact ⟨h',Nat.ne_of_lt (S1.own t' ov2 h').2.lt,by simp only [if_neg e]⟩
 ·cases he
  simp only [AS.newMap,upd_same]at h
  cases h
  simp only [if_true]
  exact ⟨.inl trivial,#[],0,hnew,Nat.zero_le _,hfresh,trivial⟩
 ·rw [size_put]
  by_cases e:t'=d
  ·subst e
   simp only [AS.newMap,upd_same]at h
   cases h
   rw [getD_put_same a _ hd]
   exact ⟨hd,by simp [RepT]⟩
  ·simp only [AS.newMap]at h
   rw [upd_ne _ _ e]at h
   obtain ⟨q1,q2,q3⟩:=staleO_some h
   have q4:=staleO_omap h
   obtain ⟨p1,p2⟩:=S1.tm t' x h
   rw [getD_put a _ e]
   refine ⟨p1,?_⟩
   have p3:=p2.keep hk (fun _ _ h=>h)
   cases x with
   | osl t2 k o m =>
    have:t2≠d:=fun h=>q2 k o m (by rw [h])
    simp only [RepT,if_neg this]
    exact p3
   | oref t2 k i o =>
    have:t2≠d:=fun h=>q3 k i o (by rw [h])
    simp only [RepT,if_neg this]
    exact p3
   | omap t2 =>
    have:t2≠d:=fun h=>q4 (by rw [h])
    simp only [RepT,if_neg this]
    exact p3
   | avl b=>exact ⟨p3.1,lnk3_congr (fun n=>if_neg (by omega)) p3.2⟩
   | _=>exact p3
 ·have hlt:=World.block_lt_of_cell? _ _ hc
  rw [World.size_alloc]at hlt
  have hlt:b<w.heap.size+1:=hlt
  have e:b=w.heap.size:=by omega
  subst e
  rw [cell_map hnew]at hc
  cases hc
 ·have e:t'≠d:=fun e=>by rw [e]at h;simp [AS.dropOwn,upd_same]at h
  refine ⟨?_,by simpa using fun h=>e h.symm⟩
  simp only [AS.newMap,AS.dropOwn]at h ⊢
  rw [upd_ne _ _ e]at h ⊢
  exact h
theorem Sim1.setMapO (S:Sim1 u w0 Z0 σ a w Z β κ) {t:Nat} {kd:TK} {m m':List (Value × AV)} {es':Array MapEntry} {clock':Nat} (ht:σ.own t=some (.map kd m)) (ho:MapR w Z kd m' es'.toList) :
  Sim1 u w0 Z0 (σ.setOwn t (.map kd m')) a { w with heap:=w.heap.setIfInBounds (κ t).1 (.map es' clock') } Z β κ:=by
 obtain ⟨g1,hL⟩:=S.own t _ ht
 have hout:=hL.out
 have hlt:=hL.lt
 obtain ⟨es,clock,o1,o2,o3,o4⟩:=hL
 have hset:=MapKept.heap_set (o':=.map es' clock') o1
 have hc:w.grownBy { w with heap:=w.heap.setIfInBounds (κ t).1 (.map es' clock') } (some (κ t).1) :=
  ⟨rfl,rfl,rfl,by simp,fun i _ hi=>hset.2 i (fun e=>hi (by rw [e]))⟩
 have hk:Keeps Z w { w with heap:=w.heap.setIfInBounds (κ t).1 (.map es' clock') }:=Keeps.ofGrown hc hout
 refine S.chg (κ t).1 (some t) none g1 hout hc (fun _ _ h=>h) (by simpa using hlt) (fun _ _ h=>.inl h) (.inr rfl) (fun t' cs h _=>⟨h,S.injM t' t cs _ h ht,rfl⟩) (fun t' cs h he=>by cases he) (fun t' ov2 h hne=>?_) (fun t' ov2 h he=>?_) (fun t' x h=>⟨(S.tm t' x h).1,(S.tm t' x h).2.keep hk (fun _ _ h=>h)⟩) S.defers (fun _ b o v hbb hcc hl=>?_) (fun _ t' ov2 h _ hne=>?_) (fun _=>rfl) (fun t' cs j n len h he hj=>by cases he)
 ·have e:t'≠t:=fun e=>hne (by rw [e])
  simp only [AS.setOwn]at h
  rw [upd_ne _ _ e]at h
  exact ⟨h,fun he=>e (S.injO t' t ov2 _ h ht he),rfl⟩
 ·cases he
  simp only [AS.setOwn,upd_same]at h
  cases h
  exact ⟨.inl rfl,es',clock',hset.1,o2,o3,ho.keep hk (fun _ _ h=>h)⟩
 ·have hlt2:=World.block_lt_of_cell? _ _ hcc
  simp at hlt2
  have e:b=(κ t).1:=by omega
  subst e
  rw [cell_map hset.1]at hcc
  cases hcc
 ·have e:t'≠t:=fun e=>hne (by rw [e])
  refine ⟨by simp only [AS.setOwn];rw [upd_ne _ _ e];exact h,?_⟩
  simpa using fun h=>e h.symm
theorem zero_cells (w:World) (Z:Zone) {i:TI} {e:TypeId} (h:TIOK C.P e i):∃info zv,C.P.info? e=some info∧info.size=i.zero.length∧info.bytes=i.bytes∧info.zero=some zv∧zv.cells.size=i.zero.length∧(i.zero.all AV.noLimb=true→∀c∈zv.cells.toList,noLimb c=true):=by
 obtain ⟨info,zv,h1,h2,h3,h4,h5⟩:=h.inf
 obtain ⟨l1,l2⟩:=Rep.agg_iff.1 (h5 w Z)
 refine ⟨info,zv,h1,h2,h3,h4,l1,fun hn c hc=>?_⟩
 obtain ⟨j,hj,rfl⟩:=List.mem_iff_getElem.1 hc
 have hj':j<zv.cells.size:=by simpa using hj
 exact (l2 j _ _ (List.getElem?_eq_getElem (by omega)) (by rw [Array.getElem?_eq_getElem hj'];simp)).noLimb (List.all_eq_true.1 hn _ (List.getElem_mem (by omega)))
theorem zeroCells_mem {z:Array Value} {n:Nat} {c:Value} (hz:0<z.size) (h:c∈(Builtin.zeroCells z n).toList):c∈z.toList:=by
 simp only [Builtin.zeroCells,Array.toList_map,List.mem_map]at h
 obtain ⟨j,hj,rfl⟩:=h
 have:j % z.size<z.size:=Nat.mod_lt _ hz
 rw [getElem!_pos z _ this]
 simp
theorem maxLen_eq:maxLen=9223372036854775807:=by simp [maxLen]
theorem baseT_cases {e:TypeId} {k:Nat} {l:Bool} {xv:TV} {s:Option Nat} {ov:OV} (h:baseT σ e k l xv=some (s,ov)) :
  (xv=.av (.lit (.slice none 0 0))∧s=none∧(ov=.limb e []∧l=true∧k=1∨ov=.row e k []∧l=false))∨(∃t,s=some t∧σ.own t=some ov∧xv=.osl t k 0 ov.len∧ov.e=e∧ov.k=k∧ov.hot=l):=by
 unfold baseT at h
 split at h
 ·split at h
  ·split at h
   ·rename_i hk
    cases h
    exact .inl ⟨rfl,rfl,.inl ⟨rfl,rfl,hk⟩⟩
   ·cases h
  ·cases h
   exact .inl ⟨rfl,rfl,.inr ⟨rfl,rfl⟩⟩
 ·rename_i t k' off len
  split at h
  ·rename_i e' k2 es hov
   split at h
   ·rename_i hc
    cases h
    obtain ⟨rfl,rfl,rfl,rfl,rfl,rfl⟩:=hc
    exact .inr ⟨t,rfl,hov,rfl,rfl,rfl,rfl⟩
   ·cases h
  ·rename_i e' l' hov
   split at h
   ·rename_i hc
    cases h
    obtain ⟨rfl,rfl,rfl,rfl,rfl,rfl⟩:=hc
    exact .inr ⟨t,rfl,hov,rfl,rfl,rfl,rfl⟩
   ·cases h
  ·cases h
 ·cases h
theorem app_row {ov ov':OV} {y:AV} (h:ov.app y=some ov'):ov.isMap=false:=by
 cases ov with
 | map kd m=>cases y <;> cases h
 | _=>rfl
theorem app_slK {ov ov':OV} {y:AV} (h:ov.app y=some ov'):y.slK ov.k:=by
 cases ov with
 | map kd m=>cases y <;> cases h
 | row e k es =>
  cases y with
  | sl k' ys =>
   simp only [OV.app]at h
   split at h
   ·rename_i hc;exact hc.1
   ·cases h
  | _=>cases h
 | limb e l =>
  cases y with
  | nat ys=>rfl
  | _=>cases h
theorem app_len {ov ov':OV} {y:AV} (h:ov.app y=some ov'):ov'.len=ov.len+y.cnt∧ov'.k=ov.k∧ov'.e=ov.e∧ov'.hot=ov.hot:=by
 cases ov with
 | map kd m=>cases y <;> cases h
 | row e k es =>
  cases y with
  | sl k' ys =>
   simp only [OV.app]at h
   split at h
   ·cases h;exact ⟨by simp [OV.len,AV.cnt],rfl,rfl,rfl⟩
   ·cases h
  | _=>cases h
 | limb e l =>
  cases y with
  | nat ys=>cases h;exact ⟨by simp [OV.len,AV.cnt],rfl,rfl,rfl⟩
  | _=>cases h
theorem app_noLimb {ov ov':OV} {y:AV} {news:List Value} (h:ov.app y=some ov') (hh:ov.hot=false) (hn:NewsR w Z news y):∀c∈news,noLimb c=true:=by
 cases ov with
 | map kd m=>cases y <;> cases h
 | limb e l=>cases hh
 | row e k es =>
  cases y with
  | sl k' ys =>
   simp only [OV.app]at h
   split at h
   ·rename_i hc
    obtain ⟨rfl,hall⟩:=hc
    obtain ⟨n1,n2⟩:=hn
    intro c hc
    obtain ⟨q,hq,rfl⟩:=List.mem_iff_getElem.1 hc
    rw [n1]at hq
    have hk0:0<k':=by
     rcases Nat.eq_zero_or_pos k' with h0|h0
     ·subst h0;simp at hq
     ·exact h0
    have hdiv:q / k'<ys.length:=Nat.div_lt_of_lt_mul (by rw [Nat.mul_comm];exact hq)
    obtain ⟨p1,p3⟩:=n2 (q / k') hdiv
    obtain ⟨v,q1,q2⟩:=p3 (q % k') (by rw [p1];exact Nat.mod_lt _ hk0)
    have e1:q / k'*k'+q % k'=q:=by rw [Nat.mul_comm];exact Nat.div_add_mod q k'
    rw [e1,List.getElem?_eq_getElem (by omega)]at q1
    cases q1
    have hm:=List.all_eq_true.1 hall _ (List.getElem_mem hdiv)
    simp only [Bool.and_eq_true]at hm
    exact q2.noLimb (List.all_eq_true.1 hm.2 _ (List.getElem_mem _))
   ·cases h
  | _=>cases h
theorem app_one {ov ov':OV} {y:AV} {news:List Value} (h:ov.app y=some ov') (hn:NewsR w Z news y):∀c∈news,c.oneCell'=true:=by
 cases ov with
 | map kd m=>cases y <;> cases h
 | limb e l =>
  cases y with
  | nat ys =>
   obtain ⟨rfl,_⟩:=hn
   intro c hc
   simp at hc
   obtain ⟨x,_,rfl⟩:=hc
   rfl
  | _=>cases h
 | row e k es =>
  cases y with
  | sl k' ys =>
   simp only [OV.app]at h
   split at h
   ·rename_i hc
    obtain ⟨rfl,hall⟩:=hc
    obtain ⟨n1,n2⟩:=hn
    intro c hc
    obtain ⟨q,hq,rfl⟩:=List.mem_iff_getElem.1 hc
    rw [n1]at hq
    have hk0:0<k':=by
     rcases Nat.eq_zero_or_pos k' with h0|h0
     ·subst h0;simp at hq
     ·exact h0
    have hdiv:q / k'<ys.length:=Nat.div_lt_of_lt_mul (by rw [Nat.mul_comm];exact hq)
    obtain ⟨p1,p3⟩:=n2 (q / k') hdiv
    obtain ⟨v,q1,q2⟩:=p3 (q % k') (by rw [p1];exact Nat.mod_lt _ hk0)
    have e1:q / k'*k'+q % k'=q:=by rw [Nat.mul_comm];exact Nat.div_add_mod q k'
    rw [e1,List.getElem?_eq_getElem (by omega)]at q1
    cases q1
    have hm:=List.all_eq_true.1 hall _ (List.getElem_mem hdiv)
    simp only [Bool.and_eq_true]at hm
    exact q2.one (List.all_eq_true.1 hm.1 _ (List.getElem_mem _))
   ·cases h
  | _=>cases h
theorem Sim1.append (S:Sim1 u w0 Z0 σ a w Z β κ) (hz0:∀b o,Z0 b o→b<w0.w.heap.size) {d:Nat} (hd:d<a.tmps.size) (hdB:d<BIG) {ty rt e:TypeId} {k:Nat} {l:Bool} {z:List AV} {bb:Nat} {i:TI} (hT:TIOK C.P ty ⟨.slc e k l,z,bb⟩) (hTe:TIOK C.P e i) (hik:i.zero.length=k) (hk:0<k)
  {xv yv:TV} {vx vy:Value} {s:Option Nat} {ov ov':OV} {y:AV} (hx:RepT w Z β κ xv vx) (hbase:baseT σ e k l xv=some (s,ov)) (hy:RepT w Z β κ yv vy) (harg:σ.argT C.T ty yv=some y) (happ:ov.app y=some ov') (hlt:ov.len<ov'.len) (hbytes:ov'.len*i.bytes≤140737488355328) (h63:ov'.len≤9223372036854775807) (hnl:l=false→i.zero.all AV.noLimb=true) :
  ∃v' w' Z' κ',(Builtin.append_ #[ty,ty] rt #[vx,vy]).run C.P w=.ok v' w'∧Sim1 u w0 Z0 (σ.newOwn s d ov') (a.put (some d) v') w' Z' β κ':=by
 obtain ⟨u1,ei,u2,u3⟩:=hT.und
 obtain ⟨info,zv,i1,i2,i3,i4,i5,i6⟩:=zero_cells w Z hTe
 have hei:info=ei:=by rw [i1]at u2;exact Option.some.inj u2
 subst hei
 have hz0':0<zv.cells.size:=by omega
 have hovk:ov.k=k∧ov.e=e∧ov.hot=l:=by
  rcases baseT_cases hbase with ⟨_,_,⟨rfl,rfl,rfl⟩|⟨rfl,rfl⟩⟩|⟨t,_,_,_,h1,h2,h3⟩
  ·exact ⟨rfl,rfl,rfl⟩
  ·exact ⟨rfl,rfl,rfl⟩
  ·exact ⟨h2,h1,h3⟩
 obtain ⟨hovk,hove,hoh⟩:=hovk
 obtain ⟨a1,a2,a3,a4⟩:=app_len happ
 have hpos:0<y.cnt:=by omega
 obtain ⟨b,off,c,news,rfl,n1,n2,n3⟩:=news_of S hy harg hk (hovk ▸ app_slK happ) hpos
 have hsz:info.size=k:=by rw [i2,hik]
 have n1':news.length=y.cnt*info.size:=by rw [hsz];exact n1
 have hone:=app_one happ n3
 have hzl:ov'.hot=false→∀c∈zv.cells.toList,noLimb c=true:=fun h=>i6 (hnl (by rw [←hoh,←a4];exact h))
 have hnn:ov'.hot=false→∀c∈news,noLimb c=true:=fun h=>app_noLimb happ (by rw [←a4];exact h) n3
 rcases baseT_cases hbase with ⟨rfl,rfl,hov⟩|⟨t,rfl,hown,rfl,_,_,_⟩
 ·have hvx:vx=.slice none 0 0:=Rep.lit_eq hx
  subst hvx
  have hl0:ov.len=0:=by rcases hov with ⟨rfl,_⟩|⟨rfl,_⟩ <;> rfl
  have hF0:∀w' Z',Fits w' Z' #[] ov:=fun w' Z'=>by
   rcases hov with ⟨rfl,_⟩|⟨rfl,_⟩
   ·exact ⟨dig_nil,fun i hi=>by simp at hi⟩
   ·exact ⟨fun c hc=>by simp at hc,fun i hi=>by simp at hi⟩
  have hb2:y.cnt*info.bytes≤281474976710656:=by
   have e0:ov'.len=y.cnt:=by omega
   rw [e0,←i3]at hbytes
   omega
  have hr:=run_append_nil (P:=C.P) w ty rt e info zv u1 i1 i4 ⟨b,off,none⟩ y.cnt c news n1' n2 hpos (by omega) hb2
  have hge:=grownCap_ge w y.cnt 0 e
  have hcm:=grownCap_le_maxLen w y.cnt 0 e (by rw [maxLen_eq];omega)
  have hcell:(news.toArray ++ Builtin.zeroCells zv.cells (grownCap w y.cnt 0 e-y.cnt)).size=grownCap w y.cnt 0 e*ov'.k:=by
   rw [Array.size_append,size_zeroCells,i5,hik,a2,hovk]
   simp only [List.size_toArray]
   rw [n1,←Nat.add_mul]
   congr 1
   omega
  have htk:(news.toArray ++ Builtin.zeroCells zv.cells (grownCap w y.cnt 0 e-y.cnt)).toList.take (ov'.len*ov.k)=(#[]:Array Value).toList.take (ov.len*ov.k) ++ news:=by
   have:ov'.len*ov.k=news.length:=by rw [hovk,n1];congr 1;omega
   rw [this]
   simp
  have hlim:ov'.hot=false→∀c∈(news.toArray ++ Builtin.zeroCells zv.cells (grownCap w y.cnt 0 e-y.cnt)).toList,noLimb c=true:=fun h c hc=>by
   simp only [Array.toList_append,List.mem_append]at hc
   rcases hc with hc|hc
   ·exact hnn h c hc
   ·exact hzl h c (zeroCells_mem hz0' hc)
  obtain ⟨Z',κ',S2⟩:=S.drewW.newRowA hz0 (d:=d) (cap:=grownCap w y.cnt 0 e) (ov:=ov') hd hdB hcell (by omega) hcm (by rw [a2,hovk];exact hk) (fun w' Z' hkk hzz=>Fits.app (hF0 w' Z') (n3.keep (Keeps.mk hkk.1 hkk.2) hzz) happ (by rw [hl0];simp) htk (fun h=>hlim (by rw [a4];exact h))) hlim
  have hlen:ov'.len=y.cnt:=by omega
  rw [hlen,a3,hove]at S2
  exact ⟨_,_,Z',κ',hr,S2⟩
 ·obtain ⟨r1,r2⟩:=hx
  simp only [Nat.zero_add,Nat.zero_mul,Nat.sub_zero]at r1 r2
  subst r2
  obtain ⟨g1,hO⟩:=S.own t ov hown
  obtain ⟨cur,c1,c2,c3,c4,c5,c6,c7⟩:=hO.to (app_row happ)
  rw [hove]at c1
  have hb:Box w (κ t).1 cur e:=c1
  have hfitc:ov.len*ov.k≤cur.size:=by rw [c2];exact Nat.mul_le_mul_right _ c3
  by_cases hroom:ov.len+y.cnt≤(κ t).2
  ·have hfit:ov.len*info.size+news.length≤cur.size:=by rw [c2,n1',hsz,hovk,←Nat.add_mul];exact Nat.mul_le_mul_right _ hroom
   have hr:=run_append_room (P:=C.P) w ty rt e info u1 i1 (κ t).1 ov.len (κ t).2 cur c1 ⟨b,off,none⟩ y.cnt c news n1' n2 hone hroom hfit
   rw [hsz]at hr hfit
   have key:∀{σ1:AS} {Z1:Zone},Sim1 u w0 Z0 σ1 a w Z1 β κ→σ1.own t=some ov→(d=t∨σ1.own d=none)→(∀b o,Z b o→Z1 b o)→σ1.newOwn (some t) d ov'=σ.newOwn (some t) d ov' →
     Sim1 u w0 Z0 (σ.newOwn (some t) d ov') (a.put (some d) (.slice (some ⟨(κ t).1,0,none⟩) (ov.len+y.cnt) (κ t).2)) (w.setRow (κ t).1 (cur.toList.take (ov.len*k) ++ news ++ cur.toList.drop (ov.len*k+news.length)).toArray) Z1 β (fun x=>if x=d then κ t else κ x):=fun {σ1 Z1} S1 h1 h2 h3 h4=>by
    obtain ⟨_,hO1⟩:=S1.own t ov h1
    have hk1:Keeps Z1 w (w.setRow (κ t).1 (cur.toList.take (ov.len*k) ++ news ++ cur.toList.drop (ov.len*k+news.length)).toArray):=Keeps.ofGrown (grownBy_setRow w _ _) hO1.out
    have hlim:ov'.hot=false→∀c∈(cur.toList.take (ov.len*k) ++ news ++ cur.toList.drop (ov.len*k+news.length)).toArray.toList,noLimb c=true:=fun h c hc=>by
     have hcur:∀c∈cur.toList,noLimb c=true:=by
      cases ov with
      | row _ _ _=>exact c7.1
      | limb _ _=>rw [a4]at h;cases h
      | map _ _=>exact c7.elim
     simp only [List.mem_append]at hc
     rcases hc with (hc|hc)|hc
     ·exact hcur c (List.mem_of_mem_take hc)
     ·exact hnn h c hc
     ·exact hcur c (List.mem_of_mem_drop hc)
    have htk:((cur.toList.take (ov.len*k) ++ news ++ cur.toList.drop (ov.len*k+news.length)).toArray).toList.take (ov'.len*ov.k)=cur.toList.take (ov.len*ov.k) ++ news:=by
     have hl:(cur.toList.take (ov.len*k) ++ news).length=ov'.len*k:=by
      rw [List.length_append,n1,a1,Nat.add_mul,List.length_take,Array.length_toList]
      rw [hovk]at hfitc
      omega
     rw [hovk,←hl]
     exact List.take_left
    have hF:=Fits.app (c7.keep (Keeps.refl _ _) h3) (n3.keep (Keeps.refl _ _) h3) happ hfitc htk (fun h=>hlim (by rw [a4];exact h))
    have hO2:Own (w.setRow (κ t).1 (cur.toList.take (ov.len*k) ++ news ++ cur.toList.drop (ov.len*k+news.length)).toArray) Z1 (κ t).1 (κ t).2 ov':=by
     refine Own.of (cur:=(cur.toList.take (ov.len*k) ++ news ++ cur.toList.drop (ov.len*k+news.length)).toArray) ?_ ?_ (by omega) c4 (by rw [a2,hovk];exact hk) hO1.out (hF.keep hk1 (fun _ _ h=>h))
     ·rw [a3,hove];exact setRow_heap w _ cur _ e (0,0) hb
     ·rw [a2,←c2]
      simp only [List.size_toArray,List.length_append,List.length_take,List.length_drop,Array.length_toList]
      omega
    have:=S1.appRow (s:=t) (d:=d) (ov:=ov) (ov':=ov') (old:=cur) h1 hd hdB h2 (by rw [hove];exact hb) hO2 hlim
    rw [h4,a1]at this
    exact this
   by_cases hdt:d=t
   ·exact ⟨_,_,_,_,hr,key S hown (.inl hdt) (fun _ _ h=>h) rfl⟩
   ·refine ⟨_,_,_,_,hr,key (S.dropRow d) ?_ (.inr ?_) (frzZ_le _ _ _ _) (newOwn_drop2 _ _ _ _)⟩
    ·simp only [AS.dropOwn];rw [upd_ne _ _ (Ne.symm hdt)];exact hown
    ·simp only [AS.dropOwn,upd_same]
  ·have holds:∀j v,(cur.toList.take (ov.len*k))[j]? = some v→w.cell? ((⟨(κ t).1,0,none⟩:Addr).add j)=some v:=fun j v hj=>by
    have hjl:=(List.getElem?_eq_some_iff.1 hj).1
    simp at hjl
    rw [List.getElem?_take_of_lt (by omega)]at hj
    rw [add_addr,hb.cell,Nat.zero_add,←Array.getElem?_toList]
    exact hj
   have hlo:(cur.toList.take (ov.len*k)).length=ov.len*info.size:=by
    rw [List.length_take,Array.length_toList,hsz]
    rw [hovk]at hfitc
    omega
   have hr:=run_append_grow (P:=C.P) w ty rt e info zv u1 i1 i4 ⟨(κ t).1,0,none⟩ ov.len (κ t).2 (cur.toList.take (ov.len*k)) hlo holds ⟨b,off,none⟩ y.cnt c news n1' n2 (by omega) (by omega) (growslice_fits (by omega) (by rw [i3,←a1];exact hbytes))
   have hge:=grownCap_ge w (ov.len+y.cnt) (κ t).2 e
   have hcm:=grownCap_le_maxLen w (ov.len+y.cnt) (κ t).2 e (by rw [maxLen_eq];omega)
   generalize hcells:(cur.toList.take (ov.len*k)).toArray ++ news.toArray ++ Builtin.zeroCells zv.cells (grownCap w (ov.len+y.cnt) (κ t).2 e-(ov.len+y.cnt))=cells at *
   rw [hsz]at hlo
   have hcell:cells.size=grownCap w (ov.len+y.cnt) (κ t).2 e*ov'.k:=by
    rw [←hcells,Array.size_append,size_zeroCells,i5,hik,a2,hovk,Array.size_append]
    simp only [List.size_toArray]
    rw [n1,hlo,←Nat.add_mul,←Nat.add_mul]
    congr 1
    omega
   have htk:cells.toList.take (ov'.len*ov.k)=cur.toList.take (ov.len*ov.k) ++ news:=by
    have hl:(cur.toList.take (ov.len*k) ++ news).length=ov'.len*k:=by rw [List.length_append,n1,a1,Nat.add_mul,hlo]
    rw [hovk,←hl,←hcells]
    simp only [Array.toList_append]
    exact List.take_left
   have hlim:ov'.hot=false→∀c∈cells.toList,noLimb c=true:=fun h c hc=>by
    have hcur:∀c∈cur.toList,noLimb c=true:=by
     cases ov with
     | row _ _ _=>exact c7.1
     | limb _ _=>rw [a4]at h;cases h
     | map _ _=>exact c7.elim
    rw [←hcells]at hc
    simp only [Array.toList_append,List.mem_append]at hc
    rcases hc with (hc|hc)|hc
    ·exact hcur c (List.mem_of_mem_take hc)
    ·exact hnn h c hc
    ·exact hzl h c (zeroCells_mem hz0' hc)
   obtain ⟨Z',κ',S2⟩:=(S.dropRow t).drewW.newRowA hz0 (d:=d) (cap:=grownCap w (ov.len+y.cnt) (κ t).2 e) (ov:=ov') (cells:=cells) hd hdB hcell (by omega) hcm (by rw [a2,hovk];exact hk)
    (fun w' Z' hkk hzz=>Fits.app (c7.keep (w':=w') (Z':=Z') ⟨hkk.1,fun b o v h=>hkk.2 b o v (.inl h)⟩ (fun b o h=>hzz b o (.inl h))) (n3.keep ⟨hkk.1,fun b o v h=>hkk.2 b o v (.inl h)⟩ (fun b o h=>hzz b o (.inl h))) happ hfitc htk (fun h=>hlim (by rw [a4];exact h))) hlim
   rw [newOwn_spent,a1,a3,hove]at S2
   exact ⟨_,_,Z',κ',hr,S2⟩
end
end Go.Proofs.YtmekiphpjpblpaaGreat
