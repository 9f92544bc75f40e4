import Derived.Test.YtmekiphpjpblpaaGreatEVD
/- Text VE. -/
set_option linter.unusedSimpArgs false
set_option linter.unusedVariables false
set_option maxHeartbeats 40000000
set_option maxRecDepth 100000
namespace Go.Proofs.YtmekiphpjpblpaaGreat
open Go.RowKit Lim
section
variable {C:Ctx} {u:Bool} {w0:Base} {w w':World} {Z0 Z Z':Zone} {σ τ:AS} {a:Act} {β:Nat→Nat} {κ:Nat→Nat × Nat}
theorem Own.part_rep {g cap:Nat} {ov:OV} (h:Own w Z g cap ov) (hz:∀b o,Z b o→Z' b o) (hg:∀o,Z' g o) {off len:Nat} (hl:off+len≤ov.len):Rep w Z' (ov.part off len) (.slice (some ⟨g,off*ov.k,none⟩) len (cap-off)):=by
 have hlt:=h.lt
 cases ov with
 | row e k es =>
  obtain ⟨cur,h1,h2,h3,h4,h5,h6,h7,h8⟩:=h
  have hb:Box w g cur e:=h1
  simp only [OV.len]at hl
  have hel:((es.drop off).take len).length=len:=by simp;omega
  have hget:∀i (hi:i<((es.drop off).take len).length) (hi':off+i<es.length),((es.drop off).take len)[i]=es[off+i]:=fun i hi hi'=>by rw [List.getElem_take,List.getElem_drop]
  have:Rep w Z' (.sl k ((es.drop off).take len)) (.slice (some ⟨g,off*k,none⟩) ((es.drop off).take len).length (cap-off)):=by
   refine .sl (fun i j=>cur[(off+i)*k+j]?.getD undef) hlt (by omega) (fun i hi=>?_) (fun i j hi hj=>?_) (fun i hi j hj=>?_)
   ·rw [hget i hi (by omega)]
    exact (h8 _ _).1
   ·obtain ⟨p1,_,p3⟩:=h8 (off+i) (by omega)
    obtain ⟨y,q1,_⟩:=p3 j (by rw [p1];exact hj)
    refine ⟨?_,hg _⟩
    rw [hb.cell]
    have e1:off*k+i*k+j=(off+i)*k+j:=by rw [Nat.add_mul]
    rw [e1,q1]
    rfl
   ·have e:=hget i hi (by omega)
    obtain ⟨p1,_,p3⟩:=h8 (off+i) (by omega)
    obtain ⟨y,q1,q2⟩:=p3 j (by rw [←e];exact hj)
    simp only [e,q1,Option.getD_some]
    exact q2.keep (Keeps.refl _ _) hz
  rw [hel]at this
  exact this
 | map kd m =>
  simp only [OV.len]at hl
  obtain rfl:len=0:=by omega
  exact .nil
 | limb e l =>
  obtain ⟨cur,h1,h2,h3,h4,h5,h6,h7⟩:=h
  have hb:Box w g cur e:=h1
  simp only [OV.len]at hl
  have hel:((l.drop off).take len).length=len:=by simp;omega
  have:Rep w Z' (.nat ((l.drop off).take len)) (.slice (some ⟨g,off*1,none⟩) ((l.drop off).take len).length (cap-off)):=by
   refine .nat ⟨dig_take (dig_drop h6 off) len,fun _=>⟨g,off*1,rfl,hlt,fun j hj=>?_⟩⟩ (by omega) (fun b off e j hj=>by cases e;exact hg _)
   rw [hb.cell,Nat.mul_one,List.getElem_take,List.getElem_drop]
   exact h7 _ _
  rw [hel]at this
  exact this
theorem Sim1.zlt (S:Sim1 u w0 Z0 σ a w Z β κ) (hz0:∀b o,Z0 b o→b<w0.w.heap.size):∀b o,Z b o→b<w.heap.size:=fun b o h=>by
 rcases S.z1 b o h with h1|h1
 ·exact Nat.lt_of_lt_of_le (hz0 b o h1) S.below.size
 ·exact h1.2
def frzZ (σ:AS) (κ:Nat→Nat × Nat) (ts:List Nat) (Z:Zone):Zone:=fun b o=>Z b o∨∃t ov,σ.own t=some ov∧ts.contains t=true∧(κ t).1=b
theorem frzZ_le (σ:AS) (κ:Nat→Nat × Nat) (ts:List Nat) (Z:Zone):∀b o,Z b o→frzZ σ κ ts Z b o:=fun _ _ h=>.inl h
theorem frzZ_in {t:Nat} {ov:OV} {ts:List Nat} (h:σ.own t=some ov) (ht:ts.contains t=true):∀o,frzZ σ κ ts Z (κ t).1 o:=fun _=>.inr ⟨t,ov,h,ht,rfl⟩
theorem Sim1.frz (S:Sim1 u w0 Z0 σ a w Z β κ) (ts:List Nat):Sim1 u w0 Z0 (σ.frz ts) a w (frzZ σ κ ts Z) β κ:=by
 refine S.drop (fun t cs h=>h) (fun t ov h=>?_) ?_ (fun t x h=>?_)
 ·simp only [AS.frz]at h
  split at h
  ·cases h
  ·exact h
 ·funext b o
  simp only [frzZ,AS.frz]
  apply propext
  constructor
  ·rintro (h|⟨t,ov,h1,h2,h3⟩)
   ·exact .inl h
   ·exact .inr (.inl ⟨t,ov,h1,by rw [if_pos h2],h3⟩)
  ·rintro (h|⟨t,ov,h1,h2,h3⟩|⟨t,cs,h1,h2,_⟩)
   ·exact .inl h
   ·refine .inr ⟨t,ov,h1,?_,h3⟩
    split at h2
    ·assumption
    ·rw [h1]at h2;cases h2
   ·rw [h1]at h2;cases h2
 ·simp only [AS.frz,Option.bind_eq_some_iff]at h
  obtain ⟨y,h1,h2⟩:=h
  obtain ⟨q1,q2⟩:=S.tm t y h1
  refine ⟨q1,?_⟩
  have hk:RepT w (frzZ σ κ ts Z) β κ y (a.tmps.getD t undef):=q2.keep (Keeps.refl _ _) (frzZ_le _ _ _ _)
  cases y with
  | osl t' k off len =>
   simp only [frzT]at h2
   split at h2
   ·rename_i hc
    split at h2
    ·rename_i ov hov
     split at h2
     ·rename_i hh
      cases h2
      obtain ⟨rfl,hh⟩:=hh
      obtain ⟨r1,r2⟩:=q2
      show Rep _ _ _ _
      rw [r2]
      exact (S.own t' ov hov).2.part_rep (frzZ_le _ _ _ _) (frzZ_in hov hc) hh
     ·cases h2
    ·cases h2
   ·cases h2;exact hk
  | oref t' k i o =>
   simp only [frzT]at h2
   split at h2
   ·cases h2
   ·cases h2;exact hk
  | _=>cases h2;exact hk
theorem argT_sound {T:TyTab} (S:Sim1 u w0 Z0 σ a w Z β κ) {ty:TypeId} {x:TV} {y:AV} {v:Value} (hx:RepT w Z β κ x v) (h:σ.argT T ty x=some y) {ts:List Nat} (hts:∀t∈usedT (some x),ts.contains t=true):Rep w (frzZ σ κ ts Z) y v:=by
 cases x with
 | av b=>cases h;exact normA_sound (Rep.keep hx (Keeps.refl _ _) (frzZ_le _ _ _ _))
 | osl t k off len =>
  simp only [AS.argT]at h
  split at h
  ·rename_i ov hov
   split at h
   ·rename_i hh
    cases h
    obtain ⟨rfl,hh⟩:=hh
    obtain ⟨r1,r2⟩:=hx
    rw [r2]
    exact (S.own t ov hov).2.part_rep (frzZ_le _ _ _ _) (frzZ_in hov (hts t (by simp [usedT]))) hh
   ·cases h
  ·cases h
 | _=>cases h
theorem argV_sound {T:TyTab} (S:Sim1 u w0 Z0 σ a w Z β κ) {ty:TypeId} {x:Operand} {y:AV} (h:σ.argV T ty x=some y) {ts:List Nat} (hts:∀t∈σ.usedV x,ts.contains t=true):Rep w (frzZ σ κ ts Z) y (a.eval x):=by
 simp only [AS.argV,Option.bind_eq_some_iff]at h
 obtain ⟨v,h1,h2⟩:=h
 refine argT_sound S (S.get h1) h2 ?_
 have:usedT (some v)=σ.usedV x:=by simp [AS.usedV,h1]
 rw [this]
 exact hts
theorem args_sound {T:TyTab} (S:Sim1 u w0 Z0 σ a w Z β κ) {ts:List Nat}:∀(xs:List Operand) (tys:List TypeId) (args:List AV),σ.args T xs tys=some args→(∀t∈σ.usedL xs,ts.contains t=true)→Rep w (frzZ σ κ ts Z) (.agg args) (.agg (xs.map a.eval).toArray)
 | [],tys,args,h,_=>by
  cases h
  exact Rep.agg_iff.2 ⟨rfl,fun j x u h1=>by simp at h1⟩
 | x :: xs,tys,args,h,hts=>by
  unfold AS.args at h
  split at h
  ·rename_i y hy
   simp only [Option.map_eq_some_iff]at h
   obtain ⟨l,h1,rfl⟩:=h
   obtain ⟨q1,q2⟩:=Rep.agg_iff.1 (args_sound S xs _ l h1 (fun t ht=>hts t (by simp [AS.usedL,ht])))
   refine Rep.agg_iff.2 ⟨by simpa using q1,fun j z u h2 h3=>?_⟩
   cases j with
   | zero =>
    simp at h2 h3
    subst h2 h3
    exact argV_sound S hy (fun t ht=>hts t (by simp [AS.usedL,ht]))
   | succ j =>
    simp at h2 h3
    exact q2 j z u h2 (by simpa using h3)
  ·cases h
theorem fillV_len {T:TyTab} {fs:List (Nat × Nat × TypeId)}:∀(parts:List (Nat × Operand)) (cs cs':List AV),fillV T σ fs cs parts=some cs'→cs'.length=cs.length
 | [],cs,cs',h=>by cases h;rfl
 | (f,x) :: rest,cs,cs',h=>by
  unfold fillV at h
  split at h
  ·split at h
   ·split at h
    ·rename_i hc
     rw [fillV_len rest _ cs' h,splice_len (by omega)]
    ·cases h
   ·cases h
  ·cases h
theorem fillV_sound {T:TyTab} (S:Sim1 u w0 Z0 σ a w Z β κ) {ts:List Nat} {fs:List (Nat × Nat × TypeId)} {place:Nat→Option (Nat × Nat)} (hp:∀(f o n:Nat) (t:TypeId),fs[f]? = some (o,n,t)→place f=some (o,n)) :
  ∀(parts:List (Nat × Operand)) (cs:List AV) (vs:Array Value) (cs':List AV),Rep w (frzZ σ κ ts Z) (.agg cs) (.agg vs)→fillV T σ fs cs parts=some cs'→(∀t∈σ.usedL (parts.map (·.2)),ts.contains t=true) →
   ∃vs',Instr.fill place vs (parts.map fun (i,x)=>(i,a.eval x))=some vs'∧Rep w (frzZ σ κ ts Z) (.agg cs') (.agg vs')
 | [],cs,vs,cs',hr,h,_=>by
  cases h
  exact ⟨vs,rfl,hr⟩
 | (f,x) :: rest,cs,vs,cs',hr,h,hts=>by
  unfold fillV at h
  split at h
  ·rename_i o n t h1
   split at h
   ·rename_i y h2
    split at h
    ·rename_i hc
     have hn:=argV_sound S h2 (ts:=ts) (fun t ht=>hts t (by simp [AS.usedL,ht]))
     have hl:=hn.cells.1
     have hr':=layV_rep (o:=o) hr hn (by omega)
     obtain ⟨vs',q1,q2⟩:=fillV_sound S hp rest _ _ cs' hr' h (fun t ht=>hts t (by simp [AS.usedL];right;simpa using ht))
     refine ⟨vs',?_,q2⟩
     simp only [List.map_cons,Instr.fill,hp f o n t h1]
     have hsz:vs.size=cs.length:=by cases hr with|agg hl _=>exact hl
     rw [if_neg (by simp;omega)]
     exact q1
    ·cases h
   ·cases h
  ·cases h
theorem cell_alloc_new {cells:Array Value} {ty:TypeId} {b o:Nat} {v:Value} (hb:w.heap.size≤b) (h:(w.alloc (.cells cells ty)).cell? ⟨b,o,none⟩=some v):b=w.heap.size∧cells[o]? = some v:=by
 have hlt:=World.block_lt_of_cell? _ _ h
 rw [World.size_alloc]at hlt
 have e:b=w.heap.size:=by simp at hlt;omega
 subst e
 have hx:Box (w.alloc (.cells cells ty)) w.heap.size cells ty:=Box.new w cells ty
 rw [hx.cell]at h
 exact ⟨rfl,h⟩
theorem Sim1.newVar (S:Sim1 u w0 Z0 σ a w Z β κ) (hz0:∀b o,Z0 b o→b<w0.w.heap.size) {t:Nat} (ht:t<a.tmps.size) {cs:List AV} {vs:Array Value} {ty:TypeId} (hr:Rep w Z (.agg cs) (.agg vs)) (h1:cs.all AV.oneM=true) (h2:cs.all AV.noLimb=true) (hq:∀(j n len:Nat),cs[j]? = some (.lnk n len)→vs[j]? = some (.slice (some ⟨(κ (BIG+n)).1,0,none⟩) len (κ (BIG+n)).2)) :
  Sim1 u w0 Z0 (σ.new t cs) (a.put (some t) (.pointer (some ⟨w.heap.size,0,none⟩))) (w.alloc (.cells vs ty)) Z (fun x=>if x=t then w.heap.size else β x) κ:=by
 have hb:Below w.heap.size w (w.alloc (.cells vs ty)):=(Below.refl _ _).alloc (Nat.le_refl _) _
 have hfresh:∀o,¬Z w.heap.size o:=fun o ho=>absurd (S.zlt hz0 _ _ ho) (Nat.lt_irrefl _)
 obtain ⟨l1,l2⟩:=Rep.agg_iff.1 hr
 have hk:Keeps Z w (w.alloc (.cells vs ty)):=Keeps.ofBelow hb
 refine S.chg w.heap.size none (some t) (.inl S.below.size) hfresh (World.grownBy_alloc w _ _) (fun _ _ h=>h) (by rw [World.size_alloc];omega) (fun _ _ h=>.inl h) (.inl rfl) (fun t' cs' h hne=>?_) (fun t' cs' h he=>?_) (fun t' ov h _=>?_) (fun t' ov h he=>by cases he) (fun t' x h=>?_) S.defers (fun _ b o v hbb hc hl=>?_) (fun _ t' ov h _ _=>⟨h,by simp⟩) (fun _=>rfl) (fun t' cs' j n len h he hj=>?_)
 ·have e:t'≠t:=fun e=>hne (by rw [e])
  simp only [AS.new]at h
  rw [upd_ne _ _ e]at h
  exact ⟨h,Nat.ne_of_lt (S.mem t' cs' h).2.lt,by simp only [if_neg e]⟩
 ·cases he
  simp only [AS.new,upd_same]at h
  cases h
  simp only [if_true]
  exact ⟨.inl trivial,⟨vs,ty,Box.new w vs ty,hr.keep hk (fun _ _ h=>h)⟩,h1,h2,hfresh⟩
 ·exact ⟨h,Nat.ne_of_lt (S.own t' ov h).2.lt,rfl⟩
 ·rw [size_put]
  by_cases e:t'=t
  ·subst e
   simp only [AS.new,upd_same]at h
   cases h
   rw [getD_put_same a _ ht]
   exact ⟨ht,by simp [RepT]⟩
  ·simp only [AS.new]at h
   rw [upd_ne _ _ e]at h
   obtain ⟨q1,q2⟩:=stale_some h
   obtain ⟨p1,p2⟩:=S.tm t' x q1
   rw [getD_put a _ e]
   refine ⟨p1,?_⟩
   have p3:=p2.keep hk (fun _ _ h=>h)
   cases x with
   | ref t2 o =>
    have:t2≠t:=fun h=>q2 o (by rw [h])
    simp only [RepT,if_neg this]
    exact p3
   | _=>exact p3
 ·have hb2:w.heap.size≤b:=by omega
  obtain ⟨_,hv⟩:=cell_alloc_new hb2 hc
  obtain ⟨q1,q2⟩:=Array.getElem?_eq_some_iff.1 hv
  have:=(l2 o _ _ (List.getElem?_eq_getElem (by omega)) hv).noLimb (List.all_eq_true.1 h2 _ (List.getElem_mem (by omega)))
  rw [hl]at this
  cases this
 ·cases he
  simp only [AS.new,upd_same]at h
  cases h
  simp only [if_true]
  have hx:Box (w.alloc (.cells vs ty)) w.heap.size vs ty:=Box.new w vs ty
  rw [hx.cell]
  exact hq j n len hj
theorem grownBy_setRow (w:World) (g:Nat) (cells:Array Value):w.grownBy (w.setRow g cells) (some g) :=
 ⟨rfl,rfl,rfl,by simp [World.setRow],fun k _ hk=>setRow_other w g k _ (fun e=>hk (by rw [e]))⟩
theorem cell_setRow_g {g o:Nat} {old cells:Array Value} {ty:TypeId} {v:Value} (hb:Box w g old ty) (h:(w.setRow g cells).cell? ⟨g,o,none⟩=some v):cells[o]? = some v:=by
 have hx:Box (w.setRow g cells) g cells ty:=setRow_heap w g old cells ty (0,0) hb
 rw [hx.cell]at h
 exact h
theorem Sim1.setVar (S:Sim1 u w0 Z0 σ a w Z β κ) {t:Nat} {cs cs':List AV} {cells:Array Value} (ht:σ.mem t=some cs) (hr:Rep w Z (.agg cs') (.agg cells)) (h1:cs'.all AV.oneM=true) (h2:cs'.all AV.noLimb=true) (hq:∀(j n len:Nat),cs'[j]? = some (.lnk n len)→cells[j]? = some (.slice (some ⟨(κ (BIG+n)).1,0,none⟩) len (κ (BIG+n)).2)):Sim1 u w0 Z0 (σ.setMem t cs') a (w.setRow (β t) cells) Z β κ:=by
 obtain ⟨g1,hL⟩:=S.mem t cs ht
 obtain ⟨vs,ty,hb,_⟩:=hL.ex
 obtain ⟨l1,l2⟩:=Rep.agg_iff.1 hr
 have hk:Keeps Z w (w.setRow (β t) cells):=Keeps.ofGrown (grownBy_setRow w _ _) hL.out
 refine S.chg (β t) none (some t) g1 hL.out (grownBy_setRow w _ _) (fun _ _ h=>h) (by simp [World.setRow];exact hb.lt) (fun _ _ h=>.inl h) (.inl rfl) (fun t' cs2 h hne=>?_) (fun t' cs2 h he=>?_) (fun t' ov h _=>⟨h,(S.injM t t' cs ov ht h).symm,rfl⟩) (fun t' ov h he=>by cases he) (fun t' x h=>⟨(S.tm t' x h).1,(S.tm t' x h).2.keep hk (fun _ _ h=>h)⟩) S.defers (fun _ b o v hbb hc hl=>?_) (fun _ t' ov h _ _=>⟨h,by simp⟩) (fun _=>rfl) (fun t' cs2 j n len h he hj=>?_)
 ·have e:t'≠t:=fun e=>hne (by rw [e])
  simp only [AS.setMem]at h
  rw [upd_ne _ _ e]at h
  exact ⟨h,fun he=>e (S.inj t' t cs2 cs h ht he),rfl⟩
 ·cases he
  simp only [AS.setMem,upd_same]at h
  cases h
  exact ⟨.inl rfl,⟨cells,ty,setRow_heap w (β t) vs cells ty (0,0) hb,hr.keep hk (fun _ _ h=>h)⟩,h1,h2,hL.out⟩
 ·have hlt:=World.block_lt_of_cell? _ _ hc
  simp [World.setRow]at hlt
  have e:b=β t:=by omega
  subst e
  have hv:=cell_setRow_g hb hc
  obtain ⟨q1,q2⟩:=Array.getElem?_eq_some_iff.1 hv
  have:=(l2 o _ _ (List.getElem?_eq_getElem (by omega)) hv).noLimb (List.all_eq_true.1 h2 _ (List.getElem_mem (by omega)))
  rw [hl]at this
  cases this
 ·cases he
  simp only [AS.setMem,upd_same]at h
  cases h
  have hx:Box (w.setRow (β t) cells) (β t) cells ty:=setRow_heap w (β t) vs cells ty (0,0) hb
  rw [hx.cell]
  exact hq j n len hj
theorem Sim1.setRowO (S:Sim1 u w0 Z0 σ a w Z β κ) {t:Nat} {ov ov':OV} {cells:Array Value} (ht:σ.own t=some ov) (ho:Own (w.setRow (κ t).1 cells) Z (κ t).1 (κ t).2 ov') (hh:ov'.hot=false→∀c∈cells.toList,noLimb c=true) (old:Array Value) (ty:TypeId) (hb:Box w (κ t).1 old ty):Sim1 u w0 Z0 (σ.setOwn t ov') a (w.setRow (κ t).1 cells) Z β κ:=by
 obtain ⟨g1,hL⟩:=S.own t ov ht
 have hk:Keeps Z w (w.setRow (κ t).1 cells):=Keeps.ofGrown (grownBy_setRow w _ _) hL.out
 refine S.chg (κ t).1 (some t) none g1 hL.out (grownBy_setRow w _ _) (fun _ _ h=>h) (by simp [World.setRow];exact hL.lt) (fun _ _ h=>.inl h) (.inr rfl) (fun t' cs h _=>⟨h,S.injM t' t cs ov h ht,rfl⟩) (fun t' cs h he=>by cases he) (fun t' ov2 h hne=>?_) (fun t' ov2 h he=>?_) (fun t' x h=>⟨(S.tm t' x h).1,(S.tm t' x h).2.keep hk (fun _ _ h=>h)⟩) S.defers (fun _ b o v hbb hc hl=>?_) (fun _ t' ov2 h _ hne=>?_) (fun _=>rfl) (fun t' cs j n len h he hj=>by cases he)
 ·have e:t'≠t:=fun e=>hne (by rw [e])
  simp only [AS.setOwn]at h
  rw [upd_ne _ _ e]at h
  exact ⟨h,fun he=>e (S.injO t' t ov2 ov h ht he),rfl⟩
 ·cases he
  simp only [AS.setOwn,upd_same]at h
  cases h
  exact ⟨.inl rfl,ho⟩
 ·have hlt:=World.block_lt_of_cell? _ _ hc
  simp [World.setRow]at hlt
  have e:b=(κ t).1:=by omega
  subst e
  cases hq:ov'.hot with
  | true=>exact .inr ⟨t,ov',by simp [AS.setOwn,upd_same],hq,rfl⟩
  | false =>
   have hv:=cell_setRow_g hb hc
   have:=hh hq v (by obtain ⟨q1,q2⟩:=Array.getElem?_eq_some_iff.1 hv;rw [←q2];simp)
   rw [hl]at this
   cases this
 ·have e:t'≠t:=fun e=>hne (by rw [e])
  refine ⟨by simp only [AS.setOwn];rw [upd_ne _ _ e];exact h,?_⟩
  simpa using fun h=>e h.symm
theorem Sim1.newRowO (S:Sim1 u w0 Z0 σ a w Z β κ) (hz0:∀b o,Z0 b o→b<w0.w.heap.size) {d cap:Nat} {ov:OV} {cells:Array Value} {ty:TypeId} {n:Nat} (hd:d<a.tmps.size) (hdB:d<BIG) (ho:Own (w.alloc (.cells cells ty)) Z w.heap.size cap ov) (hh:ov.hot=false→∀c∈cells.toList,noLimb c=true) (hq:σ.own d=none) :
  Sim1 u w0 Z0 (σ.newOwn none d ov) (a.put (some d) (.slice (some ⟨w.heap.size,0,none⟩) ov.len cap)) (w.alloc (.cells cells ty)) Z β (fun x=>if x=d then (w.heap.size,cap) else κ x):=by
  have hb:Below w.heap.size w (w.alloc (.cells cells ty)):=(Below.refl _ _).alloc (Nat.le_refl _) _
  have hfresh:∀o,¬Z w.heap.size o:=fun o ho=>absurd (S.zlt hz0 _ _ ho) (Nat.lt_irrefl _)
  have hk:Keeps Z w (w.alloc (.cells cells ty)):=Keeps.ofBelow hb
  have hsz:=ho.size_le
  refine S.chg w.heap.size (some d) none (.inl S.below.size) hfresh (World.grownBy_alloc w _ _) (fun _ _ h=>h) (by rw [World.size_alloc];omega) (fun _ _ h=>.inl h) (.inr rfl) (fun t' cs h _=>⟨h,Nat.ne_of_lt (S.mem t' cs h).2.lt,rfl⟩) (fun t' cs h he=>by cases he) (fun t' ov2 h hne=>?_) (fun t' ov2 h he=>?_) (fun t' x h=>?_) S.defers (fun _ b o v hbb hc hl=>?_) (fun _ t' ov2 h _ _=>?_) (fun n=>if_neg (by omega)) (fun t' cs j n len h he hj=>by cases he)
  ·have e:t'≠d:=fun e=>hne (by rw [e])
   simp only [AS.newOwn]at h
   rw [upd_ne _ _ e]at h
   exact ⟨h,Nat.ne_of_lt (S.own t' ov2 h).2.lt,by simp only [if_neg e]⟩
  ·cases he
   simp only [AS.newOwn,upd_same]at h
   cases h
   simp only [if_true]
   exact ⟨.inl trivial,ho⟩
  ·rw [size_put]
   by_cases e:t'=d
   ·subst e
    simp only [AS.newOwn,upd_same]at h
    cases h
    rw [getD_put_same a _ hd]
    refine ⟨hd,?_⟩
    simp only [RepT,if_true,Nat.zero_add,Nat.zero_mul,Nat.sub_zero]
    exact ⟨hsz.1,trivial⟩
   ·simp only [AS.newOwn]at h
    rw [upd_ne _ _ e]at h
    obtain ⟨q1,q2,q3⟩:=staleO_some h
    obtain ⟨p1,p2⟩:=S.tm t' x q1
    rw [getD_put a _ e]
    refine ⟨p1,?_⟩
    have p3:=p2.keep hk (fun _ _ h=>h)
    cases x with
    | osl t2 k o m =>
     have:t2≠d:=fun h=>q2 k o m (by rw [h])
     simp only [RepT,if_neg this]
     exact p3
    | oref t2 k i o =>
     have:t2≠d:=fun h=>q3 k i o (by rw [h])
     simp only [RepT,if_neg this]
     exact p3
    | omap t2 =>
     have:t2≠d:=fun h3=>staleO_omap h (by rw [h3])
     simp only [RepT,if_neg this]
     exact p3
    | avl b=>exact ⟨p3.1,lnk3_congr (fun n=>if_neg (by omega)) p3.2⟩
    | _=>exact p3
  ·have hb2:w.heap.size≤b:=by omega
   obtain ⟨rfl,hv⟩:=cell_alloc_new hb2 hc
   cases hq2:ov.hot with
   | true=>exact .inr ⟨d,ov,by simp [AS.newOwn,upd_same],hq2,by simp⟩
   | false =>
    have:=hh hq2 v (by obtain ⟨q1,q2⟩:=Array.getElem?_eq_some_iff.1 hv;rw [←q2];simp)
    rw [hl]at this
    cases this
  ·have e:t'≠d:=fun e=>by rw [e,hq]at h;cases h
   refine ⟨by simp only [AS.newOwn];rw [upd_ne _ _ e];exact h,?_⟩
   simpa using fun h=>e h.symm
theorem Sim1.dropRow (S:Sim1 u w0 Z0 σ a w Z β κ) (t:Nat):Sim1 u w0 Z0 (σ.dropOwn t) a w (frzZ σ κ [t] Z) β κ:=by
 refine S.drop (fun t cs h=>h) (fun t' ov h=>?_) ?_ (fun t' x h=>?_)
 ·simp only [AS.dropOwn]at h
  by_cases e:t'=t
  ·rw [e,upd_same]at h;cases h
  ·rw [upd_ne _ _ e]at h;exact h
 ·funext b o
  simp only [frzZ,AS.dropOwn]
  apply propext
  constructor
  ·rintro (h|⟨t',ov,h1,h2,h3⟩)
   ·exact .inl h
   ·have:t'=t:=by simpa using h2
    exact .inr (.inl ⟨t',ov,h1,by rw [this,upd_same],h3⟩)
  ·rintro (h|⟨t',ov,h1,h2,h3⟩|⟨t',cs,h1,h2,_⟩)
   ·exact .inl h
   ·refine .inr ⟨t',ov,h1,?_,h3⟩
    by_cases e:t'=t
    ·simp [e]
    ·rw [upd_ne _ _ e,h1]at h2;cases h2
   ·rw [h1]at h2;cases h2
 ·simp only [AS.dropOwn]at h
  obtain ⟨q1,_,_⟩:=staleO_some h
  obtain ⟨p1,p2⟩:=S.tm t' x q1
  exact ⟨p1,p2.keep (Keeps.refl _ _) (frzZ_le _ _ _ _)⟩
end
end Go.Proofs.YtmekiphpjpblpaaGreat
