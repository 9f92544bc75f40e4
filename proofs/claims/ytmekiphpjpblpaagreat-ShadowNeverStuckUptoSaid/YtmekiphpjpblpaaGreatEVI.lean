import Derived.Test.YtmekiphpjpblpaaGreatEVH
/- Text VI. -/
set_option linter.unusedSimpArgs false
set_option linter.unusedVariables false
set_option maxHeartbeats 40000000
set_option maxRecDepth 100000
namespace Go.Proofs.YtmekiphpjpblpaaGreat
open Go.RowKit Lim
section
variable {C:Ctx} {u:Bool} {w0:Base} {w w':World} {Z0 Z Z':Zone} {σ τ:AS} {a:Act} {β:Nat→Nat} {κ:Nat→Nat × Nat}
theorem NewsR.take {news:List Value} {y:AV} {n m:Nat} {y':AV} (h:NewsR w Z news y) (ht:takeSl n y=some (m,y')):∀{k},y.slK k→NewsR w Z (news.take (m*k)) y'∧y'.slK k∧y'.cnt=m∧m=min n y.cnt:=by
 intro k hk
 cases y with
 | sl k' ys =>
  cases ht
  have hk:k'=k:=hk
  subst hk
  obtain ⟨n1,n2⟩:=h
  have hle:min n ys.length*k'≤ys.length*k':=Nat.mul_le_mul_right k' (Nat.min_le_right _ _)
  refine ⟨⟨?_,fun i hi=>?_⟩,rfl,by simp [AV.cnt],by simp [AV.cnt]⟩
  ·rw [List.length_take,n1,List.length_take];omega
  ·simp at hi
   have e1:(ys.take n)[i]'(by simp;omega)=ys[i]:=by rw [List.getElem_take]
   simp only [e1]
   obtain ⟨p1,p3⟩:=n2 i (by omega)
   refine ⟨p1,fun j hj=>?_⟩
   obtain ⟨v,q1,q2⟩:=p3 j hj
   refine ⟨v,?_,q2⟩
   rw [List.getElem?_take_of_lt (row_lt (by omega) (by omega))]
   exact q1
 | nat ys =>
  cases ht
  have hk:k=1:=hk
  subst hk
  obtain ⟨rfl,n2⟩:=h
  refine ⟨⟨?_,dig_take n2 n⟩,rfl,by simp [AV.cnt],by simp [AV.cnt]⟩
  rw [Nat.mul_one,←List.map_take]
  congr 1
  rw [Nat.min_def]
  split
  ·rfl
  ·rw [List.take_of_length_le (Nat.le_refl _),List.take_of_length_le (by omega)]
 | _=>exact hk.elim
theorem over_row {ov ov':OV} {y:AV} {off:Nat} (h:ov.over off y=some ov'):ov.isMap=false:=by
 cases ov with
 | map kd m=>cases y <;> cases h
 | _=>rfl
theorem over_slK {ov ov':OV} {y:AV} {off:Nat} (h:ov.over off y=some ov'):y.slK ov.k:=by
 cases ov with
 | map kd m=>cases y <;> cases h
 | row e k es =>
  cases y with
  | sl k' ys =>
   simp only [OV.over]at h
   split at h
   ·rename_i hc;exact hc.1
   ·cases h
  | _=>cases h
 | limb e l =>
  cases y with
  | nat ys=>rfl
  | _=>cases h
theorem over_zero {ov ov':OV} {y:AV} {off:Nat} (h:ov.over off y=some ov') (h0:y.cnt=0):ov'=ov:=by
 cases ov with
 | map kd m=>cases y <;> cases h
 | row e k es =>
  cases y with
  | sl k' ys =>
   have:ys=[]:=List.eq_nil_of_length_eq_zero h0
   subst this
   simp only [OV.over]at h
   split at h
   ·cases h;simp
   ·cases h
  | _=>cases h
 | limb e l =>
  cases y with
  | nat ys =>
   have:ys=[]:=List.eq_nil_of_length_eq_zero h0
   subst this
   simp only [OV.over]at h
   split at h
   ·cases h;simp
   ·cases h
  | _=>cases h
theorem over_one {ov ov':OV} {y:AV} {off:Nat} {news:List Value} (h:ov.over off y=some ov') (hn:NewsR w Z news y):∀c∈news,c.oneCell'=true:=by
 cases ov with
 | map kd m=>cases y <;> cases h
 | row e k es =>
  cases y with
  | sl k' ys =>
   simp only [OV.over]at h
   split at h
   ·rename_i hc
    obtain ⟨rfl,_,hall⟩:=hc
    exact app_one (ov:=.row e k' []) (y:=.sl k' ys) (by simp only [OV.app];rw [if_pos ⟨trivial,hall⟩]) hn
   ·cases h
  | _=>cases h
 | limb e l =>
  cases y with
  | nat ys=>exact app_one (ov:=.limb e []) (y:=.nat ys) rfl hn
  | _=>cases h
theorem setOwn_same {t:Nat} {ov:OV} (h:σ.own t=some ov):σ.setOwn t ov=σ:=by
 obtain ⟨tm,mem,own⟩:=σ
 simp only [AS.setOwn]
 congr 1
 funext x
 by_cases e:x=t
 ·rw [e,upd_same];exact h.symm
 ·rw [upd_ne _ _ e]
theorem run_copyK {P:Program} (w:World) {dT sT ty elem:TypeId} {info:TypeInfo} {g o dLen dCap:Nat} {ad:Addr} {sLen sCap:Nat} {cur:Array Value} {t:TypeId} {cs:List Value} (hu:P.underlying dT=some (.slice elem)) (hi:P.info? elem=some info)
  (hg:w.heap[g]? = some (.cells cur t (0,0))) (hn:cs.length=Nat.min sLen dLen*info.size) (hsrc:∀j v,cs[j]? = some v→w.cell? (ad.add j)=some v) (hfit:o+cs.length≤cur.size) (h1:∀v∈cs,v.oneCell'=true) :
  (Builtin.copy_ #[dT,sT] ty #[.slice (some ⟨g,o,none⟩) dLen dCap,.slice (some ad) sLen sCap]).run P w=.ok (goInt (Nat.min sLen dLen)) (w.setRow g (cur.toList.take o ++ cs ++ cur.toList.drop (o+cs.length)).toArray):=by
 have hl:=run_firstCells_some (P:=P) w info.size (Nat.min sLen dLen) ad sLen sCap cs hn hsrc
 have hst:=run_storeCells_at P g o t cs 0 cur w hg (by simpa using hfit) h1
 simp only [Nat.add_zero]at hst
 simp [Builtin.copy_,run_underlying hu,Builtin.lenOf,Go.sizeOf,typeInfo,hi,hl,hst]
theorem run_copyN {P:Program} (w:World) {dT sT ty elem:TypeId} {info:TypeInfo} {g o dLen dCap:Nat} {A:Option Addr} {sLen sCap:Nat} (hu:P.underlying dT=some (.slice elem)) (hi:P.info? elem=some info) (hn:Nat.min sLen dLen=0) :
  (Builtin.copy_ #[dT,sT] ty #[.slice (some ⟨g,o,none⟩) dLen dCap,.slice A sLen sCap]).run P w=.ok (goInt 0) w:=by
 cases A with
 | none=>simp [Builtin.copy_,run_underlying hu,Builtin.lenOf,Builtin.firstCells,Go.sizeOf,typeInfo,hi,hn,storeCells]
 | some ad =>
  have hl:=run_firstCells_some (P:=P) w info.size 0 ad sLen sCap [] (by simp) (fun j v h=>by simp at h)
  simp [Builtin.copy_,run_underlying hu,Builtin.lenOf,Go.sizeOf,typeInfo,hi,hn,hl,storeCells]
theorem madeCells_get {z:Array Value} {n j:Nat} (h:j<n) (hz:0<z.size):(madeCells z n)[j]? = z[j % z.size]?:=by
 have:j % z.size<z.size:=Nat.mod_lt _ hz
 simp only [madeCells,Array.getElem?_map,Array.getElem?_range,h,if_true,Option.map_some]
 rw [getElem!_pos z _ this,Array.getElem?_eq_getElem this]
theorem Rep.app {w:World} {Z:Zone} {l1 l2:List AV} {v1 v2:Array Value} (h1:Rep w Z (.agg l1) (.agg v1)) (h2:Rep w Z (.agg l2) (.agg v2)):Rep w Z (.agg (l1 ++ l2)) (.agg (v1 ++ v2)):=by
 obtain ⟨e1,r1⟩:=Rep.agg_iff.1 h1
 obtain ⟨e2,r2⟩:=Rep.agg_iff.1 h2
 refine Rep.agg_iff.2 ⟨by simp [e1,e2],fun j x u hx hu=>?_⟩
 by_cases hj:j<l1.length
 ·rw [List.getElem?_append_left hj]at hx
  rw [Array.getElem?_append_left (by omega)]at hu
  exact r1 j x u hx hu
 ·rw [List.getElem?_append_right (by omega)]at hx
  rw [Array.getElem?_append_right (by omega)]at hu
  rw [e1]at hu
  exact r2 _ x u hx hu
theorem tgt_sound (S:Sim1 C.u w0 Z0 σ a w Z β κ) {callee:Callee} {cargs:Array Operand} {ctys:Array TypeId} {dst:Option Tmp} {type:TypeId} {pos:String} {after:Array Edge} {guard:Option (Nat × Bool)} {f:FuncId} {pre post:List AV} (h:tgt C σ callee f pre post) (hf:FnOK C.P f) :
  ∃us vs:Array Value,Rep w Z (.agg pre) (.agg us)∧Rep w Z (.agg post) (.agg vs)∧(execOp a.eval ⟨dst,.call ⟨callee,cargs,ctys⟩,type,pos,after,guard⟩).run C.P w=.ok (.enter f (us ++ cargs.map a.eval ++ vs)) w:=by
 cases callee with
 | value x =>
  have h1:Rep w Z (.fn (.func f) pre post) (a.eval x):=S.get h
  generalize hv:a.eval x=v at h1
  cases h1 with
  | fn hl1 hr1 hl2 hr2 =>
   refine ⟨_,_,.agg hl1 hr1,.agg hl2 hr2,?_⟩
   simp only [execOp,resolve,Sem.run_bind,hv,Deferred.ofValue,Sem.run_pure,Result.andThen_ok,invoke]
   rw [run_enter hf]
 | invoke x name =>
  obtain ⟨t,b,b',h1,h2,rfl,rfl⟩:=h
  have h3:Rep w Z (.ifc t b) (a.eval x):=S.get h1
  generalize hv:a.eval x=v at h3
  cases h3 with
  | ifc hr =>
   obtain ⟨v',hm,hr'⟩:=h2 w Z _ hr
   refine ⟨#[v'],#[],Rep.agg_iff.2 ⟨rfl,fun j x u hx hu=>?_⟩,.agg rfl (fun j hj=>by simp at hj),?_⟩
   ·match j with
    | 0=>simp at hx hu;subst hx hu;exact hr'
    | j+1=>simp at hx
   ·simp only [execOp,resolve,Sem.run_bind,hv,Sem.run_pure,Result.andThen_ok,invoke]
    have e0:∀u:Value,(#[u] ++ cargs.map a.eval)[0]? = some u:=fun u=>by simp [Array.getElem?_append]
    have e1:∀u:Value,(#[u] ++ cargs.map a.eval).extract 1 (#[u] ++ cargs.map a.eval).size=cargs.map a.eval:=fun u=>by simp
    rw [e0,e1]
    have hm':(method (C.P.types.size+100) t _ name).run C.P w=.ok (f,v') w:=hm
    simp [callMethod,go_sem,hm',run_enter hf]
 | builtin b=>exact h.elim
theorem contains_self {ts:List Nat}:∀t∈ts,ts.contains t=true:=fun t ht=>by simpa using ht
theorem astep_sound {N:Nat} (S0:Sim C.u w0 Z0 N σ a w) (hE:C.EL w0) (hz0:∀b o,Z0 b o→b<w0.w.heap.size) {dr:Bool} {o:Oper} (hd:∀t,o.dst=some t→w0.np≤t∧t<N∧t<BIG) {K:AS→Prop} {Q:Exit→Act→World→Prop} (h:astep C dr o σ K) :
  o.wp C.P a w (fun a' w'=>∃σ',K σ'∧Sim C.u w0 Z0 N σ' a' w') Q:=by
 obtain ⟨⟨Z,β,κ,S⟩,hN⟩:=S0
 have hd':∀t,o.dst=some t→t<a.tmps.size:=hN.lt hd
 have hdB:∀t,o.dst=some t→t<BIG:=fun t ht=>(hd t ht).2.2
 have val:(∃v,aval C σ o v∧K (σ.put o.dst v))→o.wp C.P a w (fun a' w'=>∃σ',K σ'∧Sim C.u w0 Z0 N σ' a' w') Q:=by
  rintro ⟨v,h1,h2⟩
  obtain ⟨y,r1,r2⟩:=aval_sound S (C.hG _ (hE.keep S.below)) h1
  unfold Oper.wp
  rw [r1,Oper.upon_value]
  exact ⟨_,h2,⟨Z,β,κ,S.put hd' r2⟩,hN.put hd⟩
 obtain ⟨dst,op,type,pos,after,guard⟩:=o
 cases op with
 | alloc ty =>
  obtain ⟨t,i,ht,h1,h2,h3,h4⟩:=h
  obtain rfl:dst=some t:=ht
  obtain ⟨zv,z1,z2⟩:=run_zero (C.hT _ _ h1) w
  have hr:(execOp a.eval ⟨some t,.alloc ty,type,pos,after,guard⟩).run C.P w=.ok (.value (.pointer (some ⟨w.heap.size,0,none⟩))) (w.alloc (.cells zv.cells ty)):=by
   simp [execOp,Instr.alloc,z1,newVar,newRow]
  unfold Oper.wp
  rw [hr,Oper.upon_value]
  exact ⟨_,h4,⟨Z,_,κ,S.newVar hz0 (hd' t rfl) (z2 w Z) (AV.oneM_all h2) h3 (fun j n len hj=>(AV.one_nl h2 hj).elim)⟩,hN.put hd⟩
 | box ty x =>
  obtain ⟨t,y,ht,h1,_,h2,h3,h4⟩:=h
  obtain rfl:dst=some t:=ht
  have S1:=S.frz (σ.usedV x)
  have hg:=argV_sound S h1 (ts:=σ.usedV x) contains_self
  have hr:(execOp a.eval ⟨some t,.box ty x,type,pos,after,guard⟩).run C.P w=.ok (.value (.pointer (some ⟨w.heap.size,0,none⟩))) (w.alloc (.cells (a.eval x).cells ty)):=by
   simp [execOp,Instr.box,newVar,newRow]
  unfold Oper.wp
  rw [hr,Oper.upon_value]
  obtain ⟨c1,c2⟩:=hg.cells
  exact ⟨_,h4,⟨_,_,κ,S1.newVar hz0 (hd' t rfl) (.agg c1 fun j hj=>c2 j hj (by omega)) (AV.oneM_all h2) h3 (fun j n len hj=>(AV.one_nl h2 hj).elim)⟩,hN.put hd⟩
 | store ty x y =>
  obtain ⟨i,z,h1,h2,_,h3,h4,h5⟩:=h
  have S1:=S.frz (σ.usedV y)
  have hg:=argV_sound S h2 (ts:=σ.usedV y) contains_self
  obtain ⟨c1,c2⟩:=hg.cells
  split at h5
  ·rename_i t off hx
   obtain ⟨h6,cs,h7,h8,h9⟩:=h5
   have ex:a.eval x=.pointer (some ⟨β t,off,none⟩):=S.get hx
   obtain ⟨_,hL⟩:=S1.mem t cs h7
   obtain ⟨vs,ty',hb,hr⟩:=hL.ex
   obtain ⟨l1,l2⟩:=Rep.agg_iff.1 hr
   have hst:=run_storeVar (C.hT _ _ h1) hb (o:=off) hg h3 (AV.oneM_all h4) (by omega)
   have hrun:(execOp a.eval ⟨dst,.store ty x y,type,pos,after,guard⟩).run C.P w=.ok .skip (w.setRow (β t) (layV vs off (a.eval y).cells)):=by
    simp only [execOp,ex,Sem.run_bind,hst,Result.andThen_ok,Sem.run_pure]
   unfold Oper.wp
   rw [hrun,Oper.upon_skip]
   have hnew:=layV_rep (o:=off) hr hg h8
   have S2:=S1.setVar h7 hnew (splice_all hL.one (AV.oneM_all h4)) (splice_all hL.nl h6) (fun j n len hj=>by
    rw [splice_get? (by omega)]at hj
    split at hj
    ·exact (AV.one_nl h4 hj).elim
    ·rename_i hout
     have hk:=S1.lnk t cs j n len h7 hj
     rw [hb.cell]at hk
     obtain ⟨q1,q2⟩:=layV_aux off (a.eval y).cells.toList 0 vs
     have e:layV vs off (a.eval y).cells=((a.eval y).cells.toList.zipIdx 0).foldl (fun cs (c,j)=>cs.setIfInBounds (off+j) c) vs:=by
      unfold layV
      rw [←Array.foldl_toList]
      simp
     rw [e,q2 j,if_neg (by simp;omega)]
     exact hk)
   exact ⟨_,h9,⟨_,β,κ,S2.put hd' rfl⟩,hN.put hd⟩
  ·rename_i t k j q hx
   obtain ⟨hnot,h5⟩:=h5
   have ex:a.eval x=.pointer (some ⟨(κ t).1,j*k+q,none⟩):=S.get hx
   have hown1:∀ov,σ.own t=some ov→(σ.frz (σ.usedV y)).own t=some ov:=fun ov h=>by
    simp only [AS.frz]
    rw [if_neg (by rw [hnot];simp)]
    exact h
   split at h5
   ·rename_i e k' es hown
    obtain ⟨rfl,h6,el,h7,h8,h9⟩:=h5
    obtain ⟨_,hO⟩:=S1.own t _ (hown1 _ hown)
    obtain ⟨cur,b1,b2,b3,b4,b5,b6,b7,b8⟩:=hO
    have hb:Box w (κ t).1 cur e:=b1
    obtain ⟨hjl,_⟩:=List.getElem?_eq_some_iff.1 h7
    have hsz:es.length*k'≤cur.size:=by rw [b2];exact Nat.mul_le_mul_right _ b3
    have hlt:=row_lt (i:=j) (j:=k'-1) (k:=k') (n:=es.length) hjl (by omega)
    have hst:=run_storeVar (C.hT _ _ h1) hb (o:=j*k'+q) hg h3 (AV.oneM_all h4) (by omega)
    have hrun:(execOp a.eval ⟨dst,.store ty x y,type,pos,after,guard⟩).run C.P w=.ok .skip (w.setRow (κ t).1 (layV cur (j*k'+q) (a.eval y).cells)):=by
     simp only [execOp,ex,Sem.run_bind,hst,Result.andThen_ok,Sem.run_pure]
    unfold Oper.wp
    rw [hrun,Oper.upon_skip]
    have hlim:∀c∈(layV cur (j*k'+q) (a.eval y).cells).toList,noLimb c=true:=fun c hc=>by
     rcases layV_mem hc (by omega)with hc|hc
     ·exact b7 c hc
     ·obtain ⟨m,hm,rfl⟩:=List.mem_iff_getElem.1 hc
      have hm':m<(a.eval y).cells.size:=by simpa using hm
      have:=(c2 m (by omega) hm').noLimb (List.all_eq_true.1 h6 _ (List.getElem_mem (by omega)))
      simpa using this
    have hk1:Keeps (frzZ σ κ (σ.usedV y) Z) w (w.setRow (κ t).1 (layV cur (j*k'+q) (a.eval y).cells)):=Keeps.ofGrown (grownBy_setRow w _ _) b6
    have hO2:Own (w.setRow (κ t).1 (layV cur (j*k'+q) (a.eval y).cells)) (frzZ σ κ (σ.usedV y) Z) (κ t).1 (κ t).2 (.row e k' (es.set j (mkEl k' (splice el.cells q z.cells)))):=by
     refine ⟨_,setRow_heap w _ cur _ e (0,0) hb,?_,by simpa using b3,b4,b5,b6,hlim,(RowR.set b8 b5 h7 hg h4 h8 hsz).keep hk1 (fun _ _ h=>h)⟩
     rw [layV_eq (by omega),←b2]
     simp only [List.size_toArray]
     rw [splice_len (by simp;omega)]
     simp
    have S2:=S1.setRowO (hown1 _ hown) hO2 (fun _=>hlim) cur e hb
    exact ⟨_,h9,⟨_,β,κ,S2.put hd' rfl⟩,hN.put hd⟩
   ·rename_i e l hown
    obtain ⟨rfl,rfl,hjl,n,rfl,hn0,hn1,h9⟩:=h5
    obtain ⟨_,hO⟩:=S1.own t _ (hown1 _ hown)
    obtain ⟨cur,b1,b2,b3,b4,b6,b7,b8⟩:=hO
    have hb:Box w (κ t).1 cur e:=b1
    have hv:a.eval y=.int .u32 n:=Rep.lit_eq hg
    have hst:=run_storeVar (C.hT _ _ h1) hb (o:=j*1+0) hg h3 (AV.oneM_all h4) (by simp [AV.cells];omega)
    have hrun:(execOp a.eval ⟨dst,.store ty x y,type,pos,after,guard⟩).run C.P w=.ok .skip (w.setRow (κ t).1 (layV cur (j*1+0) (a.eval y).cells)):=by
     simp only [execOp,ex,Sem.run_bind,hst,Result.andThen_ok,Sem.run_pure]
    unfold Oper.wp
    rw [hrun,Oper.upon_skip]
    have hcells:(a.eval y).cells=#[.int .u32 n]:=by rw [hv];rfl
    have hlay:∀m,(layV cur (j*1+0) (a.eval y).cells)[m]? = if m=j then some (.int .u32 n) else cur[m]?:=fun m=>by
     rw [hcells,layV_eq (by simp;omega),List.getElem?_toArray,splice_get? (by simp;omega)]
     simp only [List.length_cons,List.length_nil,Nat.zero_add]
     by_cases hm:m=j
     ·subst hm
      rw [if_pos (by omega),if_pos rfl]
      simp
     ·rw [if_neg (by omega),if_neg hm]
      simp
    have hO2:Own (w.setRow (κ t).1 (layV cur (j*1+0) (a.eval y).cells)) (frzZ σ κ (σ.usedV y) Z) (κ t).1 (κ t).2 (.limb e (l.set j n.toNat)):=by
     refine ⟨_,setRow_heap w _ cur _ e (0,0) hb,?_,by simpa using b3,b4,b6,fun x hx=>?_,fun m hm=>?_⟩
     ·rw [hcells,layV_eq (by simp;omega),←b2]
      simp only [List.size_toArray]
      rw [splice_len (by simp;omega)]
      simp
     ·rcases List.mem_or_eq_of_mem_set hx with hx|rfl
      ·exact b7 x hx
      ·omega
     ·simp at hm
      rw [hlay]
      by_cases hmj:m=j
      ·subst hmj
       rw [if_pos rfl]
       simp [Int.toNat_of_nonneg hn0]
      ·rw [if_neg hmj,b8 m hm,List.getElem_set_ne (Ne.symm hmj)]
    have S2:=S1.setRowO (hown1 _ hown) hO2 (fun h=>by cases h) cur e hb
    exact ⟨_,h9,⟨_,β,κ,S2.put hd' rfl⟩,hN.put hd⟩
   ·exact h5.elim
  ·exact h5.elim
 | build ty parts =>
  obtain ⟨fs,z,bb,cs,h1,h2,_,h4⟩:=h
  have S1:=S.frz (σ.usedL (parts.toList.map (·.2)))
  obtain ⟨zv,z1,z2⟩:=run_zero (C.hT _ _ h1) w
  obtain ⟨fds,u1,u0,u2⟩:=(C.hT _ _ h1).und
  have hpl:∃places:Array (Nat × Nat),(fds.mapM fun f=>do pure (f.offset,←Go.sizeOf f.type):Sem (Array (Nat × Nat))).run C.P w=.ok places w∧∀(f o n:Nat) (t:TypeId),fs[f]? = some (o,n,t)→places[f]? = some (o,n):=by
   refine ⟨fds.map fun fd=>(fd.offset,((C.P.info? fd.type).map (·.size)).getD 0),run_places fds _ fun fd hfd=>?_,fun f o n t hf=>?_⟩
   ·obtain ⟨f,hlt,rfl⟩:=Array.mem_iff_getElem.1 hfd
    obtain ⟨⟨o,n,t⟩,hp⟩:∃p,fs[f]? = some p:=⟨_,List.getElem?_eq_getElem (by omega)⟩
    obtain ⟨fd,v1,_,_,_,fi,v4,v5⟩:=u2 f o n t hp
    rw [Array.getElem?_eq_getElem hlt]at v1
    cases v1
    rw [run_size v4,v4]
    rfl
   ·obtain ⟨fd,v1,rfl,rfl,_,fi,v4,rfl⟩:=u2 f o n t hf
    simp [v1,v4]
  obtain ⟨places,p1,p2⟩:=hpl
  obtain ⟨vs',q1,q2⟩:=fillV_sound S (T:=C.T) (ts:=σ.usedL (parts.toList.map (·.2))) (place:=(places[·]?)) p2 parts.toList z zv.cells cs (z2 w _) h2 contains_self
  have e:(parts.map fun (i,x)=>(i,a.eval x)).toList=parts.toList.map fun (i,x)=>(i,a.eval x):=by simp
  have hrun:(execOp a.eval ⟨dst,.build ty parts,type,pos,after,guard⟩).run C.P w=.ok (.value (.agg vs')) w:=by
   simp only [execOp,Instr.build,Sem.run_bind,z1,Result.andThen_ok,run_under u1,p1,e,q1]
   rfl
  unfold Oper.wp
  rw [hrun,Oper.upon_value]
  exact ⟨_,h4,⟨_,β,κ,S1.put hd' q2⟩,hN.put hd⟩
 | buildSlice ty n parts =>
  obtain ⟨e,k,l,z,bb,i,cs,h1,h2,h3,h4,h5,h6,h7,_,h8⟩:=h
  have S1:=S.frz (σ.usedL (parts.toList.map (·.2)))
  obtain ⟨vs,r1,r2⟩:=run_buildSliceV S h1 h2 h3 h4 h5 h6 (ts:=σ.usedL (parts.toList.map (·.2))) contains_self
  have hb:Below w.heap.size w (w.alloc (.cells vs e)):=(Below.refl _ _).alloc (Nat.le_refl _) _
  have hbox:=Box.new w vs e
  generalize frzZ σ κ (σ.usedL (parts.toList.map (·.2))) Z=Zf at *
  have hk:Keeps Zf w (w.alloc (.cells vs e)):=Keeps.ofBelow hb
  obtain ⟨l1,l2⟩:=Rep.agg_iff.1 r2
  have hcl:cs.length=n*k:=by rw [fillV_len _ _ _ h6,flat_len,h3]
  have S2:=S1.grow (Z':=grown Zf w (w.alloc (.cells vs e))) hb (fun _ _ h=>.inl h) (fun _ _ h=>h) (fun _ b o v hbb hc _=>.inr ⟨hbb,World.block_lt_of_cell? _ _ hc⟩)
  unfold Oper.wp
  simp only [execOp,Sem.run_bind,r1,Result.andThen_ok,Sem.run_pure,Oper.upon_value]
  have hcell:∀j (hj:j<cs.length),(w.alloc (.cells vs e)).cell? ⟨w.heap.size,j,none⟩=some (vs[j]'(by omega)):=fun j hj=>by
   rw [hbox.cell];exact Array.getElem?_eq_getElem (by omega)
  cases l with
  | true =>
   obtain ⟨rfl,ns,h8,h9⟩:=h8
   obtain ⟨n1,n2,n3⟩:=natsR_sound cs ns h8
   refine ⟨_,h9,⟨_,β,κ,S2.put hd' ?_⟩,hN.put hd⟩
   have hnl:ns.length=n:=by omega
   have:Rep (w.alloc (.cells vs e)) (grown Zf w (w.alloc (.cells vs e))) (.nat ns) (.slice (some ⟨w.heap.size,0,none⟩) ns.length n):=by
    refine .nat ⟨n1,fun _=>⟨w.heap.size,0,rfl,hbox.lt,fun j hj=>?_⟩⟩ (by omega) (fun b off e j hj=>by cases e;exact .inr ⟨Nat.le_refl _,hbox.lt⟩)
    rw [Nat.zero_add,hcell j (by omega)]
    have hx:=n3 j ns[j] (List.getElem?_eq_getElem hj)
    have:=l2 j _ (vs[j]'(by omega)) hx (Array.getElem?_eq_getElem (by omega))
    rw [this.lit_eq]
   rw [hnl]at this
   exact this
  | false =>
   refine ⟨_,h8,⟨_,β,κ,S2.put hd' ?_⟩,hN.put hd⟩
   have hch:=chunk_len k n cs
   have:Rep (w.alloc (.cells vs e)) (grown Zf w (w.alloc (.cells vs e))) (.sl k (chunk k n cs)) (.slice (some ⟨w.heap.size,0,none⟩) (chunk k n cs).length n):=by
    refine .sl (fun i j=>vs[i*k+j]?.getD undef) hbox.lt (by omega) (fun i hi=>(chunk_get k h4 n cs hcl h7 i hi).1) (fun i j hi hj=>?_) (fun i hi j hj=>?_)
    ·have hlt:i*k+j<cs.length:=by rw [hcl];exact row_lt (by omega) hj
     refine ⟨?_,.inr ⟨Nat.le_refl _,hbox.lt⟩⟩
     rw [Nat.zero_add,hcell _ hlt,Array.getElem?_eq_getElem (by omega)]
     rfl
    ·obtain ⟨g1,g2⟩:=chunk_get k h4 n cs hcl h7 i hi
     have hjk:j<k:=by omega
     have hg:=g2 j hjk
     rw [List.getElem?_eq_getElem hj]at hg
     have hlt:=(List.getElem?_eq_some_iff.1 hg.symm).1
     have:=l2 _ _ (vs[i*k+j]'(by omega)) hg.symm (Array.getElem?_eq_getElem (by omega))
     rw [Array.getElem?_eq_getElem (show i*k+j<vs.size by omega)]
     exact this.keep hk (fun _ _ h=>.inl h)
   rw [hch]at this
   exact this
 | makeMap ty r =>
  obtain ⟨t,k,e,z,bb,ki,ht,h1,h2,h3,h4⟩:=h
  obtain rfl:dst=some t:=ht
  have u1:C.P.underlying ty=some (.map k e):=(C.hT _ _ h1).und
  have hrun:(execOp a.eval ⟨some t,.makeMap ty r,type,pos,after,guard⟩).run C.P w=.ok (.value (.map (some w.heap.size))) (w.alloc (.map #[] 0)):=by
   cases r with
   | none =>
    have hm:(Instr.makeMap ty none).run C.P w=.ok (.map (some w.heap.size)) (w.alloc (.map #[] 0)):=rfl
    simp [execOp,hm,Result.andThen]
   | some x =>
    obtain ⟨q,n,hx⟩:=h3 x rfl
    have hn:(newObj (.map #[] 0)).run C.P w=.ok w.heap.size (w.alloc (.map #[] 0)):=rfl
    simp [execOp,Instr.makeMap,run_under u1,S.lit hx,asInt,asIntOf,hn,Result.andThen]
  unfold Oper.wp
  rw [hrun,Oper.upon_value]
  obtain ⟨Z',κ',S2⟩:=S.newMapA hz0 (d:=t) (kd:=ki.kind) (hd' t rfl) (hdB t rfl)
  exact ⟨_,h4,⟨Z',β,κ',S2⟩,hN.put hd⟩
 | mapUpdate ty x q y =>
  obtain ⟨k,e,z,bb,ki,t,m,kv,yv,h1,h2,hx,ho,hq,hkb,hy,_,hnot,hK⟩:=h
  have S1:=S.frz (σ.usedV y)
  have hg:=argV_sound S hy (ts:=σ.usedV y) contains_self
  have u1:C.P.underlying ty=some (.map k e):=(C.hT _ _ h1).und
  obtain ⟨d,u2,u3⟩:=keyT_of (C.hT _ _ h2) hkb
  have ho1:(σ.frz (σ.usedV y)).own t=some (.map ki.kind m):=by
   simp only [AS.frz]
   rw [if_neg (by rw [hnot];simp)]
   exact ho
  obtain ⟨g1,es,clock,o1,o2,o3,o4⟩:=S1.own t _ ho1
  obtain ⟨es',clock',r1,r2⟩:=update_run u1 u2 u3 o1 o4 hkb hg
  have ex:a.eval x=.map (some (κ t).1):=S.get hx
  have hrun:(execOp a.eval ⟨dst,.mapUpdate ty x q y,type,pos,after,guard⟩).run C.P w=.ok .skip { w with heap:=w.heap.setIfInBounds (κ t).1 (.map es' clock') }:=by
   simp [execOp,ex,S.lit hq,r1,Result.andThen]
  unfold Oper.wp
  rw [hrun,Oper.upon_skip]
  have S2:=S1.setMapO (clock':=clock') ho1 r2
  exact ⟨_,hK,⟨_,β,κ,S2.put hd' rfl⟩,hN.put hd⟩
 | makeSlice ty x y =>
  obtain ⟨t,e,k,l,z,bb,i,q1,q2,n,m,ht,h1,h2,h3,h4,hx,hy,hn0,hnm,hmb,hm63,h8⟩:=h
  obtain rfl:dst=some t:=ht
  obtain ⟨u1,ei,u2,u3⟩:=(C.hT _ _ h1).und
  obtain ⟨info,zv,i1,i2,i3,i4,i5,i6⟩:=zero_cells w Z (C.hT _ _ h2)
  have hei:info=ei:=by rw [i1]at u2;exact Option.some.inj u2
  subst hei
  have hbm:(info.bytes:Int)*m≤281474976710656:=by rw [i3,Int.mul_comm];omega
  have hr:=run_make (P:=C.P) w ty e info zv u1 i1 i4 q1 q2 n m hn0 hnm hbm hm63
  rw [u3]at hr
  have hrun:(execOp a.eval ⟨some t,.makeSlice ty x y,type,pos,after,guard⟩).run C.P w=.ok (.value (.slice (some ⟨w.heap.size,0,none⟩) n.toNat m.toNat)) (w.alloc (.cells (madeCells zv.cells (m.toNat*k)) e)):=by
   simp only [execOp,S.lit hx,S.lit hy,Sem.run_bind,hr,Result.andThen_ok,Sem.run_pure]
  unfold Oper.wp
  rw [hrun,Oper.upon_value]
  have hle:n.toNat≤m.toNat:=by omega
  have hml:m.toNat≤maxLen:=by rw [maxLen_eq];omega
  have hzp:0<zv.cells.size:=by omega
  have hzk:zv.cells.size=k:=by omega
  cases l with
  | true =>
   obtain ⟨rfl,hz,h9⟩:=h8
   have hzc:∀j,j<m.toNat→(madeCells zv.cells (m.toNat*1))[j]? = some (.int .u32 0):=fun j hj=>by
    obtain ⟨info',zv',j1,j2,j3,j4,j5⟩:=(C.hT _ _ h2).inf
    rw [i1]at j1
    cases j1
    rw [i4]at j4
    cases j4
    rw [madeCells_get (by omega) hzp,hzk,Nat.mod_one,Array.getElem?_eq_getElem hzp]
    obtain ⟨l1,l2⟩:=Rep.agg_iff.1 (j5 w Z)
    have:=l2 0 (.lit (.int .u32 0)) (zv.cells[0]) (by rw [hz];rfl) (Array.getElem?_eq_getElem hzp)
    rw [this.lit_eq]
   obtain ⟨Z',κ',S2⟩:=S.newRowA hz0 (d:=t) (cap:=m.toNat) (ov:=.limb e (List.replicate n.toNat 0)) (cells:=madeCells zv.cells (m.toNat*1)) (hd' t rfl) (hdB t rfl) (by rw [size_madeCells];rfl) (by simpa [OV.len]using hle) hml (by simp [OV.k]) (fun w' Z' _ _=>⟨fun x hx=>by rw [(List.mem_replicate.1 hx).2];omega,fun j hj=>by simp at hj;rw [hzc j (by omega)];simp⟩) (fun h=>by cases h)
   simp only [OV.len,List.length_replicate,OV.e]at S2
   exact ⟨_,h9,⟨Z',β,κ',S2⟩,hN.put hd⟩
  | false =>
   obtain ⟨ho,hnl,h9⟩:=h8
   have hel:(mkEl k i.zero).cells=i.zero:=mkEl_cells h4 h3 ho
   have hmade:∀c∈(madeCells zv.cells (m.toNat*k)).toList,noLimb c=true:=fun c hc=>by
    obtain ⟨q,hq,rfl⟩:=List.mem_iff_getElem.1 hc
    have hq':q<(madeCells zv.cells (m.toNat*k)).size:=by simpa using hq
    have hg:=madeCells_get (z:=zv.cells) (n:=m.toNat*k) (j:=q) (by rw [size_madeCells]at hq';exact hq') hzp
    rw [Array.getElem?_eq_getElem hq']at hg
    have hlt:q % zv.cells.size<zv.cells.size:=Nat.mod_lt _ hzp
    rw [Array.getElem?_eq_getElem hlt]at hg
    have:=i6 hnl (zv.cells[q % zv.cells.size]) (by simp)
    rw [←Option.some.inj hg]at this
    simpa using this
   have hfit:∀w' Z',Keeps Z w w'→(∀b o,Z b o→Z' b o)→Fits w' Z' (madeCells zv.cells (m.toNat*k)) (.row e k (List.replicate n.toNat (mkEl k i.zero))):=fun w' Z' _ _=>by
    refine ⟨hmade,fun j hj=>?_⟩
    simp only [List.getElem_replicate,hel]
    simp at hj
    refine ⟨h3,ho,fun q hq=>?_⟩
    obtain ⟨info',zv',j1,j2,j3,j4,j5⟩:=(C.hT _ _ h2).inf
    rw [i1]at j1
    cases j1
    rw [i4]at j4
    cases j4
    obtain ⟨l1,l2⟩:=Rep.agg_iff.1 (j5 w' Z')
    have hqk:q<k:=by omega
    have hlt:q<zv.cells.size:=by omega
    refine ⟨zv.cells[q],?_,l2 q _ _ (List.getElem?_eq_getElem hq) (Array.getElem?_eq_getElem hlt)⟩
    have hr:=row_lt (show j<m.toNat by omega) hqk
    rw [madeCells_get hr hzp,hzk,Nat.mul_comm,Nat.mul_add_mod,Nat.mod_eq_of_lt hqk,Array.getElem?_eq_getElem hlt]
   obtain ⟨Z',κ',S2⟩:=S.newRowA hz0 (d:=t) (cap:=m.toNat) (ov:=.row e k (List.replicate n.toNat (mkEl k i.zero))) (cells:=madeCells zv.cells (m.toNat*k)) (hd' t rfl) (hdB t rfl) (by rw [size_madeCells];rfl) (by simpa [OV.len]using hle) hml h4 hfit (fun _=>hmade)
   simp only [OV.len,List.length_replicate,OV.e]at S2
   exact ⟨_,h9,⟨Z',β,κ',S2⟩,hN.put hd⟩
 | call c =>
  obtain ⟨callee,cargs,ctys⟩:=c
  simp only [astep]at h
  have hcall:callS C dr dst ⟨callee,cargs,ctys⟩ σ K→(Oper.mk dst (.call ⟨callee,cargs,ctys⟩) type pos after guard).wp C.P a w (fun a' w'=>∃σ',K σ'∧Sim C.u w0 Z0 N σ' a' w') Q:=by
   rintro ⟨f,pre,post,args,r,h0,h1,h2,h3,h4⟩
   have S1:=S.frz (σ.usedL cargs.toList)
   have hargs:=args_sound S (ts:=σ.usedL cargs.toList) _ _ _ h1 contains_self
   have hfn:FnOK C.P f:=by rcases h2 with h2|⟨h2,_⟩ <;> exact h2.1
   obtain ⟨us,vs,p1,p2,hr⟩:=tgt_sound S (cargs:=cargs) (ctys:=ctys) (dst:=dst) (type:=type) (pos:=pos) (after:=after) (guard:=guard) h0 hfn
   have hargs2:=((p1.keep (Keeps.refl _ _) (fun _ _ h=>.inl h)).app hargs).app (p2.keep (Keeps.refl _ _) (fun _ _ h=>.inl h))
   have hcalls:Calls C.P f (us ++ (cargs.toList.map a.eval).toArray ++ vs) w fun e w'=>∃v,e=.returned v∧Below w.heap.size w w'∧Rep w' (grown (frzZ σ κ (σ.usedL cargs.toList) Z) w w') r v:=by
    rcases h2 with h2|⟨h2,hhot⟩
    ·exact h2.2 w _ _ (hE.keep S.below) (S1.zlt hz0) (fun h=>by cases h) hargs2
    ·refine h2.2 w _ _ (hE.keep S.below) (S1.zlt hz0) (fun hu b o v hcell hl=>?_) hargs2
     rcases S.al hu b o v hcell hl with h|⟨t,ov,q1,q2,_⟩
     ·exact .inl h
     ·rw [hhot t ov q1]at q2;cases q2
   have e:(cargs.toList.map a.eval).toArray=cargs.map a.eval:=by apply Array.ext';simp
   rw [e]at hcalls
   unfold Oper.wp
   rw [hr,Oper.upon_enter]
   refine hcalls.mono fun e' w' ⟨v,he,hb,hv⟩=>?_
   subst he
   cases hfl:r.flat with
   | true =>
    rw [hfl]at h4
    simp only [if_true]at h4
    have S2:=S.grow (Z':=grown Z w w') hb (fun _ _ h=>.inl h) (fun _ _ h=>h) (fun _ b o v hbb hc _=>.inr ⟨hbb,World.block_lt_of_cell? _ _ hc⟩)
    exact ⟨_,h4,⟨_,β,κ,S2.put hd' (Rep.flat hfl hv)⟩,hN.put hd⟩
   | false =>
    rw [hfl]at h4
    simp only [Bool.false_eq_true,if_false]at h4
    have S2:=S1.grow (Z':=grown (frzZ σ κ (σ.usedL cargs.toList) Z) w w') hb (fun _ _ h=>.inl h) (fun _ _ h=>h) (fun _ b o v hbb hc _=>.inr ⟨hbb,World.block_lt_of_cell? _ _ hc⟩)
    exact ⟨_,h4,⟨_,β,κ,S2.put hd' hv⟩,hN.put hd⟩
  split at h
  ·exact hcall h
  ·obtain ⟨d,x,y,ty,ty',e,k,l,z,bb,i,xv,s,ov,yv,ov',ht,h1,h2,rfl,h4,h5,h6,h7,h8,h9,h10,h11,h12,h13,h14,h15,h16⟩:=h
   obtain rfl:dst=some d:=ht
   subst h1 h2
   simp only [AS.argV,Option.bind_eq_some_iff]at h10
   obtain ⟨yt,hy1,hy2⟩:=h10
   obtain ⟨v',w',Z',κ',r1,S2⟩:=S.append hz0 (rt:=type) (hd' d rfl) (hdB d rfl) (C.hT _ _ h4) (C.hT _ _ h5) h6 h7 (S.get h8) h9 (S.get hy1) hy2 h11 h12 h13 h14 h15
   have hrun:(execOp a.eval ⟨some d,.call ⟨.builtin .append,#[x,y],#[ty',ty']⟩,type,pos,after,guard⟩).run C.P w=.ok (.value v') w':=by
    simp [execOp,resolve,invoke,builtin,r1]
   unfold Oper.wp
   rw [hrun,Oper.upon_value]
   exact ⟨_,h16,⟨Z',β,κ',S2⟩,hN.put hd⟩
  ·obtain ⟨x,y,ty,ty',e,k,l,z,bb,t,off,n,ov,yv,m,yv',ov',h1,h2,h4,hx,hown,hovk,hle,hy,htk,hov,h16⟩:=h
   subst h1 h2
   obtain ⟨u1,ei,u2,u3⟩:=(C.hT _ _ h4).und
   simp only [AS.argV,Option.bind_eq_some_iff]at hy
   obtain ⟨yt,hy1,hy2⟩:=hy
   obtain ⟨r1,r2⟩:=(S.get hx:RepT w Z β κ (.osl t k off n) (a.eval x))
   obtain ⟨_,hO⟩:=S.own t ov hown
   obtain ⟨cur,c1,c2,c3,c4,c5,c6,c7⟩:=hO.to (over_row hov)
   have hb:Box w (κ t).1 cur ov.e:=c1
   have hk:0<k:=hovk ▸ c5
   have hyk:yv.slK k:=by
    have:=over_slK hov
    rw [hovk]at this
    cases yv with
    | sl k' ys=>cases htk;exact this
    | nat ys=>cases htk;exact this
    | _=>cases htk
   have hmin:m=min n yv.cnt∧yv'.cnt=m:=by
    cases yv with
    | sl k' ys=>cases htk;exact ⟨rfl,by simp [AV.cnt]⟩
    | nat ys=>cases htk;exact ⟨rfl,by simp [AV.cnt]⟩
    | _=>cases htk
   have hlen:∃A c,a.eval y=.slice A yv.cnt c:=by
    have hr:=argT_sound S (S.get hy1) hy2 (ts:=usedT (some yt)) contains_self
    have hl:lenA yv=some yv.cnt:=by
     cases yv with
     | sl k' ys=>rfl
     | nat ys=>rfl
     | _=>exact hyk.elim
    exact lenA_sound hr hl
   by_cases h0:m=0
   ·obtain ⟨A,c,e0⟩:=hlen
    have hov':ov'=ov:=over_zero hov (by omega)
    subst hov'
    rw [setOwn_same hown]at h16
    have hrc:=run_copyN (P:=C.P) w (dT:=ty) (sT:=ty') (ty:=type) (elem:=e) (info:=ei) (g:=(κ t).1) (o:=off*k) (dLen:=n) (dCap:=(κ t).2-off) (A:=A) (sLen:=yv.cnt) (sCap:=c) u1 u2 (by show min yv.cnt n=0;omega)
    have hrun:(execOp a.eval ⟨dst,.call ⟨.builtin .copy,#[x,y],#[ty,ty']⟩,type,pos,after,guard⟩).run C.P w=.ok (.value (goInt 0)) w:=by
     simp [execOp,resolve,invoke,builtin,r2,e0,hrc]
    unfold Oper.wp
    rw [hrun,Oper.upon_value]
    refine ⟨_,h16,⟨Z,β,κ,S.put hd' ?_⟩,hN.put hd⟩
    rw [h0]
    exact Rep.lit rfl
   ·obtain ⟨b,o2,c,news,e0,n1,n2,n3⟩:=news_of S (S.get hy1) hy2 hk hyk (by omega)
    obtain ⟨t1,t2,t3,t4⟩:=n3.take htk hyk
    have hfc:ov.len*ov.k≤cur.size:=by rw [c2];exact Nat.mul_le_mul_right _ c3
    obtain ⟨o1,o2',o3,o4,o5,o6,o7⟩:=Fits.over c7 t1 hov hfc
    have hone:=over_one hov t1
    have hfit:off*k+(news.take (m*k)).length≤cur.size:=by
     rw [o1,hovk,←Nat.add_mul]
     rw [hovk]at hfc
     exact Nat.le_trans (Nat.mul_le_mul_right k (by omega)) hfc
    have hrc:=run_copyK (P:=C.P) w (dT:=ty) (sT:=ty') (ty:=type) (elem:=e) (info:=ei) (g:=(κ t).1) (o:=off*k) (dLen:=n) (dCap:=(κ t).2-off) (ad:=⟨b,o2,none⟩) (sLen:=yv.cnt) (sCap:=c) (cur:=cur) (t:=ov.e) (cs:=news.take (m*k)) u1 u2 c1 (by rw [o1,t3,u3,hovk];congr 1;show m=min yv.cnt n;omega) (fun j v hj=>by
     have hjl:=(List.getElem?_eq_some_iff.1 hj).1
     simp at hjl
     rw [List.getElem?_take_of_lt (by omega)]at hj
     exact n2 j v hj) hfit hone
    have hm2:Nat.min yv.cnt n=m:=by show min yv.cnt n=m;omega
    rw [hm2]at hrc
    have hrun:(execOp a.eval ⟨dst,.call ⟨.builtin .copy,#[x,y],#[ty,ty']⟩,type,pos,after,guard⟩).run C.P w=.ok (.value (goInt m)) (w.setRow (κ t).1 (cur.toList.take (off*k) ++ news.take (m*k) ++ cur.toList.drop (off*k+(news.take (m*k)).length)).toArray):=by
     simp [execOp,resolve,invoke,builtin,r2,e0,hrc]
    unfold Oper.wp
    rw [hrun,Oper.upon_value]
    rw [hovk]at o7
    have hsp:(splice cur.toList (off*k) (news.take (m*k))).toArray=(cur.toList.take (off*k) ++ news.take (m*k) ++ cur.toList.drop (off*k+(news.take (m*k)).length)).toArray:=rfl
    rw [hsp]at o7
    generalize hcells:(cur.toList.take (off*k) ++ news.take (m*k) ++ cur.toList.drop (off*k+(news.take (m*k)).length)).toArray=cells at *
    have hcs:cells.size=cur.size:=by
     rw [←hcells]
     simp only [List.size_toArray,List.length_append,List.length_take,List.length_drop,Array.length_toList]at hfit ⊢
     omega
    have hk1:Keeps Z w (w.setRow (κ t).1 cells):=Keeps.ofGrown (grownBy_setRow w _ _) c6
    have hO2:Own (w.setRow (κ t).1 cells) Z (κ t).1 (κ t).2 ov':=Own.of (cur:=cells) (by rw [o5];exact setRow_heap w _ cur _ ov.e (0,0) hb) (by rw [hcs,c2,o4]) (by omega) c4 (by rw [o4];exact c5) c6 (o7.keep hk1 (fun _ _ h=>h))
    have hlim:ov'.hot=false→∀c∈cells.toList,noLimb c=true:=fun h=>by
     cases ov' with
     | row _ _ _=>exact o7.1
     | limb _ _=>cases h
     | map _ _=>exact o7.elim
    have S2:=S.setRowO hown hO2 hlim cur ov.e hb
    exact ⟨_,h16,⟨Z,β,κ,S2.put hd' (Rep.lit rfl)⟩,hN.put hd⟩
  ·exact hcall h
  ·exact val h
 | _=>exact val h
end
end Go.Proofs.YtmekiphpjpblpaaGreat
