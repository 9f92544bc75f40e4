import Derived.Test.YtcaahphghaddgaaGreatDoorEVO
/- Text VP. -/
set_option linter.unusedSimpArgs false
set_option linter.unusedVariables false
namespace Go.Proofs.YtcaahphghaddgaaGreatDoor
open Go.RowKit Lim
def onSome {α:Type} (x:Option α) (k:α→Prop):Prop:=∃v,x=some v∧k v
theorem onSome_some {α:Type} (v:α) (k:α→Prop):onSome (some v) k=k v:=by simp [onSome]
def litK (v:TV) (k:Value→Prop):Prop:=∃a,v=.av (.lit a)∧k a
theorem litK_lit (a:Value) (k:Value→Prop):litK (.av (.lit a)) k=k a:=by simp [litK]
def condK (v:TV) (A B:Prop):Prop:=∃b,v=.av (.lit (.bool b))∧(b=true→A)∧(b=false→B)
theorem condK_true (A B:Prop):condK (.av (.lit (.bool true))) A B=A:=by simp [condK]
def guardK (v:TV) (want:Bool) (A B:Prop):Prop:=(∃b,v=.av (.lit (.bool b))∧(b=want→A)∧(b≠want→B))∨(v=.skip∧B)
theorem guardK_bool (b want:Bool) (A B:Prop):guardK (.av (.lit (.bool b))) want A B=((b=want→A)∧(b≠want→B)):=by simp [guardK]
theorem guardK_tt (A B:Prop):guardK (.av (.lit (.bool true))) true A B=A:=by simp [guardK]
def thenK (C:Ctx) (n:Scr) (b:Code) (K:Exit→AS→Prop):Exit→AS→Prop:=fun e σ=>match e with|.normal=>awp C n b K σ|e=>K e σ
theorem thenK_normal {C:Ctx} {n:Scr} {b:Code} {K:Exit→AS→Prop} {σ:AS}:thenK C n b K .normal σ=awp C n b K σ:=rfl
abbrev LT:=List (Nat × Option TV)
abbrev LM:=List (Nat × List AV)
abbrev LQ:=List (Nat × OV)
section
variable {α:Type} {L:α→LT} {M:α→LM} {Q:α→LQ} {μ:α→Nat} {x:α} {K:Exit→AS→Prop} {σ:AS}
end
def getL (l:LT):Operand→Option TV
 | .tmp t=>ofT l t
 | .const v=>constT v
 | .func f=>some (.av (.fn (.func f) [] []))
 | .global g=>some (.av (.lit (.pointer (some ⟨g,0,none⟩))))
theorem getL_tmp (l:LT) (t:Nat):getL l (.tmp t)=ofT l t:=rfl
theorem getL_bool (l:LT) (b:Bool):getL l (.const (.bool b))=some (.av (.lit (.bool b))):=rfl
theorem ofT_cons_eq (k:Nat) (v:Option TV) (l:LT):ofT ((k,v) :: l) k=v:=by simp [ofT]
theorem ofT_cons_ne {k x:Nat} (h:(x == k)=false) (v:Option TV) (l:LT):ofT ((k,v) :: l) x=ofT l x:=by simp at h;simp [ofT,h]
theorem setT_cons_eq (k:Nat) (u:Option TV) (v:TV) (l:LT):setT ((k,u) :: l) k v=(k,some v) :: l:=by simp [setT]
theorem setT_cons_ne {k t:Nat} (h:(k == t)=false) (u:Option TV) (v:TV) (l:LT):setT ((k,u) :: l) t v=(k,u) :: setT l t v:=by simp at h;simp [setT,h]
theorem setT_nil (t:Nat) (v:TV):setT [] t v=[(t,some v)]:=rfl
theorem prepL_nil (n:Nat) (d:Bool) (bad:List Nat):prepL n d bad []=[]:=rfl
theorem prepL_keep {n k:Nat} (h:k<n) (d:Bool) (bad:List Nat) (v:Option TV) (l:LT):prepL n d bad ((k,v) :: l)=(k,v.bind (staleK d k bad)) :: prepL n d bad l:=by simp [prepL,h]
theorem staleK_av (d:Bool) (x:Nat) (bad:List Nat) (a:AV):staleK d x bad (.av a)=some (.av a):=rfl
theorem badOf_false (os:List Oper):badOf false os=newsOf os:=rfl
def lookL (m:LM) (q:LQ):TV→Option (List AV)
 | .ref t off=>(ofL m t).map (·.drop off)
 | .av (.ptr cs)=>some cs
 | .oref t k i o=>(ofL q t).bind (OV.look k i o)
 | _=>none
def argK (T:TyTab) (q:LQ) (ty:TypeId) (v:TV) (k:AV→List Nat→Prop):Prop:=(∃a,v=.av a∧k (normA T ty a) [])∨∃t kk off len ov,v=.osl t kk off len∧ofL q t=some ov∧ov.k=kk∧off+len≤ov.len∧k (ov.part off len) [t]
theorem argK_av {T:TyTab} {q:LQ} {ty:TypeId} {a:AV} {k:AV→List Nat→Prop}:argK T q ty (.av a) k=k (normA T ty a) []:=by simp [argK]
theorem argK_osl {T:TyTab} {q:LQ} {ty:TypeId} {t kk off len:Nat} {k:AV→List Nat→Prop}:argK T q ty (.osl t kk off len) k=onSome (ofL q t) (fun ov=>ov.k=kk∧off+len≤ov.len∧k (ov.part off len) [t]):=by
 simp only [argK,onSome]
 apply propext
 constructor
 ·rintro (⟨a,h,_⟩|⟨t',kk',off',len',ov,h1,h2,h3,h4,h5⟩)
  ·cases h
  ·cases h1;exact ⟨ov,h2,h3,h4,h5⟩
 ·rintro ⟨ov,h2,h3,h4,h5⟩
  exact .inr ⟨t,kk,off,len,ov,rfl,h2,h3,h4,h5⟩
section
variable {C:Ctx} {dr:Bool} {ops:Array Oper} {os:List Oper} {l:LT} {m:LM} {q:LQ} {K:AS→Prop} {ty:TypeId} {p:String} {af:Array Edge} {t:Nat} {d:Option Nat}
theorem get_of (x:Operand):AS.get ⟨ofT l,ofL m,ofL q⟩ x=getL l x:=by cases x <;> rfl
theorem argV_of (T:TyTab) (x:Operand) (y:AV):AS.argV T ⟨ofT l,ofL m,ofL q⟩ ty x=some y ↔ ∃v,getL l x=some v∧argK T q ty v (fun a us=>a=y∧AS.usedV ⟨ofT l,ofL m,ofL q⟩ x=us):=by
 simp only [AS.argV,get_of,Option.bind_eq_some_iff,AS.usedV]
 constructor
 ·rintro ⟨v,h1,h2⟩
  refine ⟨v,h1,?_⟩
  rw [h1]
  cases v with
  | av a=>simp only [AS.argT]at h2;cases h2;exact .inl ⟨a,rfl,rfl,rfl⟩
  | osl s kk off len =>
   simp only [AS.argT]at h2
   split at h2
   ·rename_i ov hov
    split at h2
    ·rename_i hc
     cases h2
     exact .inr ⟨s,kk,off,len,ov,rfl,hov,hc.1,hc.2,rfl,rfl⟩
    ·cases h2
   ·cases h2
  | _=>simp [AS.argT]at h2
 ·rintro ⟨v,h1,h2⟩
  refine ⟨v,h1,?_⟩
  rcases h2 with ⟨a,rfl,rfl,_⟩|⟨s,kk,off,len,ov,rfl,h3,h4,h5,rfl,_⟩
  ·rfl
  ·simp only [AS.argT,h3]
   rw [if_pos ⟨h4,h5⟩]
theorem argV_k (T:TyTab) (x:Operand) (R:AV→List Nat→Prop):(∃y,AS.argV T ⟨ofT l,ofL m,ofL q⟩ ty x=some y∧R y (AS.usedV ⟨ofT l,ofL m,ofL q⟩ x))=onSome (getL l x) (fun v=>argK T q ty v R):=by
 apply propext
 simp only [argV_of,onSome]
 constructor
 ·rintro ⟨y,⟨v,h1,h2⟩,h3⟩
  refine ⟨v,h1,?_⟩
  rcases h2 with ⟨a,rfl,rfl,h4⟩|⟨s,kk,off,len,ov,rfl,h5,h6,h7,rfl,h4⟩
  ·rw [h4]at h3;exact .inl ⟨a,rfl,h3⟩
  ·rw [h4]at h3;exact .inr ⟨s,kk,off,len,ov,rfl,h5,h6,h7,h3⟩
 ·rintro ⟨v,h1,h2⟩
  rcases h2 with ⟨a,rfl,h3⟩|⟨s,kk,off,len,ov,rfl,h5,h6,h7,h3⟩
  ·refine ⟨_,⟨_,h1,.inl ⟨a,rfl,rfl,?_⟩⟩,?_⟩
   ·simp only [AS.usedV,get_of,h1];rfl
   ·have:AS.usedV ⟨ofT l,ofL m,ofL q⟩ x=[]:=by simp only [AS.usedV,get_of,h1];rfl
    rw [this];exact h3
  ·have:AS.usedV ⟨ofT l,ofL m,ofL q⟩ x=[s]:=by simp only [AS.usedV,get_of,h1];rfl
   exact ⟨_,⟨_,h1,.inr ⟨s,kk,off,len,ov,rfl,h5,h6,h7,rfl,this⟩⟩,by rw [this];exact h3⟩
def argsK (T:TyTab) (l:LT) (q:LQ):List Operand→List TypeId→(List AV→List Nat→Prop)→Prop
 | [],_,k=>k [] []
 | x :: xs,tys,k=>onSome (getL l x) (fun v=>argK T q (tys.headD 0) v (fun a us=>argsK T l q xs tys.tail (fun as' us'=>k (a :: as') (us ++ us'))))
theorem argsK_nil (T:TyTab) (tys:List TypeId) (k:List AV→List Nat→Prop):argsK T l q [] tys k=k [] []:=rfl
theorem argsK_cons (T:TyTab) (x:Operand) (xs:List Operand) (tys:List TypeId) (k:List AV→List Nat→Prop):argsK T l q (x :: xs) tys k=onSome (getL l x) (fun v=>argK T q (tys.headD 0) v (fun a us=>argsK T l q xs tys.tail (fun as' us'=>k (a :: as') (us ++ us')))):=rfl
theorem args_k (T:TyTab):∀(xs:List Operand) (tys:List TypeId) (R:List AV→List Nat→Prop),(∃as',AS.args T ⟨ofT l,ofL m,ofL q⟩ xs tys=some as'∧R as' (AS.usedL ⟨ofT l,ofL m,ofL q⟩ xs))=argsK T l q xs tys R
 | [],tys,R=>by simp [AS.args,AS.usedL,argsK]
 | x :: xs,tys,R=>by
  rw [argsK_cons,←argV_k (m:=m)]
  apply propext
  constructor
  ·rintro ⟨as',h1,h2⟩
   simp only [AS.args]at h1
   split at h1
   ·rename_i a ha
    simp only [Option.map_eq_some_iff]at h1
    obtain ⟨r,h3,rfl⟩:=h1
    refine ⟨a,ha,?_⟩
    rw [←args_k T xs tys.tail]
    exact ⟨r,h3,h2⟩
   ·cases h1
  ·rintro ⟨y,h1,h2⟩
   rw [←args_k T xs tys.tail]at h2
   obtain ⟨r,h3,h4⟩:=h2
   refine ⟨y :: r,?_,h4⟩
   simp only [AS.args,h1,h3,Option.map_some]
theorem arun_one {o:Oper} (hg:o.guard=none) {σ:AS}:arun C dr ops (o :: os) σ K=astep C dr o σ (fun σ'=>arun C dr ops os σ' K):=by
 simp [arun,astepG,wantedA,hg]
theorem arun_val {op:Op} (h:∀σ k,astep C dr ⟨d,op,ty,p,af,none⟩ σ k=∃v,aval C σ ⟨d,op,ty,p,af,none⟩ v∧k (σ.put d v)) {σ:AS}:arun C dr ops (⟨d,op,ty,p,af,none⟩ :: os) σ K=∃v,aval C σ ⟨d,op,ty,p,af,none⟩ v∧arun C dr ops os (σ.put d v) K:=by
 rw [arun_one rfl,h]
theorem arun_nil:arun C dr ops [] ⟨ofT l,ofL m,ofL q⟩ K=K ⟨ofT l,ofL m,ofL q⟩:=rfl
def guardA (C:Ctx) (dr:Bool) (ops:Array Oper) (os:List Oper) (l:LT) (m:LM) (q:LQ) (d:Option Nat) (op:Op) (ty:TypeId) (p:String) (af:Array Edge) (w:Bool) (v:TV) (K:AS→Prop):Prop :=
 guardK v w (arun C dr ops (⟨d,op,ty,p,af,none⟩ :: os) ⟨ofT l,ofL m,ofL q⟩ K) (arun C dr ops os (AS.put ⟨ofT l,ofL m,ofL q⟩ d .skip) K)
theorem guardA_tt {op:Op}:guardA C dr ops os l m q d op ty p af true (.av (.lit (.bool true))) K=arun C dr ops (⟨d,op,ty,p,af,none⟩ :: os) ⟨ofT l,ofL m,ofL q⟩ K:=guardK_tt _ _
theorem arun_guard {op:Op} {j:Nat} {w:Bool}:arun C dr ops (⟨d,op,ty,p,af,some (j,w)⟩ :: os) ⟨ofT l,ofL m,ofL q⟩ K=onSome ((ops[j]?).bind (fun o=>o.dst)) (fun g=>onSome (ofT l g) (fun v=>guardA C dr ops os l m q d op ty p af w v K)):=by
 have hs:∀k,astep C dr ⟨d,op,ty,p,af,some (j,w)⟩ ⟨ofT l,ofL m,ofL q⟩ k=astep C dr ⟨d,op,ty,p,af,none⟩ ⟨ofT l,ofL m,ofL q⟩ k:=fun k=>rfl
 unfold guardA
 cases hg:(ops[j]?).bind (fun o=>o.dst)with
 | none=>simp [arun,astepG,wantedA,hg,onSome]
 | some g =>
  rw [onSome_some]
  simp only [arun,astepG,wantedA,hg,hs,onSome]
  cases hv:ofT l g with
  | none=>simp
  | some v =>
   cases v with
   | av a =>
    cases a with
    | lit u =>
     cases u with
     | bool b =>
      simp only [Option.some.injEq,exists_eq_left',guardK_bool]
      cases b <;> cases w <;> simp
     | _=>simp [guardK]
    | _=>simp [guardK]
   | skip=>simp [guardK]
   | _=>simp [guardK]
theorem arun_move (x:Operand):arun C dr ops (⟨some t,.move x,ty,p,af,none⟩ :: os) ⟨ofT l,ofL m,ofL q⟩ K=onSome (getL l x) (fun v=>arun C dr ops os ⟨ofT (setT l t v),ofL m,ofL q⟩ K):=by
 rw [arun_val fun _ _=>rfl]
 simp only [aval,get_of,put_of,onSome]
theorem arun_assign (x:Operand):arun C dr ops (⟨some t,.assign x,ty,p,af,none⟩ :: os) ⟨ofT l,ofL m,ofL q⟩ K=onSome (getL l x) (fun v=>arun C dr ops os ⟨ofT (setT l t v),ofL m,ofL q⟩ K):=by
 rw [arun_val fun _ _=>rfl]
 simp only [aval,get_of,put_of,onSome]
theorem arun_pick (c x y:Operand):arun C dr ops (⟨some t,.pick c x y,ty,p,af,none⟩ :: os) ⟨ofT l,ofL m,ofL q⟩ K=onSome (getL l c) (fun v=>condK v (onSome (getL l x) (fun v=>arun C dr ops os ⟨ofT (setT l t v),ofL m,ofL q⟩ K)) (onSome (getL l y) (fun v=>arun C dr ops os ⟨ofT (setT l t v),ofL m,ofL q⟩ K))):=by
 rw [arun_val fun _ _=>rfl]
 simp only [aval,get_of,put_of,onSome,condK]
 apply propext
 constructor
 ·rintro ⟨v,⟨b,h1,h2⟩,h3⟩
  refine ⟨_,h1,b,rfl,fun hb=>?_,fun hb=>?_⟩
  ·subst hb;exact ⟨v,h2,h3⟩
  ·subst hb;exact ⟨v,h2,h3⟩
 ·rintro ⟨v,h1,b,rfl,h2,h3⟩
  cases b with
  | true=>obtain ⟨u,h4,h5⟩:=h2 rfl;exact ⟨u,⟨true,h1,h4⟩,h5⟩
  | false=>obtain ⟨u,h4,h5⟩:=h3 rfl;exact ⟨u,⟨false,h1,h4⟩,h5⟩
theorem look_of (v:TV):AS.look ⟨ofT l,ofL m,ofL q⟩ (some v)=lookL m q v:=by
 cases v with
 | av a=>cases a <;> rfl
 | _=>rfl
def lookG (m:LM) (q:LQ):TV→Option (List AV)
 | .av (.lit (.pointer (some ⟨g,off,none⟩)))=>(globT g).map fun cs=>(cs.drop off).map AV.lit
 | x=>lookL m q x
def binK (b:Bool) (op:BinOp) (x y:Value) (k:Value→Prop):Prop:=∃r,binR b op x y r∧k r
theorem arun_binOp (op:BinOp) (xt yt:TypeId) (x y:Operand):arun C dr ops (⟨some t,.binOp op xt x y yt,ty,p,af,none⟩ :: os) ⟨ofT l,ofL m,ofL q⟩ K=onSome (getL l x) (fun v=>onSome (getL l y) (fun u=>litK v (fun a=>litK u (fun b=>binK (isBoolT C.T xt) op a b (fun r=>arun C dr ops os ⟨ofT (setT l t (.av (.lit r))),ofL m,ofL q⟩ K))))):=by
 rw [arun_val fun _ _=>rfl]
 simp only [aval,get_of,put_of,onSome,litK,binK]
 apply propext
 constructor
 ·rintro ⟨v,⟨a,b,r,h1,h2,h3,rfl⟩,h4⟩
  exact ⟨_,h1,_,h2,a,rfl,b,rfl,r,h3,h4⟩
 ·rintro ⟨_,h1,_,h2,a,rfl,b,rfl,r,h3,h4⟩
  exact ⟨_,⟨a,b,r,h1,h2,h3,rfl⟩,h4⟩
def coldL (q:LQ):Bool:=q.all fun p=>!p.2.hot
theorem coldL_all:∀(q:LQ),coldL q=true→∀t ov,ofL q t=some ov→ov.hot=false
 | [],_,t,ov,h=>by cases h
 | (k,v) :: q,h,t,ov,ho=>by
  simp only [coldL,List.all_cons,Bool.and_eq_true]at h
  simp only [ofL]at ho
  split at ho
  ·cases ho;simpa using h.1
  ·exact coldL_all q h.2 t ov ho
def callA (C:Ctx) (dr:Bool) (ops:Array Oper) (os:List Oper) (l:LT) (m:LM) (q:LQ) (d:Option Nat) (f:FuncId) (args:List AV) (us:List Nat) (K:AS→Prop):Prop :=
 ∃r,(ACalls C.t f args r∨ACalls C f args r∧∀t ov,ofL q t=some ov→ov.hot=false)∧(r.flat=true∨(dr=true→us=[]))∧arun C dr ops os ((if r.flat then (⟨ofT l,ofL m,ofL q⟩:AS) else AS.frz ⟨ofT l,ofL m,ofL q⟩ us).put d (.av r)) K
theorem callA_mk {f:FuncId} {args:List AV} {r:AV} (h:ACalls C f args r) (hk:arun C dr ops os ⟨ofT (setT l t (.av r)),ofL m,ofL q⟩ K) (hq:coldL q=true:=by rfl):callA C dr ops os l m q (some t) f args [] K :=
 ⟨r,.inr ⟨h,coldL_all q hq⟩,.inr fun _=>rfl,by rw [frz_nil,ite_self,put_of];exact hk⟩
theorem arun_call (f:FuncId) (args:Array Operand) (tys:Array TypeId):arun C dr ops (⟨d,.call ⟨.value (.func f),args,tys⟩,ty,p,af,none⟩ :: os) ⟨ofT l,ofL m,ofL q⟩ K=argsK C.T l q args.toList tys.toList (fun as' us=>callA C dr ops os l m q d f as' us K):=by
 rw [arun_one rfl,←args_k (m:=m)]
 apply propext
 constructor
 ·rintro ⟨f',pre,post,as',r,h0,h1,h2,h3,h4⟩
  cases h0
  simp only [List.nil_append,List.append_nil]at h2
  exact ⟨as',h1,r,h2,h3,h4⟩
 ·rintro ⟨as',h1,r,h2,h3,h4⟩
  exact ⟨f,[],[],as',r,rfl,h1,by unfold Con;simpa only [List.nil_append,List.append_nil]using h2,h3,h4⟩
def rowA (C:Ctx) (dr:Bool) (ops:Array Oper) (os:List Oper) (l:LT) (m:LM) (q:LQ) (t k j o:Nat) (ov:OV) (z:AV) (K:AS→Prop):Prop:=z.cells.all AV.one=true∧(match ov with
   | .row e k' es=>k'=k∧z.cells.all AV.noLimb=true∧∃el,es[j]? = some el∧o+z.cells.length≤k∧arun C dr ops os ⟨ofT l,ofL m,ofL (setL q t (.row e k (es.set j (mkEl k (splice el.cells o z.cells)))))⟩ K
   | .limb e ns=>k=1∧o=0∧j<ns.length∧∃n,z=.lit (.int .u32 n)∧0≤n∧n<4294967296∧arun C dr ops os ⟨ofT l,ofL m,ofL (setL q t (.limb e (ns.set j n.toNat)))⟩ K
   | .map _ _=>False)
end
end Go.Proofs.YtcaahphghaddgaaGreatDoor
