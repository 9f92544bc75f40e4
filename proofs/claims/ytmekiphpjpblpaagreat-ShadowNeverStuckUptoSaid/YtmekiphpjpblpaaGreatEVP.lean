import Derived.Test.YtmekiphpjpblpaaGreatEVO
/- Text VP. -/
set_option linter.unusedSimpArgs false
set_option linter.unusedVariables false
set_option maxHeartbeats 40000000
set_option maxRecDepth 100000
namespace Go.Proofs.YtmekiphpjpblpaaGreat
open Go.RowKit Lim
def onSome {α:Type} (x:Option α) (k:α→Prop):Prop:=∃v,x=some v∧k v
theorem onSome_some {α:Type} (v:α) (k:α→Prop):onSome (some v) k=k v:=by simp [onSome]
def litK (v:TV) (k:Value→Prop):Prop:=∃a,v=.av (.lit a)∧k a
theorem litK_lit (a:Value) (k:Value→Prop):litK (.av (.lit a)) k=k a:=by simp [litK]
def intK (v:TV) (k:Int→Prop):Prop:=∃q n,v=.av (.lit (.int q n))∧k n
theorem intK_int (q:IntKind) (n:Int) (k:Int→Prop):intK (.av (.lit (.int q n))) k=k n:=propext ⟨fun ⟨_,_,h,hk⟩=>by cases h;exact hk,fun h=>⟨q,n,rfl,h⟩⟩
def avK (v:TV) (k:AV→Prop):Prop:=∃a,v=.av a∧k a
theorem avK_av (a:AV) (k:AV→Prop):avK (.av a) k=k a:=by simp [avK]
def condK (v:TV) (A B:Prop):Prop:=∃b,v=.av (.lit (.bool b))∧(b=true→A)∧(b=false→B)
theorem condK_true (A B:Prop):condK (.av (.lit (.bool true))) A B=A:=by simp [condK]
theorem condK_false (A B:Prop):condK (.av (.lit (.bool false))) A B=B:=by simp [condK]
def guardK (v:TV) (want:Bool) (A B:Prop):Prop:=(∃b,v=.av (.lit (.bool b))∧(b=want→A)∧(b≠want→B))∨(v=.skip∧B)
theorem guardK_bool (b want:Bool) (A B:Prop):guardK (.av (.lit (.bool b))) want A B=((b=want→A)∧(b≠want→B)):=by simp [guardK]
theorem guardK_tt (A B:Prop):guardK (.av (.lit (.bool true))) true A B=A:=by simp [guardK]
theorem guardK_tf (A B:Prop):guardK (.av (.lit (.bool true))) false A B=B:=by simp [guardK]
theorem guardK_ft (A B:Prop):guardK (.av (.lit (.bool false))) true A B=B:=by simp [guardK]
theorem guardK_ff (A B:Prop):guardK (.av (.lit (.bool false))) false A B=A:=by simp [guardK]
theorem guardK_skip (want:Bool) (A B:Prop):guardK .skip want A B=B:=by simp [guardK]
def tupK (v:TV) (k:List AV→Prop):Prop:=∃vs,v=.av (.tup vs)∧k vs
theorem tupK_tup (vs:List AV) (k:List AV→Prop):tupK (.av (.tup vs)) k=k vs:=propext ⟨fun ⟨t',h,hk⟩=>by cases h;exact hk,fun h=>⟨vs,rfl,h⟩⟩
def fieldK (i:TI) (f:Nat) (k:Nat→TypeId→Prop):Prop:=∃fs o n ft,i.kind=.strct fs∧fs[f]? = some (o,n,ft)∧k o ft
theorem fieldK_strct (fs:List (Nat × Nat × TypeId)) (z:List AV) (b f:Nat) (k:Nat→TypeId→Prop):fieldK ⟨.strct fs,z,b⟩ f k=onSome fs[f]? (fun q=>k q.1 q.2.2):=propext ⟨fun ⟨fs',o,n,ft,h,h1,hk⟩=>by cases h;exact ⟨_,h1,hk⟩,fun ⟨q,h1,hk⟩=>⟨fs,q.1,q.2.1,q.2.2,rfl,h1,hk⟩⟩
def strctK (i:TI) (k:List (Nat × Nat × TypeId)→Prop):Prop:=∃fs,i.kind=.strct fs∧k fs
theorem strctK_strct (fs:List (Nat × Nat × TypeId)) (z:List AV) (b:Nat) (k:List (Nat × Nat × TypeId)→Prop):strctK ⟨.strct fs,z,b⟩ k=k fs:=propext ⟨fun ⟨fs',h,hk⟩=>by cases h;exact hk,fun h=>⟨fs,rfl,h⟩⟩
def slcK (i:TI) (k:TypeId→Nat→Bool→Prop):Prop:=∃e n l,i.kind=.slc e n l∧k e n l
theorem slcK_slc (e n:Nat) (l:Bool) (z:List AV) (b:Nat) (k:TypeId→Nat→Bool→Prop):slcK ⟨.slc e n l,z,b⟩ k=k e n l:=propext ⟨fun ⟨_,_,_,h,hk⟩=>by cases h;exact hk,fun h=>⟨e,n,l,rfl,h⟩⟩
def thenK (C:Ctx) (n:Scr) (b:Code) (K:Exit→AS→Prop):Exit→AS→Prop:=fun e σ=>match e with|.normal=>awp C n b K σ|e=>K e σ
theorem thenK_normal {C:Ctx} {n:Scr} {b:Code} {K:Exit→AS→Prop} {σ:AS}:thenK C n b K .normal σ=awp C n b K σ:=rfl
theorem thenK_ret {C:Ctx} {n:Scr} {b:Code} {K:Exit→AS→Prop} {σ:AS}:thenK C n b K .ret σ=K .ret σ:=rfl
theorem thenK_exit {C:Ctx} {n:Scr} {i:Nat} {b:Code} {K:Exit→AS→Prop} {σ:AS}:thenK C n b K (.exit i) σ=K (.exit i) σ:=rfl
def blockK (id:Nat) (K:Exit→AS→Prop):Exit→AS→Prop:=fun e σ=>match e with|.exit i=>if i=id then K .normal σ else K (.exit i) σ|e=>K e σ
theorem blockK_normal {id:Nat} {K:Exit→AS→Prop} {σ:AS}:blockK id K .normal σ=K .normal σ:=rfl
theorem blockK_ret {id:Nat} {K:Exit→AS→Prop} {σ:AS}:blockK id K .ret σ=K .ret σ:=rfl
theorem blockK_exit {id:Nat} {K:Exit→AS→Prop} {σ:AS}:blockK id K (.exit id) σ=K .normal σ:=by simp [blockK]
abbrev LT:=List (Nat × Option TV)
abbrev LM:=List (Nat × List AV)
abbrev LQ:=List (Nat × OV)
def roundK {α:Type} (L:α→LT) (M:α→LM) (Q:α→LQ) (μ:α→Nat) (x:α) (K:Exit→AS→Prop):Exit→AS→Prop:=fun e σ=>match e with|.normal=>∃x',leL σ (L x') (M x') (Q x')∧μ x'<μ x|e=>K e σ
section
variable {α:Type} {L:α→LT} {M:α→LM} {Q:α→LQ} {μ:α→Nat} {x:α} {K:Exit→AS→Prop} {σ:AS}
theorem roundK_ret:roundK L M Q μ x K .ret σ=K .ret σ:=rfl
theorem roundK_exit {i:Nat}:roundK L M Q μ x K (.exit i) σ=K (.exit i) σ:=rfl
theorem roundK_mk (x':α) (h1:leL σ (L x') (M x') (Q x')) (h2:μ x'<μ x):roundK L M Q μ x K .normal σ:=⟨x',h1,h2⟩
end
def getL (l:LT):Operand→Option TV
 | .tmp t=>ofT l t
 | .const v=>constT v
 | .func f=>some (.av (.fn (.func f) [] []))
 | .global g=>some (.av (.lit (.pointer (some ⟨g,0,none⟩))))
theorem getL_tmp (l:LT) (t:Nat):getL l (.tmp t)=ofT l t:=rfl
theorem getL_int (l:LT) (k:IntKind) (n:Int):getL l (.const (.int k n))=some (.av (.lit (.int k n))):=rfl
theorem getL_bool (l:LT) (b:Bool):getL l (.const (.bool b))=some (.av (.lit (.bool b))):=rfl
theorem getL_str (l:LT) (s:ByteArray):getL l (.const (.string s))=some (.av (.lit (.string s))):=rfl
theorem getL_nil (l:LT):getL l (.const (.slice none 0 0))=some (.av (.lit (.slice none 0 0))):=rfl
theorem getL_nilIface (l:LT):getL l (.const .nilIface)=some (.av (.lit .nilIface)):=rfl
theorem getL_func (l:LT) (f:FuncId):getL l (.func f)=some (.av (.fn (.func f) [] [])):=rfl
theorem ofT_cons_eq (k:Nat) (v:Option TV) (l:LT):ofT ((k,v) :: l) k=v:=by simp [ofT]
theorem ofT_cons_ne {k x:Nat} (h:(x == k)=false) (v:Option TV) (l:LT):ofT ((k,v) :: l) x=ofT l x:=by simp at h;simp [ofT,h]
theorem setT_cons_eq (k:Nat) (u:Option TV) (v:TV) (l:LT):setT ((k,u) :: l) k v=(k,some v) :: l:=by simp [setT]
theorem setT_cons_ne {k t:Nat} (h:(k == t)=false) (u:Option TV) (v:TV) (l:LT):setT ((k,u) :: l) t v=(k,u) :: setT l t v:=by simp at h;simp [setT,h]
theorem setT_nil (t:Nat) (v:TV):setT [] t v=[(t,some v)]:=rfl
theorem ofL_cons_eq {α:Type} (k:Nat) (v:α) (l:List (Nat × α)):ofL ((k,v) :: l) k=some v:=by simp [ofL]
theorem ofL_cons_ne {α:Type} {k x:Nat} (h:(x == k)=false) (v:α) (l:List (Nat × α)):ofL ((k,v) :: l) x=ofL l x:=by simp at h;simp [ofL,h]
theorem setL_cons_eq {α:Type} (k:Nat) (u v:α) (l:List (Nat × α)):setL ((k,u) :: l) k v=(k,v) :: l:=by simp [setL]
theorem setL_cons_ne {α:Type} {k t:Nat} (h:(k == t)=false) (u v:α) (l:List (Nat × α)):setL ((k,u) :: l) t v=(k,u) :: setL l t v:=by simp at h;simp [setL,h]
theorem setL_nil {α:Type} (t:Nat) (v:α):setL [] t v=[(t,v)]:=rfl
theorem delL_nil {α:Type} (t:Nat):delL t ([]:List (Nat × α))=[]:=rfl
theorem delL_cons_eq {α:Type} (k:Nat) (v:α) (l:List (Nat × α)):delL k ((k,v) :: l)=delL k l:=by simp [delL]
theorem prepL_nil (n:Nat) (d:Bool) (bad:List Nat):prepL n d bad []=[]:=rfl
theorem prepL_keep {n k:Nat} (h:k<n) (d:Bool) (bad:List Nat) (v:Option TV) (l:LT):prepL n d bad ((k,v) :: l)=(k,v.bind (staleK d k bad)) :: prepL n d bad l:=by simp [prepL,h]
theorem prepL_drop {n k:Nat} (h:n≤k) (d:Bool) (bad:List Nat) (v:Option TV) (l:LT):prepL n d bad ((k,v) :: l)=prepL n d bad l:=by simp [prepL,Nat.not_lt.2 h]
theorem staleK_av (d:Bool) (x:Nat) (bad:List Nat) (a:AV):staleK d x bad (.av a)=some (.av a):=rfl
theorem staleK_skip (d:Bool) (x:Nat) (bad:List Nat):staleK d x bad .skip=some .skip:=rfl
theorem staleK_osl (d:Bool) (x:Nat) (bad:List Nat) (t k o n:Nat):staleK d x bad (.osl t k o n)=some (.osl t k o n):=rfl
theorem staleK_ref (d:Bool) (x:Nat) (bad:List Nat) (t o:Nat):staleK d x bad (.ref t o)=if bad.contains t || (d && t != x) then none else some (.ref t o):=rfl
theorem badOf_true (os:List Oper):badOf true os=newsOf os ++ (movedOf os ++ keysOf os):=rfl
theorem badOf_false (os:List Oper):badOf false os=newsOf os:=rfl
theorem stale_av (t:Nat) (a:AV):stale t (some (.av a))=some (.av a):=rfl
theorem stale_osl (t s k o n:Nat):stale t (some (.osl s k o n))=some (.osl s k o n):=rfl
theorem stale_ref (t t' o:Nat):stale t (some (.ref t' o))=if t'=t then none else some (.ref t' o):=rfl
theorem staleT_nil (t:Nat):staleT t []=[]:=rfl
theorem staleT_cons (t k:Nat) (v:Option TV) (l:LT):staleT t ((k,v) :: l)=(k,stale t v) :: staleT t l:=rfl
theorem staleO_none (t:Nat):staleO t none=none:=rfl
theorem staleO_av (t:Nat) (a:AV):staleO t (some (.av a))=some (.av a):=rfl
theorem staleO_ref (t s o:Nat):staleO t (some (.ref s o))=some (.ref s o):=rfl
theorem staleO_osl (t s k o n:Nat):staleO t (some (.osl s k o n))=if s=t then none else some (.osl s k o n):=rfl
theorem staleOT_nil (t:Nat):staleOT t []=[]:=rfl
theorem staleOT_cons (t k:Nat) (v:Option TV) (l:LT):staleOT t ((k,v) :: l)=(k,staleO t v) :: staleOT t l:=rfl
def lookL (m:LM) (q:LQ):TV→Option (List AV)
 | .ref t off=>(ofL m t).map (·.drop off)
 | .av (.ptr cs)=>some cs
 | .oref t k i o=>(ofL q t).bind (OV.look k i o)
 | _=>none
theorem lookL_ref (m:LM) (q:LQ) (t off:Nat):lookL m q (.ref t off)=(ofL m t).map (List.drop off):=rfl
theorem ovk_row (e k:Nat) (es:List AV):OV.k (.row e k es)=k:=rfl
theorem ovlen_row (e k:Nat) (es:List AV):OV.len (.row e k es)=es.length:=rfl
theorem ovpart_row (e k off len:Nat) (es:List AV):OV.part off len (.row e k es)=.sl k ((es.drop off).take len):=rfl
theorem takeA_strct (fs:List (Nat × Nat × TypeId)) (z cs:List AV) (b:Nat):takeA ⟨.strct fs,z,b⟩ cs=if z.length≤cs.length then some (.agg (cs.take z.length)) else none:=rfl
theorem takeA_arr (n e k:Nat) (z cs:List AV) (b:Nat):takeA ⟨.arr n e k,z,b⟩ cs=if z.length≤cs.length then some (.agg (cs.take z.length)) else none:=rfl
theorem takeA_scal (z cs:List AV) (b:Nat):takeA ⟨.scal,z,b⟩ cs=cs.head?:=rfl
theorem takeA_int (k:IntKind) (z cs:List AV) (b:Nat):takeA ⟨.int k,z,b⟩ cs=cs.head?:=rfl
theorem takeA_str (z cs:List AV) (b:Nat):takeA ⟨.str,z,b⟩ cs=cs.head?:=rfl
theorem takeA_slc (e k:Nat) (l:Bool) (z cs:List AV) (b:Nat):takeA ⟨.slc e k l,z,b⟩ cs=cs.head?:=rfl
def offV (o:Nat):TV→Option TV
 | .ref t off=>some (.ref t (off+o))
 | .av (.ptr cs)=>some (.av (.ptr (cs.drop o)))
 | .oref t k i q=>some (.oref t k i (q+o))
 | _=>none
theorem offV_ref (o t off:Nat):offV o (.ref t off)=some (.ref t (off+o)):=rfl
theorem offV_ptr (o:Nat) (cs:List AV):offV o (.av (.ptr cs))=some (.av (.ptr (cs.drop o))):=rfl
def argK (T:TyTab) (q:LQ) (ty:TypeId) (v:TV) (k:AV→List Nat→Prop):Prop:=(∃a,v=.av a∧k (normA T ty a) [])∨∃t kk off len ov,v=.osl t kk off len∧ofL q t=some ov∧ov.k=kk∧off+len≤ov.len∧k (ov.part off len) [t]
theorem argK_av {T:TyTab} {q:LQ} {ty:TypeId} {a:AV} {k:AV→List Nat→Prop}:argK T q ty (.av a) k=k (normA T ty a) []:=by simp [argK]
theorem argK_osl {T:TyTab} {q:LQ} {ty:TypeId} {t kk off len:Nat} {k:AV→List Nat→Prop}:argK T q ty (.osl t kk off len) k=onSome (ofL q t) (fun ov=>ov.k=kk∧off+len≤ov.len∧k (ov.part off len) [t]):=by
 simp only [argK,onSome]
 apply propext
 constructor
 ·rintro (⟨a,h,_⟩|⟨t',kk',off',len',ov,h1,h2,h3,h4,h5⟩)
  ·cases h
  ·cases h1;exact ⟨ov,h2,h3,h4,h5⟩
 ·rintro ⟨ov,h2,h3,h4,h5⟩
  exact .inr ⟨t,kk,off,len,ov,rfl,h2,h3,h4,h5⟩
section
variable {C:Ctx} {dr:Bool} {ops:Array Oper} {os:List Oper} {l:LT} {m:LM} {q:LQ} {K:AS→Prop} {ty:TypeId} {p:String} {af:Array Edge} {t:Nat} {d:Option Nat}
theorem get_of (x:Operand):AS.get ⟨ofT l,ofL m,ofL q⟩ x=getL l x:=by cases x <;> rfl
theorem argV_of (T:TyTab) (x:Operand) (y:AV):AS.argV T ⟨ofT l,ofL m,ofL q⟩ ty x=some y ↔ ∃v,getL l x=some v∧argK T q ty v (fun a us=>a=y∧AS.usedV ⟨ofT l,ofL m,ofL q⟩ x=us):=by
 simp only [AS.argV,get_of,Option.bind_eq_some_iff,AS.usedV]
 constructor
 ·rintro ⟨v,h1,h2⟩
  refine ⟨v,h1,?_⟩
  rw [h1]
  cases v with
  | av a=>simp only [AS.argT]at h2;cases h2;exact .inl ⟨a,rfl,rfl,rfl⟩
  | osl s kk off len =>
   simp only [AS.argT]at h2
   split at h2
   ·rename_i ov hov
    split at h2
    ·rename_i hc
     cases h2
     exact .inr ⟨s,kk,off,len,ov,rfl,hov,hc.1,hc.2,rfl,rfl⟩
    ·cases h2
   ·cases h2
  | _=>simp [AS.argT]at h2
 ·rintro ⟨v,h1,h2⟩
  refine ⟨v,h1,?_⟩
  rcases h2 with ⟨a,rfl,rfl,_⟩|⟨s,kk,off,len,ov,rfl,h3,h4,h5,rfl,_⟩
  ·rfl
  ·simp only [AS.argT,h3]
   rw [if_pos ⟨h4,h5⟩]
theorem argV_k (T:TyTab) (x:Operand) (R:AV→List Nat→Prop):(∃y,AS.argV T ⟨ofT l,ofL m,ofL q⟩ ty x=some y∧R y (AS.usedV ⟨ofT l,ofL m,ofL q⟩ x))=onSome (getL l x) (fun v=>argK T q ty v R):=by
 apply propext
 simp only [argV_of,onSome]
 constructor
 ·rintro ⟨y,⟨v,h1,h2⟩,h3⟩
  refine ⟨v,h1,?_⟩
  rcases h2 with ⟨a,rfl,rfl,h4⟩|⟨s,kk,off,len,ov,rfl,h5,h6,h7,rfl,h4⟩
  ·rw [h4]at h3;exact .inl ⟨a,rfl,h3⟩
  ·rw [h4]at h3;exact .inr ⟨s,kk,off,len,ov,rfl,h5,h6,h7,h3⟩
 ·rintro ⟨v,h1,h2⟩
  rcases h2 with ⟨a,rfl,h3⟩|⟨s,kk,off,len,ov,rfl,h5,h6,h7,h3⟩
  ·refine ⟨_,⟨_,h1,.inl ⟨a,rfl,rfl,?_⟩⟩,?_⟩
   ·simp only [AS.usedV,get_of,h1];rfl
   ·have:AS.usedV ⟨ofT l,ofL m,ofL q⟩ x=[]:=by simp only [AS.usedV,get_of,h1];rfl
    rw [this];exact h3
  ·have:AS.usedV ⟨ofT l,ofL m,ofL q⟩ x=[s]:=by simp only [AS.usedV,get_of,h1];rfl
   exact ⟨_,⟨_,h1,.inr ⟨s,kk,off,len,ov,rfl,h5,h6,h7,rfl,this⟩⟩,by rw [this];exact h3⟩
def argsK (T:TyTab) (l:LT) (q:LQ):List Operand→List TypeId→(List AV→List Nat→Prop)→Prop
 | [],_,k=>k [] []
 | x :: xs,tys,k=>onSome (getL l x) (fun v=>argK T q (tys.headD 0) v (fun a us=>argsK T l q xs tys.tail (fun as' us'=>k (a :: as') (us ++ us'))))
theorem argsK_nil (T:TyTab) (tys:List TypeId) (k:List AV→List Nat→Prop):argsK T l q [] tys k=k [] []:=rfl
theorem argsK_cons (T:TyTab) (x:Operand) (xs:List Operand) (tys:List TypeId) (k:List AV→List Nat→Prop):argsK T l q (x :: xs) tys k=onSome (getL l x) (fun v=>argK T q (tys.headD 0) v (fun a us=>argsK T l q xs tys.tail (fun as' us'=>k (a :: as') (us ++ us')))):=rfl
theorem args_k (T:TyTab):∀(xs:List Operand) (tys:List TypeId) (R:List AV→List Nat→Prop),(∃as',AS.args T ⟨ofT l,ofL m,ofL q⟩ xs tys=some as'∧R as' (AS.usedL ⟨ofT l,ofL m,ofL q⟩ xs))=argsK T l q xs tys R
 | [],tys,R=>by simp [AS.args,AS.usedL,argsK]
 | x :: xs,tys,R=>by
  rw [argsK_cons,←argV_k (m:=m)]
  apply propext
  constructor
  ·rintro ⟨as',h1,h2⟩
   simp only [AS.args]at h1
   split at h1
   ·rename_i a ha
    simp only [Option.map_eq_some_iff]at h1
    obtain ⟨r,h3,rfl⟩:=h1
    refine ⟨a,ha,?_⟩
    rw [←args_k T xs tys.tail]
    exact ⟨r,h3,h2⟩
   ·cases h1
  ·rintro ⟨y,h1,h2⟩
   rw [←args_k T xs tys.tail]at h2
   obtain ⟨r,h3,h4⟩:=h2
   refine ⟨y :: r,?_,h4⟩
   simp only [AS.args,h1,h3,Option.map_some]
def fillK (T:TyTab) (l:LT) (q:LQ) (fs:List (Nat × Nat × TypeId)):List AV→List (Nat × Operand)→(List AV→List Nat→Prop)→Prop
 | cs,[],k=>k cs []
 | cs,(f,x) :: rest,k=>onSome fs[f]? (fun r=>onSome (getL l x) (fun v=>argK T q r.2.2 v (fun a us=>a.cells.length=r.2.1∧r.1+r.2.1≤cs.length∧fillK T l q fs (splice cs r.1 a.cells) rest (fun cs' us'=>k cs' (us ++ us')))))
theorem fillK_nil (T:TyTab) (fs:List (Nat × Nat × TypeId)) (cs:List AV) (k:List AV→List Nat→Prop):fillK T l q fs cs [] k=k cs []:=rfl
theorem fillK_cons (T:TyTab) (fs:List (Nat × Nat × TypeId)) (cs:List AV) (f:Nat) (x:Operand) (rest:List (Nat × Operand)) (k:List AV→List Nat→Prop):fillK T l q fs cs ((f,x) :: rest) k=onSome fs[f]? (fun r=>onSome (getL l x) (fun v=>argK T q r.2.2 v (fun a us=>a.cells.length=r.2.1∧r.1+r.2.1≤cs.length∧fillK T l q fs (splice cs r.1 a.cells) rest (fun cs' us'=>k cs' (us ++ us'))))):=rfl
theorem fill_k (T:TyTab) (fs:List (Nat × Nat × TypeId)):∀(parts:List (Nat × Operand)) (cs:List AV) (R:List AV→List Nat→Prop),(∃cs',fillV T ⟨ofT l,ofL m,ofL q⟩ fs cs parts=some cs'∧R cs' (AS.usedL ⟨ofT l,ofL m,ofL q⟩ (parts.map (·.2))))=fillK T l q fs cs parts R
 | [],cs,R=>by simp [fillV,AS.usedL,fillK]
 | (f,x) :: rest,cs,R=>by
  rw [fillK_cons]
  cases hf:fs[f]? with
  | none=>simp [fillV,hf,onSome]
  | some r =>
   obtain ⟨o,n,ft⟩:=r
   rw [onSome_some,←argV_k (m:=m)]
   apply propext
   constructor
   ·rintro ⟨cs',h1,h2⟩
    simp only [fillV,hf]at h1
    split at h1
    ·rename_i a ha
     split at h1
     ·rename_i hc
      refine ⟨a,ha,hc.1,hc.2,?_⟩
      rw [←fill_k T fs rest]
      exact ⟨cs',h1,h2⟩
     ·cases h1
    ·cases h1
   ·rintro ⟨a,ha,h1,h2,h3⟩
    rw [←fill_k T fs rest]at h3
    obtain ⟨cs',h4,h5⟩:=h3
    refine ⟨cs',?_,h5⟩
    simp only [fillV,hf,ha]
    rw [if_pos ⟨h1,h2⟩]
    exact h4
theorem arun_one {o:Oper} (hg:o.guard=none) {σ:AS}:arun C dr ops (o :: os) σ K=astep C dr o σ (fun σ'=>arun C dr ops os σ' K):=by
 simp [arun,astepG,wantedA,hg]
theorem arun_val {op:Op} (h:∀σ k,astep C dr ⟨d,op,ty,p,af,none⟩ σ k=∃v,aval C σ ⟨d,op,ty,p,af,none⟩ v∧k (σ.put d v)) {σ:AS}:arun C dr ops (⟨d,op,ty,p,af,none⟩ :: os) σ K=∃v,aval C σ ⟨d,op,ty,p,af,none⟩ v∧arun C dr ops os (σ.put d v) K:=by
 rw [arun_one rfl,h]
theorem arun_nil:arun C dr ops [] ⟨ofT l,ofL m,ofL q⟩ K=K ⟨ofT l,ofL m,ofL q⟩:=rfl
def guardA (C:Ctx) (dr:Bool) (ops:Array Oper) (os:List Oper) (l:LT) (m:LM) (q:LQ) (d:Option Nat) (op:Op) (ty:TypeId) (p:String) (af:Array Edge) (w:Bool) (v:TV) (K:AS→Prop):Prop :=
 guardK v w (arun C dr ops (⟨d,op,ty,p,af,none⟩ :: os) ⟨ofT l,ofL m,ofL q⟩ K) (arun C dr ops os (AS.put ⟨ofT l,ofL m,ofL q⟩ d .skip) K)
theorem guardA_tt {op:Op}:guardA C dr ops os l m q d op ty p af true (.av (.lit (.bool true))) K=arun C dr ops (⟨d,op,ty,p,af,none⟩ :: os) ⟨ofT l,ofL m,ofL q⟩ K:=guardK_tt _ _
theorem guardA_ff {op:Op}:guardA C dr ops os l m q d op ty p af false (.av (.lit (.bool false))) K=arun C dr ops (⟨d,op,ty,p,af,none⟩ :: os) ⟨ofT l,ofL m,ofL q⟩ K:=guardK_ff _ _
theorem guardA_tf {op:Op}:guardA C dr ops os l m q (some t) op ty p af false (.av (.lit (.bool true))) K=arun C dr ops os ⟨ofT (setT l t .skip),ofL m,ofL q⟩ K:=by rw [←put_of];exact guardK_tf _ _
theorem guardA_ft {op:Op}:guardA C dr ops os l m q (some t) op ty p af true (.av (.lit (.bool false))) K=arun C dr ops os ⟨ofT (setT l t .skip),ofL m,ofL q⟩ K:=by rw [←put_of];exact guardK_ft _ _
theorem guardA_skip {op:Op} {w:Bool}:guardA C dr ops os l m q (some t) op ty p af w .skip K=arun C dr ops os ⟨ofT (setT l t .skip),ofL m,ofL q⟩ K:=by rw [←put_of];exact guardK_skip _ _ _
theorem arun_guard {op:Op} {j:Nat} {w:Bool}:arun C dr ops (⟨d,op,ty,p,af,some (j,w)⟩ :: os) ⟨ofT l,ofL m,ofL q⟩ K=onSome ((ops[j]?).bind (fun o=>o.dst)) (fun g=>onSome (ofT l g) (fun v=>guardA C dr ops os l m q d op ty p af w v K)):=by
 have hs:∀k,astep C dr ⟨d,op,ty,p,af,some (j,w)⟩ ⟨ofT l,ofL m,ofL q⟩ k=astep C dr ⟨d,op,ty,p,af,none⟩ ⟨ofT l,ofL m,ofL q⟩ k:=fun k=>rfl
 unfold guardA
 cases hg:(ops[j]?).bind (fun o=>o.dst)with
 | none=>simp [arun,astepG,wantedA,hg,onSome]
 | some g =>
  rw [onSome_some]
  simp only [arun,astepG,wantedA,hg,hs,onSome]
  cases hv:ofT l g with
  | none=>simp
  | some v =>
   cases v with
   | av a =>
    cases a with
    | lit u =>
     cases u with
     | bool b =>
      simp only [Option.some.injEq,exists_eq_left',guardK_bool]
      cases b <;> cases w <;> simp
     | _=>simp [guardK]
    | _=>simp [guardK]
   | skip=>simp [guardK]
   | _=>simp [guardK]
theorem arun_move (x:Operand):arun C dr ops (⟨some t,.move x,ty,p,af,none⟩ :: os) ⟨ofT l,ofL m,ofL q⟩ K=onSome (getL l x) (fun v=>arun C dr ops os ⟨ofT (setT l t v),ofL m,ofL q⟩ K):=by
 rw [arun_val fun _ _=>rfl]
 simp only [aval,get_of,put_of,onSome]
theorem arun_assign (x:Operand):arun C dr ops (⟨some t,.assign x,ty,p,af,none⟩ :: os) ⟨ofT l,ofL m,ofL q⟩ K=onSome (getL l x) (fun v=>arun C dr ops os ⟨ofT (setT l t v),ofL m,ofL q⟩ K):=by
 rw [arun_val fun _ _=>rfl]
 simp only [aval,get_of,put_of,onSome]
theorem arun_pick (c x y:Operand):arun C dr ops (⟨some t,.pick c x y,ty,p,af,none⟩ :: os) ⟨ofT l,ofL m,ofL q⟩ K=onSome (getL l c) (fun v=>condK v (onSome (getL l x) (fun v=>arun C dr ops os ⟨ofT (setT l t v),ofL m,ofL q⟩ K)) (onSome (getL l y) (fun v=>arun C dr ops os ⟨ofT (setT l t v),ofL m,ofL q⟩ K))):=by
 rw [arun_val fun _ _=>rfl]
 simp only [aval,get_of,put_of,onSome,condK]
 apply propext
 constructor
 ·rintro ⟨v,⟨b,h1,h2⟩,h3⟩
  refine ⟨_,h1,b,rfl,fun hb=>?_,fun hb=>?_⟩
  ·subst hb;exact ⟨v,h2,h3⟩
  ·subst hb;exact ⟨v,h2,h3⟩
 ·rintro ⟨v,h1,b,rfl,h2,h3⟩
  cases b with
  | true=>obtain ⟨u,h4,h5⟩:=h2 rfl;exact ⟨u,⟨true,h1,h4⟩,h5⟩
  | false=>obtain ⟨u,h4,h5⟩:=h3 rfl;exact ⟨u,⟨false,h1,h4⟩,h5⟩
theorem look_of (v:TV):AS.look ⟨ofT l,ofL m,ofL q⟩ (some v)=lookL m q v:=by
 cases v with
 | av a=>cases a <;> rfl
 | _=>rfl
def lookG (m:LM) (q:LQ):TV→Option (List AV)
 | .av (.lit (.pointer (some ⟨g,off,none⟩)))=>(globT g).map fun cs=>(cs.drop off).map AV.lit
 | x=>lookL m q x
theorem lookG_ref (m:LM) (q:LQ) (t off:Nat):lookG m q (.ref t off)=(ofL m t).map (List.drop off):=rfl
theorem lookG_ptr (m:LM) (q:LQ) (cs:List AV):lookG m q (.av (.ptr cs))=some cs:=rfl
theorem lookG_of (v:TV):AS.lookG ⟨ofT l,ofL m,ofL q⟩ (some v)=lookG m q v:=by
 unfold AS.lookG lookG
 split
 ·rename_i heq;cases heq;rfl
 ·rename_i h1
  split
  ·exact absurd rfl (h1 _ _)
  ·exact look_of v
theorem arun_load (ty':TypeId) (x:Operand):arun C dr ops (⟨some t,.load ty' x,ty,p,af,none⟩ :: os) ⟨ofT l,ofL m,ofL q⟩ K=onSome (getL l x) (fun v=>onSome (lookG m q v) (fun cs=>onSome (C.T ty') (fun i=>onSome (takeA i cs) (fun a=>arun C dr ops os ⟨ofT (setT l t (.av a)),ofL m,ofL q⟩ K)))):=by
 rw [arun_val fun _ _=>rfl]
 simp only [aval,get_of,put_of,onSome]
 apply propext
 constructor
 ·rintro ⟨v,⟨i,cs,a,h1,h2,h3,rfl⟩,h4⟩
  cases hx:getL l x with
  | none=>rw [hx]at h2;cases h2
  | some y=>rw [hx,lookG_of]at h2;exact ⟨y,rfl,cs,h2,i,h1,a,h3,h4⟩
 ·rintro ⟨v,h1,cs,h2,i,h3,a,h4,h5⟩
  exact ⟨_,⟨i,cs,a,h3,by rw [h1,lookG_of];exact h2,h4,rfl⟩,h5⟩
theorem offT_some (o:Nat) (v:TV):offT o (some v)=offV o v:=by
 cases v with
 | av a=>cases a <;> rfl
 | _=>rfl
theorem arun_fieldAddr (ty':TypeId) (x:Operand) (f:Nat):arun C dr ops (⟨some t,.fieldAddr ty' x f,ty,p,af,none⟩ :: os) ⟨ofT l,ofL m,ofL q⟩ K=onSome (getL l x) (fun v=>onSome (C.T ty') (fun i=>fieldK i f (fun o _=>onSome (offV o v) (fun v'=>arun C dr ops os ⟨ofT (setT l t v'),ofL m,ofL q⟩ K)))):=by
 rw [arun_val fun _ _=>rfl]
 simp only [aval,get_of,put_of,onSome,fieldK]
 apply propext
 constructor
 ·rintro ⟨v,⟨fs,z,b,o,n,ft,h1,h2,h3⟩,h4⟩
  cases hx:getL l x with
  | none=>rw [hx]at h3;cases h3
  | some y=>rw [hx,offT_some]at h3;exact ⟨y,rfl,_,h1,fs,o,n,ft,rfl,h2,v,h3,h4⟩
 ·rintro ⟨v,h1,⟨k,z,b⟩,h2,fs,o,n,ft,rfl,h3,v',h4,h5⟩
  exact ⟨v',⟨fs,z,b,o,n,ft,h2,h3,by rw [h1,offT_some];exact h4⟩,h5⟩
theorem arun_extract (x:Operand) (i:Nat):arun C dr ops (⟨some t,.extract x i,ty,p,af,none⟩ :: os) ⟨ofT l,ofL m,ofL q⟩ K=onSome (getL l x) (fun v=>tupK v (fun vs=>onSome vs[i]? (fun a=>arun C dr ops os ⟨ofT (setT l t (.av a)),ofL m,ofL q⟩ K))):=by
 rw [arun_val fun _ _=>rfl]
 simp only [aval,get_of,put_of,onSome,tupK]
 apply propext
 constructor
 ·rintro ⟨v,⟨vs,a,h1,h2,rfl⟩,h4⟩
  exact ⟨_,h1,vs,rfl,a,h2,h4⟩
 ·rintro ⟨v,h1,vs,rfl,a,h2,h4⟩
  exact ⟨_,⟨vs,a,h1,h2,rfl⟩,h4⟩
def binK (b:Bool) (op:BinOp) (x y:Value) (k:Value→Prop):Prop:=∃r,binR b op x y r∧k r
theorem arun_binOp (op:BinOp) (xt yt:TypeId) (x y:Operand):arun C dr ops (⟨some t,.binOp op xt x y yt,ty,p,af,none⟩ :: os) ⟨ofT l,ofL m,ofL q⟩ K=onSome (getL l x) (fun v=>onSome (getL l y) (fun u=>litK v (fun a=>litK u (fun b=>binK (isBoolT C.T xt) op a b (fun r=>arun C dr ops os ⟨ofT (setT l t (.av (.lit r))),ofL m,ofL q⟩ K))))):=by
 rw [arun_val fun _ _=>rfl]
 simp only [aval,get_of,put_of,onSome,litK,binK]
 apply propext
 constructor
 ·rintro ⟨v,⟨a,b,r,h1,h2,h3,rfl⟩,h4⟩
  exact ⟨_,h1,_,h2,a,rfl,b,rfl,r,h3,h4⟩
 ·rintro ⟨_,h1,_,h2,a,rfl,b,rfl,r,h3,h4⟩
  exact ⟨_,⟨a,b,r,h1,h2,h3,rfl⟩,h4⟩
def unK (op:UnOp) (x:Value) (k:Value→Prop):Prop:=∃r,unR op x r∧k r
theorem arun_unOp (op:UnOp) (xt:TypeId) (x:Operand):arun C dr ops (⟨some t,.unOp op xt x,ty,p,af,none⟩ :: os) ⟨ofT l,ofL m,ofL q⟩ K=onSome (getL l x) (fun v=>litK v (fun a=>unK op a (fun r=>arun C dr ops os ⟨ofT (setT l t (.av (.lit r))),ofL m,ofL q⟩ K))):=by
 rw [arun_val fun _ _=>rfl]
 simp only [aval,get_of,put_of,onSome,litK,unK]
 apply propext
 constructor
 ·rintro ⟨v,⟨a,r,h1,h2,rfl⟩,h4⟩
  exact ⟨_,h1,a,rfl,r,h2,h4⟩
 ·rintro ⟨_,h1,a,rfl,r,h3,h4⟩
  exact ⟨_,⟨a,r,h1,h3,rfl⟩,h4⟩
def coldL (q:LQ):Bool:=q.all fun p=>!p.2.hot
theorem coldL_all:∀(q:LQ),coldL q=true→∀t ov,ofL q t=some ov→ov.hot=false
 | [],_,t,ov,h=>by cases h
 | (k,v) :: q,h,t,ov,ho=>by
  simp only [coldL,List.all_cons,Bool.and_eq_true]at h
  simp only [ofL]at ho
  split at ho
  ·cases ho;simpa using h.1
  ·exact coldL_all q h.2 t ov ho
def callA (C:Ctx) (dr:Bool) (ops:Array Oper) (os:List Oper) (l:LT) (m:LM) (q:LQ) (d:Option Nat) (f:FuncId) (args:List AV) (us:List Nat) (K:AS→Prop):Prop :=
 ∃r,(ACalls C.t f args r∨ACalls C f args r∧∀t ov,ofL q t=some ov→ov.hot=false)∧(r.flat=true∨(dr=true→us=[]))∧arun C dr ops os ((if r.flat then (⟨ofT l,ofL m,ofL q⟩:AS) else AS.frz ⟨ofT l,ofL m,ofL q⟩ us).put d (.av r)) K
theorem callA_mk {f:FuncId} {args:List AV} {r:AV} (h:ACalls C f args r) (hk:arun C dr ops os ⟨ofT (setT l t (.av r)),ofL m,ofL q⟩ K) (hq:coldL q=true:=by rfl):callA C dr ops os l m q (some t) f args [] K :=
 ⟨r,.inr ⟨h,coldL_all q hq⟩,.inr fun _=>rfl,by rw [frz_nil,ite_self,put_of];exact hk⟩
theorem callA_tt {f:FuncId} {args:List AV} {r:AV} (h:ACalls C.t f args r) (hk:arun C.t dr ops os ⟨ofT (setT l t (.av r)),ofL m,ofL q⟩ K):callA C.t dr ops os l m q (some t) f args [] K :=
 ⟨r,.inl h,.inr fun _=>rfl,by rw [frz_nil,ite_self,put_of];exact hk⟩
theorem callA_t {f:FuncId} {args:List AV} {r:AV} (h:ACalls C.t f args r) (hk:arun C dr ops os ⟨ofT (setT l t (.av r)),ofL m,ofL q⟩ K):callA C dr ops os l m q (some t) f args [] K :=
 ⟨r,.inl h,.inr fun _=>rfl,by rw [frz_nil,ite_self,put_of];exact hk⟩
theorem arun_call (f:FuncId) (args:Array Operand) (tys:Array TypeId):arun C dr ops (⟨d,.call ⟨.value (.func f),args,tys⟩,ty,p,af,none⟩ :: os) ⟨ofT l,ofL m,ofL q⟩ K=argsK C.T l q args.toList tys.toList (fun as' us=>callA C dr ops os l m q d f as' us K):=by
 rw [arun_one rfl,←args_k (m:=m)]
 apply propext
 constructor
 ·rintro ⟨f',pre,post,as',r,h0,h1,h2,h3,h4⟩
  cases h0
  simp only [List.nil_append,List.append_nil]at h2
  exact ⟨as',h1,r,h2,h3,h4⟩
 ·rintro ⟨as',h1,r,h2,h3,h4⟩
  exact ⟨f,[],[],as',r,rfl,h1,by unfold Con;simpa only [List.nil_append,List.append_nil]using h2,h3,h4⟩
def fnK (v:TV) (k:FuncId→List AV→List AV→Prop):Prop:=∃f pre post,v=.av (.fn (.func f) pre post)∧k f pre post
theorem fnK_fn {f:FuncId} {pre post:List AV} {k:FuncId→List AV→List AV→Prop}:fnK (.av (.fn (.func f) pre post)) k=k f pre post:=by
 apply propext
 constructor
 ·rintro ⟨_,_,_,h,h1⟩;cases h;exact h1
 ·intro h;exact ⟨_,_,_,rfl,h⟩
theorem arun_callV (x:Nat) (args:Array Operand) (tys:Array TypeId):arun C dr ops (⟨d,.call ⟨.value (.tmp x),args,tys⟩,ty,p,af,none⟩ :: os) ⟨ofT l,ofL m,ofL q⟩ K=onSome (ofT l x) (fun v=>fnK v (fun f pre post=>argsK C.T l q args.toList tys.toList (fun as' us=>callA C dr ops os l m q d f (pre ++ as' ++ post) us K))):=by
 rw [arun_one rfl]
 simp only [←args_k (m:=m)]
 apply propext
 constructor
 ·rintro ⟨f',pre,post,as',r,h0,h1,h2,h3,h4⟩
  exact ⟨_,h0,f',pre,post,rfl,as',h1,r,h2,h3,h4⟩
 ·rintro ⟨_,h0,f',pre,post,rfl,as',h1,r,h2,h3,h4⟩
  exact ⟨f',pre,post,as',r,h0,h1,h2,h3,h4⟩
def invA (C:Ctx) (t:TypeId) (name:String) (a:AV) (k:FuncId→AV→Prop):Prop:=∃f a',Meth C.P t name a f a'∧k f a'
theorem invA_mk {t:TypeId} {name:String} {a:AV} {k:FuncId→AV→Prop} {f:FuncId} {a':AV} (h:Meth C.P t name a f a') (hk:k f a'):invA C t name a k:=⟨f,a',h,hk⟩
def ifcK (v:TV) (k:TypeId→AV→Prop):Prop:=∃t a,v=.av (.ifc t a)∧k t a
theorem ifcK_ifc {t:TypeId} {a:AV} {k:TypeId→AV→Prop}:ifcK (.av (.ifc t a)) k=k t a:=by
 apply propext
 constructor
 ·rintro ⟨_,_,h,h1⟩;cases h;exact h1
 ·intro h;exact ⟨_,_,rfl,h⟩
theorem arun_invoke (x:Nat) (name:String) (args:Array Operand) (tys:Array TypeId):arun C dr ops (⟨d,.call ⟨.invoke (.tmp x) name,args,tys⟩,ty,p,af,none⟩ :: os) ⟨ofT l,ofL m,ofL q⟩ K=onSome (ofT l x) (fun v=>ifcK v (fun t a=>invA C t name a (fun f a'=>argsK C.T l q args.toList tys.toList (fun as' us=>callA C dr ops os l m q d f (a' :: as') us K)))):=by
 rw [arun_one rfl]
 simp only [←args_k (m:=m)]
 apply propext
 constructor
 ·rintro ⟨f',pre,post,as',r,⟨t,a,a',q1,q2,rfl,rfl⟩,h1,h2,h3,h4⟩
  exact ⟨_,q1,t,a,rfl,f',a',q2,as',h1,r,by rw [List.append_nil]at h2;exact h2,h3,h4⟩
 ·rintro ⟨_,q1,t,a,rfl,f',a',q2,as',h1,r,h2,h3,h4⟩
  exact ⟨f',[a'],[],as',r,⟨t,a,a',q1,q2,rfl,rfl⟩,h1,by rw [List.append_nil];exact h2,h3,h4⟩
theorem arun_alloc (ty':TypeId):arun C dr ops (⟨some t,.alloc ty',ty,p,af,none⟩ :: os) ⟨ofT l,ofL m,ofL q⟩ K=onSome (C.T ty') (fun i=>i.zero.all AV.one=true∧i.zero.all AV.noLimb=true∧arun C dr ops os ⟨ofT (setT (staleT t l) t (.ref t 0)),ofL (setL m t i.zero),ofL q⟩ K):=by
 rw [arun_one rfl]
 simp only [astep,onSome]
 apply propext
 constructor
 ·rintro ⟨t',i,h1,h2,h3,h4,h5⟩
  cases h1
  rw [new_of]at h5
  exact ⟨i,h2,h3,h4,h5⟩
 ·rintro ⟨i,h2,h3,h4,h5⟩
  exact ⟨t,i,rfl,h2,h3,h4,by rw [new_of];exact h5⟩
def boxA (C:Ctx) (dr:Bool) (ops:Array Oper) (os:List Oper) (l:LT) (m:LM) (q:LQ) (t:Nat) (cs:List AV) (us:List Nat) (K:AS→Prop):Prop:=(dr=true→us=[])∧cs.all AV.one=true∧cs.all AV.noLimb=true∧arun C dr ops os ((AS.frz ⟨ofT l,ofL m,ofL q⟩ us).new t cs) K
theorem boxA_nil {cs:List AV}:boxA C dr ops os l m q t cs [] K=(cs.all AV.one=true∧cs.all AV.noLimb=true∧arun C dr ops os ⟨ofT (setT (staleT t l) t (.ref t 0)),ofL (setL m t cs),ofL q⟩ K):=by
 simp only [boxA,frz_nil,new_of];simp
theorem arun_box (ty':TypeId) (x:Operand):arun C dr ops (⟨some t,.box ty' x,ty,p,af,none⟩ :: os) ⟨ofT l,ofL m,ofL q⟩ K=onSome (getL l x) (fun v=>argK C.T q ty' v (fun a us=>boxA C dr ops os l m q t a.cells us K)):=by
 rw [arun_one rfl,←argV_k (m:=m)]
 apply propext
 constructor
 ·rintro ⟨t',y,h1,h2,h3,h4,h5,h6⟩
  cases h1
  exact ⟨y,h2,h3,h4,h5,h6⟩
 ·rintro ⟨y,h2,h3,h4,h5,h6⟩
  exact ⟨t,y,rfl,h2,h3,h4,h5,h6⟩
def storeA (C:Ctx) (dr:Bool) (ops:Array Oper) (os:List Oper) (l:LT) (m:LM) (q:LQ) (v:TV) (z:AV) (us:List Nat) (K:AS→Prop):Prop:=(dr=true→us=[])∧z.cells.all AV.one=true ∧
 (match v with
  | .ref t off=>z.cells.all AV.noLimb=true∧∃cs,ofL m t=some cs∧off+z.cells.length≤cs.length∧arun C dr ops os ((AS.frz ⟨ofT l,ofL m,ofL q⟩ us).setMem t (splice cs off z.cells)) K
  | .oref t k j o=>us.contains t=false∧(match ofL q t with
   | some (.row e k' es)=>k'=k∧z.cells.all AV.noLimb=true∧∃el,es[j]? = some el∧o+z.cells.length≤k∧arun C dr ops os ((AS.frz ⟨ofT l,ofL m,ofL q⟩ us).setOwn t (.row e k (es.set j (mkEl k (splice el.cells o z.cells))))) K
   | some (.limb e ns)=>k=1∧o=0∧j<ns.length∧∃n,z=.lit (.int .u32 n)∧0≤n∧n<4294967296∧arun C dr ops os ((AS.frz ⟨ofT l,ofL m,ofL q⟩ us).setOwn t (.limb e (ns.set j n.toNat))) K
   | _=>False)
  | _=>False)
theorem storeA_ref {off:Nat} {z:AV}:storeA C dr ops os l m q (.ref t off) z [] K=(z.cells.all AV.one=true∧z.cells.all AV.noLimb=true∧onSome (ofL m t) (fun cs=>off+z.cells.length≤cs.length∧arun C dr ops os ⟨ofT l,ofL (setL m t (splice cs off z.cells)),ofL q⟩ K)):=by
 simp only [storeA,frz_nil,setMem_of,onSome];simp
theorem arun_store (ty':TypeId) (x y:Operand):arun C dr ops (⟨none,.store ty' x y,ty,p,af,none⟩ :: os) ⟨ofT l,ofL m,ofL q⟩ K=onSome (getL l x) (fun v=>onSome (getL l y) (fun u=>argK C.T q ty' u (fun z us=>onSome (C.T ty') (fun i=>z.cells.length=i.zero.length∧storeA C dr ops os l m q v z us K)))):=by
 rw [arun_one rfl]
 have key:∀v,onSome (getL l y) (fun u=>argK C.T q ty' u (fun z us=>onSome (C.T ty') (fun i=>z.cells.length=i.zero.length∧storeA C dr ops os l m q v z us K))) ↔ ∃z,AS.argV C.T ⟨ofT l,ofL m,ofL q⟩ ty' y=some z∧onSome (C.T ty') (fun i=>z.cells.length=i.zero.length∧storeA C dr ops os l m q v z (AS.usedV ⟨ofT l,ofL m,ofL q⟩ y) K):=fun v=>by
  rw [argV_k (m:=m) C.T y (fun z us=>onSome (C.T ty') (fun i=>z.cells.length=i.zero.length∧storeA C dr ops os l m q v z us K))]
 apply propext
 constructor
 ·rintro ⟨i,z,h1,h2,h3,h4,h5,h6⟩
  cases hx:getL l x with
  | none=>rw [get_of,hx]at h6;exact h6.elim
  | some v =>
   rw [get_of,hx]at h6
   refine ⟨v,rfl,(key v).2 ⟨z,h2,i,h1,h4,h3,h5,?_⟩⟩
   cases v with
   | ref s off=>exact h6
   | oref s k j o=>exact h6
   | _=>exact h6.elim
 ·rintro ⟨v,hv,h⟩
  obtain ⟨z,h2,i,h1,h4,h3,h5,h6⟩:=(key v).1 h
  refine ⟨i,z,h1,h2,h3,h4,h5,?_⟩
  rw [get_of,hv]
  cases v with
  | ref s off=>exact h6
  | oref s k j o=>exact h6
  | _=>exact h6.elim
end
end Go.Proofs.YtmekiphpjpblpaaGreat
