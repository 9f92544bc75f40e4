import Derived.Test.YtmekiphpjpblpaaGreatEVP
/- Text VQ. -/
set_option linter.unusedSimpArgs false
set_option linter.unusedVariables false
set_option maxHeartbeats 40000000
set_option maxRecDepth 100000
namespace Go.Proofs.YtmekiphpjpblpaaGreat
open Go.RowKit Lim
section
variable {C:Ctx} {dr:Bool} {ops:Array Oper} {os:List Oper} {l:LT} {m:LM} {q:LQ} {K:AS→Prop} {ty:TypeId} {p:String} {af:Array Edge} {t:Nat} {d:Option Nat}
def idxK (i:TI) (v u:TV) (k:TV→Prop):Prop:=∃qq n r,u=.av (.lit (.int qq n))∧0≤n∧idxT i v n.toNat r∧k r
theorem arun_indexAddr (ty':TypeId) (x y:Operand):arun C dr ops (⟨some t,.indexAddr ty' x y,ty,p,af,none⟩ :: os) ⟨ofT l,ofL m,ofL q⟩ K=onSome (getL l x) (fun v=>onSome (getL l y) (fun u=>onSome (C.T ty') (fun i=>idxK i v u (fun r=>arun C dr ops os ⟨ofT (setT l t r),ofL m,ofL q⟩ K)))):=by
 rw [arun_val fun _ _=>rfl]
 simp only [aval,get_of,put_of,onSome,idxK]
 apply propext
 constructor
 ·rintro ⟨v,⟨i,s,qq,n,h1,h2,h3,h4,h5⟩,h6⟩
  exact ⟨_,h2,_,h3,_,h1,qq,n,v,rfl,h4,h5,h6⟩
 ·rintro ⟨_,h2,_,h3,i,h1,qq,n,v,rfl,h4,h5,h6⟩
  exact ⟨v,⟨i,_,qq,n,h1,h2,h3,h4,h5⟩,h6⟩
theorem idxK_lit {i:TI} {v:TV} {qq:IntKind} {n:Int} {K:TV→Prop}:idxK i v (.av (.lit (.int qq n))) K=(0≤n∧∃r,idxT i v n.toNat r∧K r):=by
 simp only [idxK]
 apply propext
 constructor
 ·rintro ⟨q1,n1,r,h1,h2,h3⟩;cases h1;exact ⟨h2,r,h3⟩
 ·rintro ⟨h2,r,h3⟩;exact ⟨qq,n,r,rfl,h2,h3⟩
theorem idxK_sl {e0 k b:Nat} {z:List AV} {lm:Bool} {es:List AV} {qq:IntKind} {n:Int} {K:TV→Prop}:idxK ⟨.slc e0 k lm,z,b⟩ (.av (.sl k es)) (.av (.lit (.int qq n))) K=(0≤n∧onSome es[n.toNat]? (fun e=>K (.av (.ptr e.cells)))):=by
 rw [idxK_lit]
 simp only [idxT,elemA,onSome]
 congr 1
 apply propext
 constructor
 ·rintro ⟨r,⟨e,⟨_,h1⟩,rfl⟩,h2⟩;exact ⟨e,h1,h2⟩
 ·rintro ⟨e,h1,h2⟩;exact ⟨_,⟨e,⟨trivial,h1⟩,rfl⟩,h2⟩
theorem idxK_aref {mm e0 k b s off:Nat} {z:List AV} {qq:IntKind} {n:Int} {K:TV→Prop}:idxK ⟨.arr mm e0 k,z,b⟩ (.ref s off) (.av (.lit (.int qq n))) K=(0≤n∧n.toNat<mm∧K (.ref s (off+n.toNat*k))):=by
 rw [idxK_lit]
 simp only [idxT]
 congr 1
 apply propext
 constructor
 ·rintro ⟨r,⟨h1,rfl⟩,h2⟩;exact ⟨h1,h2⟩
 ·rintro ⟨h1,h2⟩;exact ⟨_,⟨h1,rfl⟩,h2⟩
def strK (v u:TV) (k:UInt8→Prop):Prop:=∃s qq n,v=.av (.lit (.string s))∧u=.av (.lit (.int qq n))∧0≤n∧onSome s.data.toList[n.toNat]? k
def idx2K (C:Ctx) (i:TI) (v u:TV) (k:TV→Prop):Prop:=(i.kind=.str∧strK v u (fun b=>k (.av (.lit (.int .u8 (b.toNat:Nat))))))∨∃m e kk cs q n j a,i.kind=.arr m e kk∧v=.av (.agg cs)∧u=.av (.lit (.int q n))∧0≤n∧n<(m:Int)∧C.T e=some j∧takeA j (cs.drop (n.toNat*kk))=some a∧k (.av a)
theorem idx2K_str {z:List AV} {b:Nat} {v u:TV} {k:TV→Prop}:idx2K C ⟨.str,z,b⟩ v u k=strK v u (fun b=>k (.av (.lit (.int .u8 (b.toNat:Nat))))):=by
 apply propext
 constructor
 ·rintro (⟨_,h⟩|⟨_,_,_,_,_,_,_,_,h,_⟩)
  ·exact h
  ·cases h
 ·exact fun h=>.inl ⟨rfl,h⟩
theorem arun_index (ty':TypeId) (x y:Operand):arun C dr ops (⟨some t,.index ty' x y,ty,p,af,none⟩ :: os) ⟨ofT l,ofL m,ofL q⟩ K=onSome (getL l x) (fun v=>onSome (getL l y) (fun u=>onSome (C.T ty') (fun i=>idx2K C i v u (fun r=>arun C dr ops os ⟨ofT (setT l t r),ofL m,ofL q⟩ K)))):=by
 rw [arun_val fun _ _=>rfl]
 simp only [aval,get_of,put_of,onSome,idx2K,strK]
 apply propext
 constructor
 ·rintro ⟨v,⟨z,y,s,qq,n,b,h1,h2,h3,h4,h5,rfl⟩|⟨m',e,k,z,y,cs,qq,n,i,a,h1,h2,h3,h4,h5,h7,h8,rfl⟩,h6⟩
  ·exact ⟨_,h2,_,h3,_,h1,.inl ⟨rfl,s,qq,n,rfl,rfl,h4,b,h5,h6⟩⟩
  ·exact ⟨_,h2,_,h3,_,h1,.inr ⟨m',e,k,cs,qq,n,i,a,rfl,rfl,rfl,h4,h5,h7,h8,h6⟩⟩
 ·rintro ⟨_,h2,_,h3,⟨kd,z,y⟩,h1,⟨rfl,s,qq,n,rfl,rfl,h4,b,h5,h6⟩|⟨m',e,k,cs,qq,n,i,a,rfl,rfl,rfl,h4,h5,h7,h8,h6⟩⟩
  ·exact ⟨_,.inl ⟨z,y,s,qq,n,b,h1,h2,h3,h4,h5,rfl⟩,h6⟩
  ·exact ⟨_,.inr ⟨m',e,k,z,y,cs,qq,n,i,a,h1,h2,h3,h4,h5,h7,h8,rfl⟩,h6⟩
theorem strK_mk {s:List UInt8} {qq:IntKind} {n:Int} {k:UInt8→Prop}:strK (.av (.lit (.string ⟨s.toArray⟩))) (.av (.lit (.int qq n))) k=(0≤n∧onSome s[n.toNat]? k):=by
 simp only [strK,onSome]
 apply propext
 constructor
 ·rintro ⟨s',q',n',h1,h2,h3,b,h4,h5⟩
  cases h1;cases h2
  exact ⟨h3,b,by simpa using h4,h5⟩
 ·rintro ⟨h3,b,h4,h5⟩
  exact ⟨_,qq,n,rfl,rfl,h3,b,by simpa using h4,h5⟩
def convR (C:Ctx) (q:LQ) (i j:TI) (v:TV) (r:Value):Prop:=match i.kind,j.kind,v with
       | .int _,.int k,.av (.lit (.int _ n))=>r=.int k (k.wrap n)
       | .str,.str,.av (.lit (.string s))=>r=.string s
       | .slc e0 k _,.str,.av (.sl k' es)=>isByteT C.T e0=true∧k=1∧k'=1∧∃l:List UInt8,es=l.map byteA∧r=.string ⟨l.toArray⟩
       | .slc e0 k _,.str,.osl t k' off len=>isByteT C.T e0=true∧k=1∧k'=1∧∃(e:TypeId) (l:List UInt8),ofL q t=some (.row e 1 (l.map byteA))∧off=0∧len=l.length∧r=.string ⟨l.toArray⟩
       | .slc e0 k _,.str,.av (.lit (.slice none 0 0))=>isByteT C.T e0=true∧k=1∧r=.string ⟨#[]⟩
       | _,_,_=>False
def putA (C:Ctx) (dr:Bool) (ops:Array Oper) (os:List Oper) (l:LT) (m:LM) (q:LQ) (t:Nat) (v:TV) (us:List Nat) (K:AS→Prop):Prop:=(dr=true→us=[])∧arun C dr ops os ((AS.frz ⟨ofT l,ofL m,ofL q⟩ us).put (some t) v) K
theorem putA_nil {v:TV}:putA C dr ops os l m q t v [] K=arun C dr ops os ⟨ofT (setT l t v),ofL m,ofL q⟩ K:=by
 simp only [putA,frz_nil,put_of];simp
theorem arun_build (ty':TypeId) (parts:Array (Nat × Operand)):arun C dr ops (⟨some t,.build ty' parts,ty,p,af,none⟩ :: os) ⟨ofT l,ofL m,ofL q⟩ K=onSome (C.T ty') (fun i=>strctK i (fun fs=>fillK C.T l q fs i.zero parts.toList (fun cs us=>putA C dr ops os l m q t (.av (.agg cs)) us K))):=by
 rw [arun_one rfl]
 simp only [onSome,strctK]
 apply propext
 constructor
 ·rintro ⟨fs,z,b,cs,h1,h2,h3,h4⟩
  refine ⟨_,h1,fs,rfl,?_⟩
  rw [←fill_k (m:=m)]
  exact ⟨cs,h2,h3,h4⟩
 ·rintro ⟨⟨k,z,b⟩,h1,fs,rfl,h2⟩
  rw [←fill_k (m:=m)]at h2
  obtain ⟨cs,h2,h3,h4⟩:=h2
  exact ⟨fs,z,b,cs,h1,h2,h3,h4⟩
def optL (l:LT):Option Operand→Option (Option TV)
 | none=>some none
 | some x=>(getL l x).map some
theorem optL_none:optL l none=some none:=rfl
theorem optL_some (x:Operand):optL l (some x)=(getL l x).map some:=rfl
def sliceK (i:TI) (v:TV) (lo hi:Option TV) (k:TV→Prop):Prop:=∃r,(match i.kind,v with
       | .str,.av (.lit (.string s))=>∃l h,sliceR lo hi s.size l h∧r=.av (.lit (.string (s.extract l h)))
       | .slc _ k _,.av (.sl k' es)=>k=k'∧∃l h,sliceR lo hi es.length l h∧r=.av (.sl k ((es.take h).drop l))
       | .slc _ k _,.av (.nat es)=>k=1∧∃l h,sliceR lo hi es.length l h∧r=.av (.nat ((es.take h).drop l))
       | .slc _ k b,.osl t k' off len=>k=k'∧∃l h,sliceR lo hi len l h∧(l<h∧r=.osl t k (off+l) (h-l)∨l=h∧r=.av (if b then .nat [] else .sl k []))
       | .arr n _ k,.av (.ptr cs)=>n*k≤cs.length∧(cs.take (n*k)).all AV.one=true∧∃l h,sliceR lo hi n l h∧r=.av (.sl k (((chunk k n (cs.take (n*k))).take h).drop l))
       | _,_=>False)∧k r
theorem arun_slice (ty':TypeId) (x:Operand) (lo hi:Option Operand):arun C dr ops (⟨some t,.slice ty' x lo hi none,ty,p,af,none⟩ :: os) ⟨ofT l,ofL m,ofL q⟩ K=onSome (getL l x) (fun v=>onSome (optL l lo) (fun lo'=>onSome (optL l hi) (fun hi'=>onSome (C.T ty') (fun i=>sliceK i v lo' hi' (fun r=>arun C dr ops os ⟨ofT (setT l t r),ofL m,ofL q⟩ K))))):=by
 have e:∀x,optGet ⟨ofT l,ofL m,ofL q⟩ x=optL l x:=fun x=>by
  cases x with
  | none=>rfl
  | some y=>simp only [optGet,optL,get_of]
 rw [arun_val fun _ _=>rfl]
 simp only [aval,get_of,put_of,onSome,sliceK,e]
 apply propext
 constructor
 ·rintro ⟨v,⟨i,lo',hi',h1,h2,h3,h4⟩,h6⟩
  split at h4
  ·rename_i s hk hx
   exact ⟨_,hx,lo',h2,hi',h3,i,h1,_,by rw [hk];exact h4,h6⟩
  ·rename_i e0 k lm k' es hk hx
   exact ⟨_,hx,lo',h2,hi',h3,i,h1,_,by rw [hk];exact h4,h6⟩
  ·rename_i e0 k lm es hk hx
   exact ⟨_,hx,lo',h2,hi',h3,i,h1,_,by rw [hk];exact h4,h6⟩
  ·rename_i e0 k b t' k' off len hk hx
   exact ⟨_,hx,lo',h2,hi',h3,i,h1,_,by rw [hk];exact h4,h6⟩
  ·rename_i n e0 k cs hk hx
   exact ⟨_,hx,lo',h2,hi',h3,i,h1,_,by rw [hk];exact h4,h6⟩
  ·exact h4.elim
 ·rintro ⟨v,hx,lo',h2,hi',h3,i,h1,r,h4,h6⟩
  refine ⟨r,⟨i,lo',hi',h1,h2,h3,?_⟩,h6⟩
  rw [hx]
  split at h4
  ·rename_i hk;rw [hk];exact h4
  ·rename_i hk;rw [hk];exact h4
  ·rename_i hk;rw [hk];exact h4
  ·rename_i hk;rw [hk];exact h4
  ·rename_i hk;rw [hk];exact h4
  ·exact h4.elim
def lenK (i:TI) (v:TV) (k:Nat→Prop):Prop:=∃n,(match i.kind,v with
       | .str,.av (.lit (.string s))=>n=s.size
       | .slc _ _ _,s=>lenT s=some n
       | _,_=>False)∧k n
theorem lenK_str {z:List AV} {b:Nat} {s:ByteArray} {k:Nat→Prop}:lenK ⟨.str,z,b⟩ (.av (.lit (.string s))) k=k s.size:=by simp [lenK]
theorem lenK_sl {z:List AV} {e0 kk b:Nat} {lm:Bool} {n:Nat} {es:List AV} {k:Nat→Prop}:lenK ⟨.slc e0 kk lm,z,b⟩ (.av (.sl n es)) k=k es.length:=by simp [lenK,lenT,lenA]
theorem arun_len (x:Operand) (ty':TypeId):arun C dr ops (⟨some t,.call ⟨.builtin .len,#[x],#[ty']⟩,ty,p,af,none⟩ :: os) ⟨ofT l,ofL m,ofL q⟩ K=onSome (getL l x) (fun v=>onSome (C.T ty') (fun i=>lenK i v (fun n=>arun C dr ops os ⟨ofT (setT l t (.av (.lit (.int .i64 (n:Nat))))),ofL m,ofL q⟩ K))):=by
 rw [arun_val fun _ _=>rfl]
 simp only [aval,get_of,put_of,onSome,lenK]
 apply propext
 constructor
 ·rintro ⟨v,⟨x',ty2,i,h1,h2,h3,h4⟩,h6⟩
  simp only [Array.mk.injEq,List.cons.injEq,and_true]at h1 h2
  subst h1 h2
  split at h4
  ·rename_i s hk hx
   subst h4
   exact ⟨_,hx,i,h3,_,by rw [hk],h6⟩
  ·rename_i e0 k lm s hk hx
   obtain ⟨n,h5,rfl⟩:=h4
   exact ⟨_,hx,i,h3,n,by rw [hk];exact h5,h6⟩
  ·exact h4.elim
 ·rintro ⟨v,hx,i,h3,n,h4,h6⟩
  refine ⟨_,⟨x,ty',i,rfl,rfl,h3,?_⟩,h6⟩
  rw [hx]
  split at h4
  ·rename_i hk;rw [hk,h4]
  ·rename_i hk;rw [hk];exact ⟨n,h4,rfl⟩
  ·exact h4.elim
theorem mkEl_one (c:AV) (l:List AV):mkEl 1 (c :: l)=c:=rfl
theorem mkEl_big (k:Nat) (l:List AV) (h:(k == 1)=false):mkEl k l=.agg l:=by
 simp at h
 unfold mkEl
 split
 ·exact absurd rfl h
 ·rfl
def rowK (k:Nat) (n:Nat) (lm:Bool) (cs:List AV) (kk:AV→Prop):Prop:=cs.all AV.one=true∧(match lm with|true=>k=1∧∃ns,natsR cs ns∧kk (.nat ns)|false=>kk (.sl k (chunk k n cs)))
theorem rowK_row {k n:Nat} {cs:List AV} {K:AV→Prop}:rowK k n false cs K=(cs.all AV.one=true∧K (.sl k (chunk k n cs))):=rfl
theorem arun_buildSlice (ty':TypeId) (n:Nat) (parts:Array (Nat × Operand)):arun C dr ops (⟨some t,.buildSlice ty' n parts,ty,p,af,none⟩ :: os) ⟨ofT l,ofL m,ofL q⟩ K=onSome (C.T ty') (fun i=>slcK i (fun e k lm=>onSome (C.T e) (fun j=>j.zero.length=k∧0<k∧n*k≤16777216∧fillK C.T l q (places k e n 0) (List.replicate n j.zero).flatten parts.toList (fun cs us=>rowK k n lm cs (fun r=>putA C dr ops os l m q t (.av r) us K))))):=by
 rw [arun_one rfl]
 simp only [onSome,slcK]
 apply propext
 constructor
 ·rintro ⟨e,k,lm,z,b,i,cs,h1,h2,h3,h4,h5,h6,h7,h8,h9⟩
  refine ⟨_,h1,e,k,lm,rfl,i,h2,h3,h4,h5,?_⟩
  rw [←fill_k (m:=m)]
  refine ⟨cs,h6,h7,?_⟩
  cases lm with
  | true=>obtain ⟨g1,ns,g2,g3⟩:=h9;exact ⟨g1,ns,g2,h8,g3⟩
  | false=>exact ⟨h8,h9⟩
 ·rintro ⟨⟨kd,z,b⟩,h1,e,k,lm,rfl,i,h2,h3,h4,h5,h6⟩
  rw [←fill_k (m:=m)]at h6
  obtain ⟨cs,h6,h7,h9⟩:=h6
  cases lm with
  | true=>obtain ⟨g1,ns,g2,g3,g4⟩:=h9;exact ⟨e,k,true,z,b,i,cs,h1,h2,h3,h4,h5,h6,h7,g3,g1,ns,g2,g4⟩
  | false=>exact ⟨e,k,false,z,b,i,cs,h1,h2,h3,h4,h5,h6,h7,h9.1,h9.2⟩
def makeK (l:LT) (q:LQ) (t:Nat) (e k:Nat) (lm:Bool) (i:TI) (n:Nat) (kk:LT→LQ→Prop):Prop:=match lm with
 | true=>k=1∧i.zero=[.lit (.int .u32 0)]∧kk (setT (staleOT t l) t (.osl t 1 0 (List.replicate n 0).length)) (setL q t (.limb e (List.replicate n 0)))
 | false=>i.zero.all AV.one=true∧i.zero.all AV.noLimb=true∧kk (setT (staleOT t l) t (.osl t k 0 (List.replicate n (mkEl k i.zero)).length)) (setL q t (.row e k (List.replicate n (mkEl k i.zero))))
theorem makeK_row {e k n b:Nat} {kd:TK} {z:List AV} {kk:LT→LQ→Prop}:makeK l q t e k false ⟨kd,z,b⟩ n kk=(z.all AV.one=true∧z.all AV.noLimb=true∧kk (setT (staleOT t l) t (.osl t k 0 n)) (setL q t (.row e k (List.replicate n (mkEl k z))))):=by simp [makeK]
theorem arun_makeSlice (ty':TypeId) (x y:Operand):arun C dr ops (⟨some t,.makeSlice ty' x y,ty,p,af,none⟩ :: os) ⟨ofT l,ofL m,ofL q⟩ K=onSome (C.T ty') (fun i=>slcK i (fun e k lm=>onSome (C.T e) (fun j=>onSome (getL l x) (fun u=>onSome (getL l y) (fun v=>intK u (fun n=>intK v (fun c=>j.zero.length=k∧0<k∧0≤n∧n≤c∧c*j.bytes≤140737488355328∧c≤9223372036854775807∧makeK l q t e k lm j n.toNat (fun l' q'=>arun C dr ops os ⟨ofT l',ofL m,ofL q'⟩ K)))))))):=by
 rw [arun_one rfl]
 simp only [onSome,slcK,intK]
 apply propext
 constructor
 ·rintro ⟨t',e,k,lm,z,b,i,q1,q2,n,c,h1,h2,h3,h4,h5,h6,h7,h8,h9,h10,h11,h12⟩
  cases h1
  rw [get_of]at h6 h7
  refine ⟨_,h2,e,k,lm,rfl,i,h3,_,h6,_,h7,q1,n,rfl,q2,c,rfl,h4,h5,h8,h9,h10,h11,?_⟩
  cases lm with
  | true=>obtain ⟨g1,g2,g3⟩:=h12;rw [newOwn_none]at g3;exact ⟨g1,g2,g3⟩
  | false=>obtain ⟨g1,g2,g3⟩:=h12;rw [newOwn_none]at g3;exact ⟨g1,g2,g3⟩
 ·rintro ⟨⟨kd,z,b⟩,h2,e,k,lm,rfl,i,h3,_,h6,_,h7,q1,n,rfl,q2,c,rfl,h4,h5,h8,h9,h10,h11,h12⟩
  refine ⟨t,e,k,lm,z,b,i,q1,q2,n,c,rfl,h2,h3,h4,h5,by rw [get_of];exact h6,by rw [get_of];exact h7,h8,h9,h10,h11,?_⟩
  cases lm with
  | true=>obtain ⟨g1,g2,g3⟩:=h12;refine ⟨g1,g2,?_⟩;show arun C dr ops os _ K;rw [newOwn_none];exact g3
  | false=>obtain ⟨g1,g2,g3⟩:=h12;refine ⟨g1,g2,?_⟩;show arun C dr ops os _ K;rw [newOwn_none];exact g3
def baseK (q:LQ) (e:TypeId) (k:Nat) (lm:Bool) (v:TV) (kk:Option Nat→OV→Prop):Prop:=∃s ov,baseT ⟨fun _=>none,fun _=>none,ofL q⟩ e k lm v=some (s,ov)∧kk s ov
theorem baseK_nilR {e:TypeId} {k:Nat} {kk:Option Nat→OV→Prop}:baseK q e k false (.av (.lit (.slice none 0 0))) kk=kk none (.row e k []):=propext ⟨fun ⟨s,ov,h,hk⟩=>by simp [baseT]at h;obtain ⟨rfl,rfl⟩:=h;exact hk,fun h=>⟨none,_,rfl,h⟩⟩
def baseO (ov:OV) (e:TypeId) (k:Nat) (lm:Bool) (k' off len:Nat) (P:Prop):Prop:=match ov with
 | .row e' k2 es=>e'=e∧k2=k∧k'=k∧off=0∧len=es.length∧lm=false∧P
 | .limb e' l=>e'=e∧k'=1∧k=1∧off=0∧len=l.length∧lm=true∧P
 | .map _ _=>False
theorem baseO_row {e:TypeId} {k len:Nat} {es:List AV} {P:Prop}:baseO (.row e k es) e k false k 0 len P=(len=es.length∧P):=by simp [baseO]
theorem baseK_osl {e:TypeId} {k k' s off len:Nat} {lm:Bool} {kk:Option Nat→OV→Prop}:baseK q e k lm (.osl s k' off len) kk=onSome (ofL q s) (fun ov=>baseO ov e k lm k' off len (kk (some s) ov)):=by
 simp only [baseK,baseT,onSome]
 apply propext
 cases h:ofL q s with
 | none=>simp
 | some ov =>
  cases ov with
  | map kd m=>simp [baseO]
  | row e' k2 es =>
   simp only [Option.some.injEq,exists_eq_left',baseO]
   constructor
   ·rintro ⟨s',ov,h1,h2⟩
    split at h1
    ·rename_i hc;cases h1
     obtain ⟨rfl,rfl,rfl,rfl,rfl,rfl⟩:=hc
     exact ⟨rfl,rfl,rfl,rfl,rfl,rfl,h2⟩
    ·cases h1
   ·rintro ⟨rfl,rfl,rfl,rfl,rfl,rfl,h2⟩
    exact ⟨_,_,by simp,h2⟩
  | limb e' es =>
   simp only [Option.some.injEq,exists_eq_left',baseO]
   constructor
   ·rintro ⟨s',ov,h1,h2⟩
    split at h1
    ·rename_i hc;cases h1
     obtain ⟨rfl,rfl,rfl,rfl,rfl,rfl⟩:=hc
     exact ⟨rfl,rfl,rfl,rfl,rfl,rfl,h2⟩
    ·cases h1
   ·rintro ⟨rfl,rfl,rfl,rfl,rfl,rfl,h2⟩
    exact ⟨_,_,by simp,h2⟩
def appK (l:LT) (q:LQ) (t:Nat) (s:Option Nat) (ov:OV) (y:AV) (by':Nat) (kk:LT→LQ→Prop):Prop:=∃ov',ov.app y=some ov'∧ov.len<ov'.len∧ov'.len*by'≤140737488355328∧ov'.len≤9223372036854775807∧(match s with
 | none=>kk (setT (staleOT t l) t (.osl t ov'.k 0 ov'.len)) (setL q t ov')
 | some s=>kk (setT (staleOT t (staleOT s l)) t (.osl t ov'.k 0 ov'.len)) (setL (delL s q) t ov'))
theorem appK_row {s:Option Nat} {e k k' by':Nat} {es ys:List AV} {kk:LT→LQ→Prop}:appK l q t s (.row e k es) (.sl k' ys) by' kk=(k'=k∧ys.all (fun y=>y.cells.all AV.one && y.cells.all AV.noLimb)=true∧0<ys.length∧(es.length+ys.length)*by'≤140737488355328∧es.length+ys.length≤9223372036854775807∧(match s with
 | none=>kk (setT (staleOT t l) t (.osl t k 0 (es.length+ys.length))) (setL q t (.row e k (es ++ ys)))
 | some s=>kk (setT (staleOT t (staleOT s l)) t (.osl t k 0 (es.length+ys.length))) (setL (delL s q) t (.row e k (es ++ ys))))):=by
 simp only [appK,OV.app]
 apply propext
 constructor
 ·rintro ⟨ov',h1,h2,h3,h4,h5⟩
  split at h1
  ·rename_i hc
   cases h1
   simp only [OV.len,OV.k,List.length_append]at h2 h3 h4 h5
   exact ⟨hc.1,hc.2,by omega,h3,h4,h5⟩
  ·cases h1
 ·rintro ⟨h1,h2,h3,h4,h5,h6⟩
  refine ⟨_,if_pos ⟨h1,h2⟩,?_⟩
  simp only [OV.len,OV.k,List.length_append]
  exact ⟨by omega,h4,h5,h6⟩
theorem arun_append (x y:Operand) (ty':TypeId):arun C dr ops (⟨some t,.call ⟨.builtin .append,#[x,y],#[ty',ty']⟩,ty,p,af,none⟩ :: os) ⟨ofT l,ofL m,ofL q⟩ K=onSome (C.T ty') (fun i=>slcK i (fun e k lm=>onSome (C.T e) (fun j=>onSome (getL l x) (fun u=>onSome (getL l y) (fun v=>j.zero.length=k∧0<k∧(lm=false→j.zero.all AV.noLimb=true)∧baseK q e k lm u (fun s ov=>argK C.T q ty' v (fun yv _=>appK l q t s ov yv j.bytes (fun l' q'=>arun C dr ops os ⟨ofT l',ofL m,ofL q'⟩ K)))))))):=by
 rw [arun_one rfl]
 simp only [onSome,slcK]
 have key:∀(R:AV→Prop),(∃v,getL l y=some v∧argK C.T q ty' v (fun yv _=>R yv)) ↔ ∃z,AS.argV C.T ⟨ofT l,ofL m,ofL q⟩ ty' y=some z∧R z:=fun R=>by
  have:=argV_k (l:=l) (m:=m) (q:=q) (ty:=ty') C.T y (fun z _=>R z)
  rw [this];rfl
 apply propext
 constructor
 ·rintro ⟨d,x',y',tya,tyb,e,k,lm,z,b,i,xv,s,ov,yv,ov',h1,h2,h3,h4,h5,h6,h7,h8,h9,h10,h11,h12,h13,h14,h15,h16,h17⟩
  simp only [Array.mk.injEq,List.cons.injEq,and_true]at h2 h3
  obtain ⟨rfl,rfl⟩:=h2
  obtain ⟨rfl,rfl⟩:=h3
  cases h1
  rw [get_of]at h9
  obtain ⟨v,g1,g2⟩:=(key (fun yv=>appK l q t s ov yv i.bytes (fun l' q'=>arun C dr ops os ⟨ofT l',ofL m,ofL q'⟩ K))).2 ⟨yv,h11,ov',h12,h13,h14,h15,by
   cases s with
   | none=>rw [newOwn_none]at h17;exact h17
   | some s=>rw [newOwn_some]at h17;exact h17⟩
  have hb:baseT ⟨fun _=>none,fun _=>none,ofL q⟩ e k lm xv=some (s,ov):=by rw [←h10];cases xv <;> rfl
  exact ⟨_,h5,e,k,lm,rfl,i,h6,_,h9,v,g1,h7,h8,h16,s,ov,hb,g2⟩
 ·rintro ⟨⟨kd,z,b⟩,h5,e,k,lm,rfl,i,h6,xv,h9,v,g1,h7,h8,h16,s,ov,hb,g2⟩
  obtain ⟨yv,h11,ov',h12,h13,h14,h15,h17⟩:=(key (fun yv=>appK l q t s ov yv i.bytes (fun l' q'=>arun C dr ops os ⟨ofT l',ofL m,ofL q'⟩ K))).1 ⟨v,g1,g2⟩
  have hb':baseT ⟨ofT l,ofL m,ofL q⟩ e k lm xv=some (s,ov):=by rw [←hb];cases xv <;> rfl
  refine ⟨t,x,y,ty',ty',e,k,lm,z,b,i,xv,s,ov,yv,ov',rfl,rfl,rfl,rfl,h5,h6,h7,h8,by rw [get_of];exact h9,hb',h11,h12,h13,h14,h15,h16,?_⟩
  cases s with
  | none=>rw [newOwn_none];exact h17
  | some s=>rw [newOwn_some];exact h17
theorem arun_makeInterface (ty':TypeId) (x:Operand):arun C dr ops (⟨some t,.makeInterface ty' x,ty,p,af,none⟩ :: os) ⟨ofT l,ofL m,ofL q⟩ K=onSome (getL l x) (fun v=>onSome (C.T ty') (fun i=>avK v (fun a=>(match i.kind with|.scal=>False|_=>True)∧arun C dr ops os ⟨ofT (setT l t (.av (.ifc ty' (normA C.T ty' a)))),ofL m,ofL q⟩ K))):=by
 rw [arun_val fun _ _=>rfl]
 simp only [aval,get_of,put_of,onSome,avK]
 apply propext
 constructor
 ·rintro ⟨v,⟨i,a,h1,h2,h3,rfl⟩,h4⟩;exact ⟨_,h3,i,h1,a,rfl,h2,h4⟩
 ·rintro ⟨_,h3,i,h1,a,rfl,h2,h4⟩;exact ⟨_,⟨i,a,h1,h2,h3,rfl⟩,h4⟩
def avsK (l:LT):List Operand→(List AV→Prop)→Prop
 | [],k=>k []
 | x :: xs,k=>onSome (getL l x) (fun v=>avK v (fun a=>avsK l xs (fun r=>k (a :: r))))
theorem avsK_nil (k:List AV→Prop):avsK l [] k=k []:=rfl
theorem avsK_cons (x:Operand) (xs:List Operand) (k:List AV→Prop):avsK l (x :: xs) k=onSome (getL l x) (fun v=>avK v (fun a=>avsK l xs (fun r=>k (a :: r)))):=rfl
theorem avs_k:∀(xs:List Operand) (R:List AV→Prop),(∃as',avsL ⟨ofT l,ofL m,ofL q⟩ xs=some as'∧R as') ↔ avsK l xs R
 | [],R=>by simp [avsL,avsK]
 | x :: xs,R=>by
  simp only [avsL,avsK,get_of,onSome,avK]
  constructor
  ·rintro ⟨as',h1,h2⟩
   split at h1
   ·rename_i a r h3 h4
    cases h1
    exact ⟨_,h3,a,rfl,(avs_k xs _).1 ⟨r,h4,h2⟩⟩
   ·cases h1
  ·rintro ⟨_,h3,a,rfl,h4⟩
   obtain ⟨r,h5,h6⟩:=(avs_k xs _).2 h4
   exact ⟨a :: r,by rw [h3,h5],h6⟩
theorem arun_makeFunc (f:Fn) (first captured:Array Operand):arun C dr ops (⟨some t,.makeFunc f first captured,ty,p,af,none⟩ :: os) ⟨ofT l,ofL m,ofL q⟩ K=avsK l first.toList (fun fs=>avsK l captured.toList (fun cs=>arun C dr ops os ⟨ofT (setT l t (.av (.fn f fs cs))),ofL m,ofL q⟩ K)):=by
 rw [arun_val fun _ _=>rfl]
 simp only [aval,put_of]
 apply propext
 rw [←avs_k (m:=m) (q:=q)]
 constructor
 ·rintro ⟨v,⟨fs,cs,h1,h2,rfl⟩,h4⟩;exact ⟨fs,h1,(avs_k (m:=m) (q:=q) _ _).1 ⟨cs,h2,h4⟩⟩
 ·rintro ⟨fs,h1,h2⟩
  obtain ⟨cs,h2,h4⟩:=(avs_k (m:=m) (q:=q) _ _).2 h2
  exact ⟨_,⟨fs,cs,h1,h2,rfl⟩,h4⟩
end
section
variable {C:Ctx} {n:Scr} {K:Exit→AS→Prop} {l:LT} {m:LM} {q:LQ}
theorem awp_seq (a b:Code) {σ:AS}:awp C n (.seq a b) K σ=awp C n a (thenK C n b K) σ:=rfl
theorem awp_skip:awp C n .skip K ⟨ofT l,ofL m,ofL q⟩=K .normal ⟨ofT l,ofL m,ofL q⟩:=rfl
theorem awp_ret:awp C n .ret K ⟨ofT l,ofL m,ofL q⟩=K .ret ⟨ofT l,ofL m,ofL q⟩:=rfl
theorem awp_exit (id:Nat):awp C n (.exit id) K ⟨ofT l,ofL m,ofL q⟩=K (.exit id) ⟨ofT l,ofL m,ofL q⟩:=rfl
theorem awp_block (id:Nat) (c:Code) {σ:AS}:awp C n (.block id c) K σ=awp C n c (blockK id K) σ:=rfl
theorem awp_regionF (n:Nat) (i t:Nat) (fz:List (Nat × Nat)) (id:Nat) (os:List Oper) (d:Bool):awp C ⟨n,(i,t) :: fz,[]⟩ (.region id (List.toArray os) d) K ⟨ofT l,ofL m,ofL q⟩=arun C d (List.toArray os) os ⟨ofT (prepL n d (badOf d os) (frzBL m (fzAt ((i,t) :: fz) id) l)),ofL (delB (fzAt ((i,t) :: fz) id) m),ofL q⟩ (K .normal):=by
 show arun C _ _ _ (prep n _ _ _) _=_
 rw [frzB_of,prep_of]
theorem awp_region (n:Nat) (id:Nat) (os:List Oper) (d:Bool):awp C ⟨n,[],[]⟩ (.region id (List.toArray os) d) K ⟨ofT l,ofL m,ofL q⟩=arun C d (List.toArray os) os ⟨ofT (prepL n d (badOf d os) l),ofL m,ofL q⟩ (K .normal):=by
 show arun C _ _ _ (prep n _ _ _) _=_
 rw [frzB_of,prep_of]
 simp only [fzAt,frzBL_none,delB_nil]
theorem fzAt_nil (id:Nat):fzAt [] id=[]:=rfl
theorem fzAt_cons (i t id:Nat) (fz:List (Nat × Nat)):fzAt ((i,t) :: fz) id=bif i == id then t :: fzAt fz id else fzAt fz id:=rfl
theorem frzBL_nil {ts:List Nat}:frzBL m ts []=[]:=rfl
theorem frzBL_cons {t:Nat} {ts:List Nat} (k:Nat) (v:Option TV):frzBL m (t :: ts) ((k,v) :: l)=(k,v.bind (frzBT (ofL m) (t :: ts))) :: frzBL m (t :: ts) l:=rfl
theorem frzBT_ref {f:Nat→Option (List AV)} {ts:List Nat} (t off:Nat):frzBT f ts (.ref t off)=bif ts.contains t then (f t).map (fun cs=>.av (.ptr (cs.drop off))) else some (.ref t off):=rfl
theorem frzBT_av {f:Nat→Option (List AV)} {ts:List Nat} (a:AV):frzBT f ts (.av a)=some (.av a):=rfl
theorem frzBT_osl {f:Nat→Option (List AV)} {ts:List Nat} (t k o n:Nat):frzBT f ts (.osl t k o n)=some (.osl t k o n):=rfl
theorem delB_done {ts:List Nat}:delB ts []=[]:=rfl
theorem delB_cons {t:Nat} {ts:List Nat} (k:Nat) (v:List AV):delB (t :: ts) ((k,v) :: m)=bif (t :: ts).contains k then delB (t :: ts) m else (k,v) :: delB (t :: ts) m:=rfl
def condA (C:Ctx) (n:Scr) (a b:Code) (l:LT) (m:LM) (q:LQ) (v:TV) (K:Exit→AS→Prop):Prop:=condK v (awp C n a K ⟨ofT l,ofL m,ofL q⟩) (awp C n b K ⟨ofT l,ofL m,ofL q⟩)
theorem condA_true {a b:Code}:condA C n a b l m q (.av (.lit (.bool true))) K=awp C n a K ⟨ofT l,ofL m,ofL q⟩:=condK_true _ _
theorem condA_false {a b:Code}:condA C n a b l m q (.av (.lit (.bool false))) K=awp C n b K ⟨ofT l,ofL m,ofL q⟩:=condK_false _ _
theorem awp_cond (c:Operand) (a b:Code):awp C n (.cond c a b) K ⟨ofT l,ofL m,ofL q⟩=onSome (getL l c) (fun v=>condA C n a b l m q v K):=by
 show (∃t,AS.get _ _=_∧_)=_
 simp only [get_of,onSome,condA,condK]
 apply propext
 constructor
 ·rintro ⟨t,h1,h2⟩;exact ⟨_,h1,t,rfl,h2⟩
 ·rintro ⟨_,h1,t,rfl,h2⟩;exact ⟨t,h1,h2⟩
theorem loop_mk {c:Code} {α:Type} (L:α→LT) (M:α→LM) (Q:α→LQ) (μ:α→Nat) (x:α) {σ:AS} (h0:leL σ (L x) (M x) (Q x)) (h:∀x,awp C n c (roundK L M Q μ x K) ⟨ofT (L x),ofL (M x),ofL (Q x)⟩):awp C n (.loop c) K σ:=awp_loop L M Q μ x h0 h
end
theorem binK_add {b:Bool} {k:IntKind} {x y:Int} {K:Value→Prop}:binK b .add (.int k x) (.int k y) K=K (.int k (k.wrap (x+y))):=by simp [binK,binR]
theorem binK_sub {b:Bool} {k:IntKind} {x y:Int} {K:Value→Prop}:binK b .sub (.int k x) (.int k y) K=K (.int k (k.wrap (x-y))):=by simp [binK,binR]
theorem binK_eql {b:Bool} {k:IntKind} {x y:Int} {K:Value→Prop}:binK b .eql (.int k x) (.int k y) K=K (.bool (x == y)):=by simp [binK,binR]
theorem binK_neq {b:Bool} {k:IntKind} {x y:Int} {K:Value→Prop}:binK b .neq (.int k x) (.int k y) K=K (.bool (x != y)):=by simp [binK,binR]
theorem binK_lss {b:Bool} {k:IntKind} {x y:Int} {K:Value→Prop}:binK b .lss (.int k x) (.int k y) K=K (.bool (decide (x<y))):=by simp [binK,binR]
theorem binK_leq {b:Bool} {k:IntKind} {x y:Int} {K:Value→Prop}:binK b .leq (.int k x) (.int k y) K=K (.bool (decide (x≤y))):=by simp [binK,binR]
theorem binK_gtr {b:Bool} {k:IntKind} {x y:Int} {K:Value→Prop}:binK b .gtr (.int k x) (.int k y) K=K (.bool (decide (y<x))):=by simp [binK,binR]
theorem binK_geq {b:Bool} {k:IntKind} {x y:Int} {K:Value→Prop}:binK b .geq (.int k x) (.int k y) K=K (.bool (decide (y≤x))):=by simp [binK,binR]
theorem binK_sadd {b:Bool} {x y:ByteArray} {K:Value→Prop}:binK b .add (.string x) (.string y) K=(((x.size+y.size:Nat):Int)≤9223372036854775807∧K (.string (x ++ y))):=by simp only [binK,binR];exact propext ⟨fun ⟨r,⟨h1,h2⟩,h3⟩=>⟨h1,h2 ▸ h3⟩,fun ⟨h1,h2⟩=>⟨_,⟨h1,rfl⟩,h2⟩⟩
theorem binK_seql {b:Bool} {x y:ByteArray} {K:Value→Prop}:binK b .eql (.string x) (.string y) K=K (.bool (x.toList == y.toList)):=by simp [binK,binR]
theorem unK_not {b:Bool} {K:Value→Prop}:unK .not (.bool b) K=K (.bool (!b)):=by simp [unK,unR]
theorem start_of (args:List AV):start args=⟨ofT (startL 0 args),ofL [],ofL []⟩:=rfl
theorem startL_nil (k:Nat):startL k []=[]:=rfl
theorem startL_cons (k:Nat) (a:AV) (l:List AV):startL k (a :: l)=(k,some (.av a)) :: startL (k+1) l:=rfl
def resK (C:Ctx) (l:LT) (m:LM) (q:LQ):List ResultVar→List TypeId→(List AV→Prop)→Prop
 | [],_,k=>k []
 | .tmp t :: rs,tys,k=>onSome (ofT l t) (fun v=>argK C.T q (tys.headD 0) v (fun a _=>resK C l m q rs tys.tail (fun r=>k (a :: r))))
 | .cell t ty :: rs,tys,k=>onSome (ofT l t) (fun v=>onSome (lookL m q v) (fun cs=>onSome (C.T ty) (fun i=>onSome (takeA i cs) (fun a=>resK C l m q rs tys.tail (fun r=>k (a :: r))))))
section
variable {C:Ctx} {l:LT} {m:LM} {q:LQ}
theorem argT_k (T:TyTab) (ty:TypeId) (v:TV) (R:AV→Prop):(∃a,AS.argT T ⟨ofT l,ofL m,ofL q⟩ ty v=some a∧R a) ↔ argK T q ty v (fun a _=>R a):=by
 cases v with
 | av a=>simp [AS.argT,argK]
 | osl t k off len =>
  rw [argK_osl]
  simp only [AS.argT,onSome]
  constructor
  ·rintro ⟨a,h1,h2⟩
   split at h1
   ·rename_i ov ho
    split at h1
    ·rename_i hc;cases h1;exact ⟨ov,ho,hc.1,hc.2,h2⟩
    ·cases h1
   ·cases h1
  ·rintro ⟨ov,h1,h2,h3,h4⟩
   exact ⟨_,by rw [h1];simp only;rw [if_pos ⟨h2,h3⟩],h4⟩
 | _=>simp [AS.argT,argK]
theorem res_k:∀(rs:List ResultVar) (tys:List TypeId) (k:List AV→Prop),(∃r,resL C ⟨ofT l,ofL m,ofL q⟩ rs tys=some r∧k r) ↔ resK C l m q rs tys k
 | [],tys,k=>by simp [resL,resK]
 | .tmp t :: rs,tys,k=>by
  simp only [resK,onSome]
  constructor
  ·rintro ⟨r,h,hk⟩
   simp only [resL]at h
   split at h
   ·rename_i a r' h1 h2
    cases h
    simp only [resA,Option.bind_eq_some_iff]at h1
    obtain ⟨v,h3,h4⟩:=h1
    exact ⟨v,h3,(argT_k (m:=m) C.T _ v (fun a=>resK C l m q rs tys.tail (fun r=>k (a :: r)))).1 ⟨a,h4,(res_k rs tys.tail _).1 ⟨r',h2,hk⟩⟩⟩
   ·cases h
  ·rintro ⟨v,h3,h4⟩
   obtain ⟨a,h5,h6⟩:=(argT_k (l:=l) (m:=m) C.T _ v (fun a=>resK C l m q rs tys.tail (fun r=>k (a :: r)))).2 h4
   obtain ⟨r,h7,h8⟩:=(res_k rs tys.tail _).2 h6
   refine ⟨a :: r,?_,h8⟩
   have:resA C ⟨ofT l,ofL m,ofL q⟩ (.tmp t) (tys.headD 0)=some a:=by simp only [resA,h3,Option.bind_some,h5]
   simp only [resL,this,h7]
 | .cell t ty :: rs,tys,k=>by
  simp only [resK,onSome]
  constructor
  ·rintro ⟨r,h,hk⟩
   simp only [resL]at h
   split at h
   ·rename_i a r' h1 h2
    cases h
    simp only [resA]at h1
    split at h1
    ·rename_i i cs h3 h4
     cases hx:ofT l t with
     | none=>rw [hx]at h4;cases h4
     | some y =>
      rw [hx,look_of]at h4
      exact ⟨y,rfl,cs,h4,i,h3,a,h1,(res_k rs tys.tail _).1 ⟨r',h2,hk⟩⟩
    ·cases h1
   ·cases h
  ·rintro ⟨v,h1,cs,h2,i,h5,a,h6,h7⟩
   obtain ⟨r,h3,h4⟩:=(res_k rs tys.tail _).2 h7
   refine ⟨_,?_,h4⟩
   have h8:AS.look ⟨ofT l,ofL m,ofL q⟩ (ofT l t)=some cs:=by rw [h1,look_of];exact h2
   simp only [resL,resA,h3,h5,h8,h6]
theorem resK_nil {tys:List TypeId} {k:List AV→Prop}:resK C l m q [] tys k=k []:=rfl
theorem resK_tmp {t:Nat} {rs:List ResultVar} {tys:List TypeId} {k:List AV→Prop}:resK C l m q (.tmp t :: rs) tys k=onSome (ofT l t) (fun v=>argK C.T q (tys.headD 0) v (fun a _=>resK C l m q rs tys.tail (fun r=>k (a :: r)))):=rfl
theorem resK_cell {t:Nat} {ty:TypeId} {rs:List ResultVar} {tys:List TypeId} {k:List AV→Prop}:resK C l m q (.cell t ty :: rs) tys k=onSome (ofT l t) (fun v=>onSome (lookL m q v) (fun cs=>onSome (C.T ty) (fun i=>onSome (takeA i cs) (fun a=>resK C l m q rs tys.tail (fun r=>k (a :: r)))))):=rfl
def endK (C:Ctx) (rs:List ResultVar) (tys:List TypeId) (r:AV):Exit→AS→Prop:=fun e σ=>(e=.ret∨e=.normal)∧∃l,resL C σ rs tys=some l∧packA l=r
theorem endK_eq {rs:List ResultVar} {tys:List TypeId} {r:AV}:endK C rs tys r .ret ⟨ofT l,ofL m,ofL q⟩=resK C l m q rs tys (fun x=>packA x=r):=by
 apply propext
 rw [←res_k]
 simp [endK]
end
theorem ACalls.of {C : Ctx} {f : FuncId} {fn : Func} {c : Code} {rs : List ResultVar} {tys : List TypeId} {args : List AV} {r : AV} (n : Scr) (hf : C.P.funcs[f]? = some fn) (hb : fn.body = some c) (hrs : fn.results = List.toArray rs) (hrt : fn.resultTypes = List.toArray tys) (hnm : (fn.name == "runtime.NumGoroutine") = false) (hok : codeOK fn.ntmps c = true) (hl : args.length ≤ fn.ntmps)
  (h:awp C n c (endK C rs tys r) (start args)):ACalls C f args r:=by
 refine ACalls.of_awp n hf hb hnm hok hl ?_
 have:endK C rs tys r=retA C fn r:=by
  unfold endK retA
  rw [hrs,hrt]
 rw [←this]
 exact h
theorem normA_sl (T:TyTab) (ty:TypeId) (k:Nat) (l:List AV):normA T ty (.sl k l)=.sl k l:=rfl
theorem normA_agg (T:TyTab) (ty:TypeId) (l:List AV):normA T ty (.agg l)=.agg l:=rfl
theorem normA_ifc (T:TyTab) (ty t:TypeId) (a:AV):normA T ty (.ifc t a)=.ifc t a:=rfl
theorem normA_fn (T:TyTab) (ty:TypeId) (f:Fn) (a b:List AV):normA T ty (.fn f a b)=.fn f a b:=rfl
theorem normA_int (T:TyTab) (ty:TypeId) (k:IntKind) (n:Int):normA T ty (.lit (.int k n))=.lit (.int k n):=rfl
theorem normA_bool (T:TyTab) (ty:TypeId) (b:Bool):normA T ty (.lit (.bool b))=.lit (.bool b):=rfl
theorem normA_str (T:TyTab) (ty:TypeId) (b:ByteArray):normA T ty (.lit (.string b))=.lit (.string b):=rfl
theorem normA_nilI (T:TyTab) (ty:TypeId):normA T ty (.lit .nilIface)=.lit .nilIface:=rfl
theorem normA_nil (T:TyTab) (ty:TypeId):normA T ty (.lit (.slice none 0 0))=(match T ty with|some ⟨.slc _ k l,_,_⟩=>(match l with|true=>.nat []|false=>.sl k [])|_=>.lit (.slice none 0 0)):=rfl
theorem cells_agg (l:List AV):AV.cells (.agg l)=l:=rfl
theorem cells_lit (v:Value):AV.cells (.lit v)=[.lit v]:=rfl
theorem cells_sl (k:Nat) (l:List AV):AV.cells (.sl k l)=[.sl k l]:=rfl
theorem cells_fn (f:Fn) (a b:List AV):AV.cells (.fn f a b)=[.fn f a b]:=rfl
theorem one_lit (v:Value):AV.one (.lit v)=true:=rfl
theorem one_sl (k:Nat) (l:List AV):AV.one (.sl k l)=true:=rfl
theorem one_fn (f:Fn) (a b:List AV):AV.one (.fn f a b)=true:=rfl
theorem noLimb_lit (v:Value):AV.noLimb (.lit v)=Go.Proofs.YtmekiphpjpblpaaGreat.noLimb v:=rfl
theorem noLimb_sl (k:Nat) (l:List AV):AV.noLimb (.sl k l)=true:=rfl
theorem packA_one (a:AV):packA [a]=a:=rfl
theorem packA_two (a b:AV) (l:List AV):packA (a :: b :: l)=.tup (a :: b :: l):=rfl
end Go.Proofs.YtmekiphpjpblpaaGreat
