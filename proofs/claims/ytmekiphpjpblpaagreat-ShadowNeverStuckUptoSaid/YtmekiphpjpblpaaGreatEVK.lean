import Derived.Test.YtmekiphpjpblpaaGreatEVJ
/- Text VK. -/
set_option linter.unusedSimpArgs false
set_option linter.unusedVariables false
set_option maxHeartbeats 40000000
set_option maxRecDepth 100000
namespace Go.Proofs.YtmekiphpjpblpaaGreat
open Go.RowKit Lim
def addrOf (o:Oper):Option Nat:=match o.op with|.load _ (.tmp a)=>some a|.store _ (.tmp a) _=>some a|_=>none
def isStoreB (o:Oper):Bool:=match o.op with|.store ..=>true|_=>false
def isNewB (o:Oper):Bool:=match o.op with|.alloc ..|.box ..=>true|_=>false
def look2:List (Nat × Nat)→Nat→Nat
 | [],x=>x
 | (k,v) :: l,x=>if x=k then v else look2 l x
def clash (rt:Nat→Nat) (x y:Oper):Bool:=match addrOf x,addrOf y with|some a,some b=>rt a == rt b|_,_=>false
def indep (ops:Array Oper) (rt:Nat→Nat) (ix:List Nat) (x y:Oper):Bool:=x.apart ops y && !(clash rt x y && (isStoreB x || isStoreB y)) && !loudB ix x && !loudB ix y
section
variable {C:Ctx} {σ τ:AS} {ops:Array Oper} {o:Oper}
theorem get_congr {x:Operand} {xs:Array Operand} (hx:x∈xs) (h:∀t,Operand.tmp t∈xs→τ.tm t=σ.tm t):τ.get x=σ.get x:=by
 cases x with
 | tmp t=>exact h t hx
 | _=>rfl
theorem argV_congr {T:TyTab} {ty:TypeId} {x:Operand} (h:τ.get x=σ.get x) (ho:τ.own=σ.own):τ.argV T ty x=σ.argV T ty x:=by
 unfold AS.argV
 rw [h]
 cases σ.get x with
 | none=>rfl
 | some v =>
  simp only [Option.bind_some]
  unfold AS.argT
  rw [ho]
theorem usedV_congr {x:Operand} (h:τ.get x=σ.get x):τ.usedV x=σ.usedV x:=by unfold AS.usedV;rw [h]
theorem usedL_congr:∀(xs:List Operand),(∀x∈xs,τ.get x=σ.get x)→τ.usedL xs=σ.usedL xs
 | [],_=>rfl
 | x :: xs,h=>by
  unfold AS.usedL
  rw [usedV_congr (h x (by simp)),usedL_congr xs fun y hy=>h y (by simp [hy])]
theorem avsL_congr:∀(xs:List Operand),(∀x∈xs,τ.get x=σ.get x)→avsL τ xs=avsL σ xs
 | [],_=>rfl
 | x :: xs,h=>by
  unfold avsL
  rw [h x (by simp),avsL_congr xs fun y hy=>h y (by simp [hy])]
theorem fillA_congr {T:TyTab} {fs:List (Nat × Nat × TypeId)}:∀(parts:List (Nat × Operand)) (cs:List AV),(∀p∈parts,τ.get p.2=σ.get p.2)→fillA T τ fs cs parts=fillA T σ fs cs parts
 | [],cs,_=>rfl
 | (f,x) :: rest,cs,h=>by
  have h1:τ.get x=σ.get x:=h (f,x) (by simp)
  unfold fillA
  rw [h1]
  split
  ·split
   ·exact fillA_congr rest _ fun p hp=>h p (by simp [hp])
   ·rfl
  ·rfl
theorem fillV_congr {T:TyTab} {fs:List (Nat × Nat × TypeId)} (ho:τ.own=σ.own):∀(parts:List (Nat × Operand)) (cs:List AV),(∀p∈parts,τ.get p.2=σ.get p.2)→fillV T τ fs cs parts=fillV T σ fs cs parts
 | [],cs,_=>rfl
 | (f,x) :: rest,cs,h=>by
  have h1:τ.get x=σ.get x:=h (f,x) (by simp)
  unfold fillV
  split
  ·rw [argV_congr h1 ho]
   split
   ·split
    ·exact fillV_congr ho rest _ fun p hp=>h p (by simp [hp])
    ·rfl
   ·rfl
  ·rfl
theorem args_congr {T:TyTab} (ho:τ.own=σ.own):∀(xs:List Operand) (tys:List TypeId),(∀x∈xs,τ.get x=σ.get x)→τ.args T xs tys=σ.args T xs tys
 | [],_,_=>rfl
 | x :: xs,tys,h=>by
  unfold AS.args
  rw [argV_congr (h x (by simp)) ho,args_congr ho xs tys.tail fun y hy=>h y (by simp [hy])]
theorem wantedA_congr (h:∀t∈o.looksAt ops,τ.tm t=σ.tm t):wantedA ops τ o=wantedA ops σ o:=by
 unfold wantedA
 cases hg:o.guard with
 | none=>rfl
 | some p =>
  obtain ⟨j,want⟩:=p
  simp only
  cases hj:(ops[j]?).bind (·.dst)with
  | none=>rfl
  | some t =>
   have:τ.tm t=σ.tm t:=h t (by simp [Oper.looksAt,hg,hj])
   simp only [this]
theorem aval_congr {v:TV} (hg:∀x∈o.op.operands,τ.get x=σ.get x) (ho:τ.own=σ.own) (hm:∀a,addrOf o=some a→∀t off,σ.tm a=some (.ref t off)→τ.mem t=σ.mem t) (h:aval C σ o v):aval C τ o v:=by
 obtain ⟨dst,op,type,pos,after,guard⟩:=o
 simp only at hg hm
 cases op with
 | move x=>have:=hg x (by simp [Op.operands]);simp only [aval,this]at h ⊢;exact h
 | assign x=>have:=hg x (by simp [Op.operands]);simp only [aval,this]at h ⊢;exact h
 | pick c x y =>
  have h1:=hg c (by simp [Op.operands])
  have h2:=hg x (by simp [Op.operands])
  have h3:=hg y (by simp [Op.operands])
  obtain ⟨t,q1,q2⟩:=h
  refine ⟨t,by rw [h1];exact q1,?_⟩
  cases t
  ·exact h3.trans q2
  ·exact h2.trans q2
 | load ty x =>
  have h1:=hg x (by simp [Op.operands])
  have h2:τ.lookG (τ.get x)=σ.lookG (σ.get x):=by
   rw [h1]
   cases hx:σ.get x with
   | none=>rfl
   | some y =>
    cases y with
    | ref t off =>
     cases x with
     | tmp a=>simp only [AS.lookG,AS.look];rw [hm a rfl t off hx]
     | const v=>obtain ⟨u,h3,_⟩:=constT_sound hx;cases h3
     | _=>cases hx
    | oref t k i o=>simp only [AS.lookG,AS.look];rw [ho]
    | av b=>cases b <;> first|rfl|(simp only [AS.lookG];split <;> rfl)
    | _=>rfl
  simp only [aval,h2]at h ⊢
  exact h
 | fieldAddr ty x f=>have:=hg x (by simp [Op.operands]);simp only [aval,this]at h ⊢;exact h
 | field ty x f=>have:=hg x (by simp [Op.operands]);simp only [aval,this]at h ⊢;exact h
 | extract x i=>have:=hg x (by simp [Op.operands]);simp only [aval,this]at h ⊢;exact h
 | indexAddr ty x ix =>
  have h1:=hg x (by simp [Op.operands])
  have h2:=hg ix (by simp [Op.operands])
  simp only [aval,h1,h2]at h ⊢;exact h
 | index ty x ix =>
  have h1:=hg x (by simp [Op.operands])
  have h2:=hg ix (by simp [Op.operands])
  simp only [aval,h1,h2]at h ⊢;exact h
 | binOp b ty x y yt =>
  have h1:=hg x (by simp [Op.operands])
  have h2:=hg y (by simp [Op.operands])
  simp only [aval,h1,h2]at h ⊢;exact h
 | unOp b xt x=>have:=hg x (by simp [Op.operands]);simp only [aval,this]at h ⊢;exact h
 | convert src dst x=>have:=hg x (by simp [Op.operands]);simp only [aval,this,ho]at h ⊢;exact h
 | build ty parts =>
  have h1:∀fs z,fillA C.T τ fs z parts.toList=fillA C.T σ fs z parts.toList:=fun fs z=>fillA_congr _ _ fun p hp=>hg p.2 (by simp [Op.operands];exact ⟨p.1,by simpa using hp⟩)
  simp only [aval,h1]at h ⊢;exact h
 | makeInterface ty x=>have:=hg x (by simp [Op.operands]);simp only [aval,this]at h ⊢;exact h
 | makeFunc f first captured =>
  have h1:avsL τ first.toList=avsL σ first.toList:=avsL_congr _ fun x hx=>hg x (by simp [Op.operands];exact .inl (by simpa using hx))
  have h2:avsL τ captured.toList=avsL σ captured.toList:=avsL_congr _ fun x hx=>hg x (by simp [Op.operands];exact .inr (by simpa using hx))
  simp only [aval,h1,h2]at h ⊢;exact h
 | slice ty x lo hi mx =>
  cases mx with
  | some m=>exact h.elim
  | none =>
   have h1:=hg x (by simp [Op.operands])
   have h2:optGet τ lo=optGet σ lo:=by
    cases lo with
    | none=>rfl
    | some y=>simp only [optGet];rw [hg y (by simp [Op.operands])]
   have h3:optGet τ hi=optGet σ hi:=by
    cases hi with
    | none=>rfl
    | some y=>simp only [optGet];rw [hg y (by simp [Op.operands])]
   simp only [aval,h1,h2,h3]at h ⊢;exact h
 | lookup ty x q ok =>
  have h1:=hg x (by simp [Op.operands])
  have h2:=hg q (by simp [Op.operands])
  simp only [aval,h1,h2,ho]at h ⊢;exact h
 | nilCheck x=>have:=hg x (by simp [Op.operands]);simp only [aval,this]at h ⊢;exact h
 | call c =>
  simp only [aval]at h ⊢
  split at h
  ·obtain ⟨x,ty,i,h1,h2,h3,h4⟩:=h
   have:=hg x (by simp [Op.operands,Call.operands,h1])
   exact ⟨x,ty,i,h1,h2,h3,by rw [this];exact h4⟩
  ·obtain ⟨x,y,p,q,r,h1,h2,h3,h4⟩:=h
   have e1:=hg x (by simp [Op.operands,Call.operands,h1])
   have e2:=hg y (by simp [Op.operands,Call.operands,h1])
   exact ⟨x,y,p,q,r,h1,by rw [e1];exact h2,by rw [e2];exact h3,h4⟩
  ·obtain ⟨x,y,p,q,r,h1,h2,h3,h4⟩:=h
   have e1:=hg x (by simp [Op.operands,Call.operands,h1])
   have e2:=hg y (by simp [Op.operands,Call.operands,h1])
   exact ⟨x,y,p,q,r,h1,by rw [e1];exact h2,by rw [e2];exact h3,h4⟩
  ·exact h.elim
 | _=>exact h.elim
theorem looks_get (h:∀t∈o.looksAt ops,τ.tm t=σ.tm t):∀x∈o.op.operands,τ.get x=σ.get x:=fun x hx =>
 get_congr hx fun t ht=>h t (by
  unfold Oper.looksAt
  exact List.mem_append_left _ (List.mem_filterMap.2 ⟨.tmp t,by simpa using ht,rfl⟩))
theorem eff_congr {e:Eff} (hl:∀t∈o.looksAt ops,τ.tm t=σ.tm t) (ho:τ.own=σ.own) (hm:∀a,addrOf o=some a→∀t off,σ.tm a=some (.ref t off)→τ.mem t=σ.mem t) (h:eff C ops o σ e):eff C ops o τ e:=by
 have hg:=looks_get hl
 have hw:=wantedA_congr hl
 rcases h with ⟨h1,h2⟩|⟨h1,h2⟩
 ·refine .inl ⟨hw.trans h1,?_⟩
  clear hw h1 hl
  obtain ⟨dst,op,type,pos,after,guard⟩:=o
  have key:∀v,aval C σ ⟨dst,op,type,pos,after,guard⟩ v→aval C τ ⟨dst,op,type,pos,after,guard⟩ v:=fun v=>aval_congr hg ho hm
  simp only at hg hm
  obtain ⟨h0,h2⟩:=h2
  cases op with
  | alloc ty=>exact ⟨h0,h2⟩
  | box ty x =>
   have q1:=hg x (by simp [Op.operands])
   have q2:∀ty,τ.argV C.T ty x=σ.argV C.T ty x:=fun ty=>argV_congr q1 ho
   have q3:=usedV_congr q1
   obtain ⟨t,y,a1,a2,rfl⟩:=h2
   obtain ⟨t',y',b1,b2,b3,b4,b5,_⟩:=h0
   rw [a2]at b2;cases b2
   exact ⟨⟨t',y,b1,by rw [q2];exact a2,by rw [q3];exact b3,b4,b5,trivial⟩,t,y,a1,by rw [q2];exact a2,rfl⟩
  | store ty x y =>
   have q1:=hg x (by simp [Op.operands])
   have q2:=hg y (by simp [Op.operands])
   obtain ⟨t,off,cs,z,g2,g3,g4,g5⟩:=h2
   have q3:τ.mem t=σ.mem t:=by
    cases x with
    | tmp a=>exact hm a rfl t off g2
    | const v=>obtain ⟨u,h3,_⟩:=constT_sound g2;cases h3
    | _=>cases g2
   obtain ⟨i,z',f1,f4,fu,f5,f6,f7⟩:=h0
   rw [g4]at f4;cases f4
   rw [g2]at f7
   obtain ⟨f8,cs',f9,f10,_⟩:=f7
   rw [g3]at f9;cases f9
   have qa:τ.argV C.T ty y=some z:=(argV_congr q2 ho).trans g4
   refine ⟨⟨i,z,f1,qa,by rw [usedV_congr q2];exact fu,f5,f6,?_⟩,t,off,cs,z,q1.trans g2,q3.trans g3,qa,g5⟩
   rw [q1,g2]
   exact ⟨f8,cs,q3.trans g3,f10,trivial⟩
  | build ty parts =>
   have h1:∀fs z,fillV C.T τ fs z parts.toList=fillV C.T σ fs z parts.toList:=fun fs z=>fillV_congr ho _ _ fun p hp=>hg p.2 (by simp [Op.operands];exact ⟨p.1,by simpa using hp⟩)
   have h3:τ.usedL (parts.toList.map (·.2))=σ.usedL (parts.toList.map (·.2)):=usedL_congr _ fun x hx=>hg x (by
    obtain ⟨p,hp,rfl⟩:=List.mem_map.1 hx
    simp [Op.operands];exact ⟨p.1,by simpa using hp⟩)
   obtain ⟨fs,z,b,cs,a1,a2,rfl⟩:=h2
   obtain ⟨fs',z',b',cs',b1,b2,b3,_⟩:=h0
   exact ⟨⟨fs',z',b',cs',b1,by rw [h1];exact b2,by rw [h3];exact b3,trivial⟩,fs,z,b,cs,a1,by rw [h1];exact a2,rfl⟩
  | buildSlice ty n parts =>
   have h1:∀fs z,fillV C.T τ fs z parts.toList=fillV C.T σ fs z parts.toList:=fun fs z=>fillV_congr ho _ _ fun p hp=>hg p.2 (by simp [Op.operands];exact ⟨p.1,by simpa using hp⟩)
   have h3:τ.usedL (parts.toList.map (·.2))=σ.usedL (parts.toList.map (·.2)):=usedL_congr _ fun x hx=>hg x (by
    obtain ⟨p,hp,rfl⟩:=List.mem_map.1 hx
    simp [Op.operands];exact ⟨p.1,by simpa using hp⟩)
   obtain ⟨e0,k,l,z,b,i,cs,a1,a2,a3,a4⟩:=h2
   obtain ⟨e',k',l',z',b',i',cs',b1,b2,b3,b4,b5,b6,b7,b8,b9⟩:=h0
   refine ⟨⟨e',k',l',z',b',i',cs',b1,b2,b3,b4,b5,by rw [h1];exact b6,b7,by rw [h3];exact b8,?_⟩,e0,k,l,z,b,i,cs,a1,a2,by rw [h1];exact a3,a4⟩
   cases l' with
   | true=>obtain ⟨c1,ns,c2,_⟩:=b9;exact ⟨c1,ns,c2,trivial⟩
   | false=>trivial
  | makeSlice ty x y=>exact h2.elim
  | makeMap ty r=>exact h2.elim
  | mapUpdate ty x q y=>exact h2.elim
  | call c =>
   obtain ⟨callee,cargs,ctys⟩:=c
   have h1:∀tys,τ.args C.T cargs.toList tys=σ.args C.T cargs.toList tys:=fun tys=>args_congr ho _ _ fun x hx=>hg x (by simp [Op.operands,Call.operands];exact .inr (by simpa using hx))
   have h3:τ.usedL cargs.toList=σ.usedL cargs.toList:=usedL_congr _ fun x hx=>hg x (by simp [Op.operands,Call.operands];exact .inr (by simpa using hx))
   dsimp only [eff1,astep]at h0 h2 ⊢
   have hcall:callE C σ dst ⟨callee,cargs,ctys⟩ e→callS C true dst ⟨callee,cargs,ctys⟩ τ (fun _=>True)∧callE C τ dst ⟨callee,cargs,ctys⟩ e:=by
    rintro ⟨f,pre,post,args,r,a0,a1,a2,a3,rfl⟩
    have a2':Con C τ f (pre ++ args ++ post) r:=by unfold Con;rw [ho];exact a2
    have a0':tgt C τ callee f pre post:=by
     cases callee with
     | value x=>show τ.get x=_;rw [hg x (by simp [Op.operands,Call.operands])];exact a0
     | invoke x name =>
      obtain ⟨t,a,a',q1,q2⟩:=a0
      exact ⟨t,a,a',by rw [hg x (by simp [Op.operands,Call.operands])];exact q1,q2⟩
     | builtin b=>exact a0.elim
    refine ⟨⟨f,pre,post,args,r,a0',by rw [h1];exact a1,a2',by rw [h3];exact a3,trivial⟩,f,pre,post,args,r,a0',by rw [h1];exact a1,a2',by rw [h3];exact a3,rfl⟩
   split
   ·exact hcall h2
   ·exact h2.elim
   ·exact h2.elim
   ·exact hcall h2
   ·rename_i n1 n2 n3 n4
    split at h2
    ·exact (n1 _ rfl).elim
    ·exact (n2 rfl).elim
    ·exact (n3 rfl).elim
    ·exact (n4 _ _ rfl).elim
    ·obtain ⟨v,g1,g2⟩:=h2
     exact ⟨⟨v,key v g1,trivial⟩,v,key v g1,g2⟩
  | _ =>
   obtain ⟨v,g1,g2⟩:=h2
   exact ⟨⟨v,key v g1,trivial⟩,v,key v g1,g2⟩
 ·exact .inr ⟨hw.trans h1,h2⟩
def NoRef (σ:AS) (s:Nat):Prop:=∀x off,σ.tm x≠some (.ref s off)
theorem NoRef.get {s:Nat} (h:NoRef σ s) {x:Operand} {off:Nat}:σ.get x≠some (.ref s off):=by
 cases x with
 | tmp t=>exact h t off
 | const v =>
  intro he
  obtain ⟨u,h1,_⟩:=constT_sound he
  cases h1
 | _=>intro he;cases he
theorem aval_addr {v:TV} (hv:aval C σ o v):(∀t off,v=.ref t off→∃x,x∈o.op.operands∧∃off',σ.get x=some (.ref t off'))∧(∀t k i q,v=.oref t k i q→(∃ty x y,o.op=.indexAddr ty x y)∨∃x,x∈o.op.operands∧∃k' i' q',σ.get x=some (.oref t k' i' q')):=by
 obtain ⟨dst,op,type,pos,after,guard⟩:=o
 have lit:∀a:AV,v=.av a→(∀t off,v=.ref t off→∃x,x∈op.operands∧∃off',σ.get x=some (.ref t off'))∧(∀t k i q,v=.oref t k i q→(∃ty x y,op=.indexAddr ty x y)∨∃x,x∈op.operands∧∃k' i' q',σ.get x=some (.oref t k' i' q')):=fun a ha=>by
  subst ha
  exact ⟨fun _ _ h=>(by cases h),fun _ _ _ _ h=>by cases h⟩
 have handed:∀x,x∈op.operands→σ.get x=some v→(∀t off,v=.ref t off→∃x,x∈op.operands∧∃off',σ.get x=some (.ref t off'))∧(∀t k i q,v=.oref t k i q→(∃ty x y,op=.indexAddr ty x y)∨∃x,x∈op.operands∧∃k' i' q',σ.get x=some (.oref t k' i' q')):=fun x hx hg =>
  ⟨fun t off h=>⟨x,hx,off,by rw [hg,h]⟩,fun t k i q h=>.inr ⟨x,hx,k,i,q,by rw [hg,h]⟩⟩
 cases op with
 | move x=>exact handed x (by simp [Op.operands]) hv
 | assign x=>exact handed x (by simp [Op.operands]) hv
 | pick c x y =>
  obtain ⟨t,_,q2⟩:=hv
  cases t
  ·exact handed y (by simp [Op.operands]) q2
  ·exact handed x (by simp [Op.operands]) q2
 | load ty x=>obtain ⟨_,_,_,_,_,_,q⟩:=hv;exact lit _ q
 | fieldAddr ty x f =>
  obtain ⟨_,_,_,o,_,_,_,_,q⟩:=hv
  cases hx:σ.get x with
  | none=>rw [hx]at q;cases q
  | some y =>
   rw [hx]at q
   cases y with
   | ref t off' =>
    cases q
    exact ⟨fun t' off h=>⟨x,by simp [Op.operands],off',by cases h;exact hx⟩,fun _ _ _ _ h=>by cases h⟩
   | oref t k i q' =>
    cases q
    exact ⟨fun _ _ h=>(by cases h),fun t' k' i' q2 h=>.inr ⟨x,by simp [Op.operands],k,i,q',by cases h;exact hx⟩⟩
   | av b =>
    cases b with
    | ptr cs=>cases q;exact lit _ rfl
    | _=>cases q
   | _=>cases q
 | field ty x f=>obtain ⟨_,_,_,_,_,_,_,_,_,_,_,_,_,_,q⟩:=hv;exact lit _ q
 | extract x i=>obtain ⟨_,_,_,_,q⟩:=hv;exact lit _ q
 | indexAddr ty x ix =>
  obtain ⟨i,s,q,n,_,hx,_,_,h5⟩:=hv
  refine ⟨fun t off h=>?_,fun t k i q h=>.inl ⟨_,_,_,rfl⟩⟩
  subst h
  unfold idxT at h5
  split at h5
  ·obtain ⟨_,_,h6⟩:=h5;cases h6
  ·obtain ⟨_,_,h6⟩:=h5;cases h6
  ·obtain ⟨_,h6⟩:=h5;cases h6;exact ⟨x,by simp [Op.operands],_,hx⟩
  ·obtain ⟨_,h6⟩:=h5;cases h6
  ·obtain ⟨_,h6⟩:=h5;cases h6
  ·obtain ⟨_,h6⟩:=h5;cases h6
  ·exact h5.elim
 | index ty x ix =>
  rcases hv with ⟨_,_,_,_,_,_,_,_,_,_,_,q⟩|⟨_,_,_,_,_,_,_,_,_,_,_,_,_,_,_,_,_,q⟩
  ·exact lit _ q
  ·exact lit _ q
 | binOp b ty x y yt=>obtain ⟨_,_,_,_,_,_,q⟩:=hv;exact lit _ q
 | unOp b xt x=>obtain ⟨_,_,_,_,q⟩:=hv;exact lit _ q
 | convert src dst x =>
  obtain ⟨_,_,_,_,q⟩:=hv
  split at q
  ·exact lit _ q
  ·exact lit _ q
  ·obtain ⟨_,_,_,_,_,q⟩:=q;exact lit _ q
  ·obtain ⟨_,_,_,_,_,_,_,_,q⟩:=q;exact lit _ q
  ·obtain ⟨_,_,q⟩:=q;exact lit _ q
  ·exact q.elim
 | build ty parts=>obtain ⟨_,_,_,_,_,_,q⟩:=hv;exact lit _ q
 | makeInterface ty x=>obtain ⟨_,_,_,_,_,q⟩:=hv;exact lit _ q
 | makeFunc f first captured=>obtain ⟨_,_,_,_,q⟩:=hv;exact lit _ q
 | slice ty x lo hi mx =>
  cases mx with
  | some m=>exact hv.elim
  | none =>
   obtain ⟨_,_,_,_,_,_,q⟩:=hv
   split at q
   ·obtain ⟨_,_,_,q⟩:=q;exact lit _ q
   ·obtain ⟨_,_,_,_,q⟩:=q;exact lit _ q
   ·obtain ⟨_,_,_,_,q⟩:=q;exact lit _ q
   ·obtain ⟨_,_,_,_,q⟩:=q
    rcases q with ⟨_,q⟩|⟨_,q⟩
    ·subst q;exact ⟨fun _ _ h=>(by cases h),fun _ _ _ _ h=>by cases h⟩
    ·exact lit _ q
   ·obtain ⟨_,_,_,_,_,q⟩:=q;exact lit _ q
   ·exact q.elim
 | lookup ty x q ok =>
  obtain ⟨_,_,_,_,_,_,_,_,_,_,_,_,_,_,_,_,_,_,_,q⟩:=hv
  cases ok <;> exact lit _ q
 | nilCheck x =>
  simp only [aval]at hv
  split at hv
  ·rename_i hx;subst hv;exact handed x (by simp [Op.operands]) hx
  ·exact lit _ hv
  ·rename_i hx;subst hv;exact handed x (by simp [Op.operands]) hx
  ·exact lit _ hv
  ·exact lit _ hv
  ·exact hv.elim
 | call c =>
  simp only [aval]at hv
  split at hv
  ·obtain ⟨_,_,_,_,_,_,q⟩:=hv
   split at q
   ·exact lit _ q
   ·obtain ⟨_,_,q⟩:=q;exact lit _ q
   ·exact q.elim
  ·obtain ⟨_,_,_,_,_,_,_,_,_,q⟩:=hv;exact lit _ q
  ·obtain ⟨_,_,_,_,_,_,_,_,_,q⟩:=hv;exact lit _ q
  ·exact hv.elim
 | _=>exact hv.elim
theorem NoRef.aval {s off:Nat} {v:TV} (h:NoRef σ s) (hv:aval C σ o v):v≠.ref s off:=fun e=>by
 obtain ⟨x,_,off',hx⟩:=(aval_addr hv).1 s off e
 exact h.get hx
theorem eff_shape {e:Eff} (h:eff C ops o σ e) :
  (∃t cs,e=.new t cs∧isNewB o=true∧o.dst=some t)∨(∃t cs,e=.set t cs o.dst∧isStoreB o=true∧∃a off,addrOf o=some a∧σ.tm a=some (.ref t off))∨(∃v,e=.put o.dst v∧((∃a,v=.av a)∨v=.skip∨aval C σ o v)):=by
 rcases h with ⟨_,h0,h⟩|⟨_,rfl⟩
 ·obtain ⟨dst,op,type,pos,after,guard⟩:=o
  cases op with
  | alloc ty=>obtain ⟨t,i,h1,_,rfl⟩:=h;exact .inl ⟨t,_,rfl,rfl,h1⟩
  | box ty x=>obtain ⟨t,i,h1,_,rfl⟩:=h;exact .inl ⟨t,_,rfl,rfl,h1⟩
  | store ty x y =>
   obtain ⟨t,off,cs,z,hx,_,_,rfl⟩:=h
   refine .inr (.inl ⟨t,_,rfl,rfl,?_⟩)
   cases x with
   | tmp a=>exact ⟨a,off,rfl,hx⟩
   | const v=>obtain ⟨u,h3,_⟩:=constT_sound hx;cases h3
   | _=>cases hx
  | build ty parts=>obtain ⟨_,_,_,_,_,_,rfl⟩:=h;exact .inr (.inr ⟨_,rfl,.inl ⟨_,rfl⟩⟩)
  | buildSlice ty n parts =>
   obtain ⟨_,_,l,_,_,_,_,_,_,_,q⟩:=h
   cases l
   ·cases q
    exact .inr (.inr ⟨_,rfl,.inl ⟨_,rfl⟩⟩)
   ·obtain ⟨_,_,rfl⟩:=q
    exact .inr (.inr ⟨_,rfl,.inl ⟨_,rfl⟩⟩)
  | makeSlice ty x y=>exact h.elim
  | makeMap ty r=>exact h.elim
  | mapUpdate ty x q y=>exact h.elim
  | call c =>
   obtain ⟨callee,cargs,ctys⟩:=c
   dsimp only at h
   split at h
   ·obtain ⟨_,_,_,_,_,_,_,_,_,rfl⟩:=h
    exact .inr (.inr ⟨_,rfl,.inl ⟨_,rfl⟩⟩)
   ·exact h.elim
   ·exact h.elim
   ·obtain ⟨_,_,_,_,_,_,_,_,_,rfl⟩:=h
    exact .inr (.inr ⟨_,rfl,.inl ⟨_,rfl⟩⟩)
   ·obtain ⟨v,h1,rfl⟩:=h
    exact .inr (.inr ⟨v,rfl,.inr (.inr h1)⟩)
  | _ =>
   obtain ⟨v,h1,rfl⟩:=h
   exact .inr (.inr ⟨v,rfl,.inr (.inr h1)⟩)
 ·exact .inr (.inr ⟨_,rfl,.inr (.inl rfl)⟩)
end
end Go.Proofs.YtmekiphpjpblpaaGreat
