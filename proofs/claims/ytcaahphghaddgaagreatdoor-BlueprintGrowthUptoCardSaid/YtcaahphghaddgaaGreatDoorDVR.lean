import Derived.Test.YtcaahphghaddgaaGreatDoorDVQ
/- Text VR. -/
set_option linter.unusedSimpArgs false
set_option linter.unusedVariables false
namespace Go.Proofs.YtcaahphghaddgaaGreatDoor
open Go.RowKit Lim
structure AS.le0 (τ σ:AS):Prop where
 tm:∀x v,τ.tm x=some v→σ.tm x=some v
 mem:∀t cs,τ.mem t=some cs→σ.mem t=some cs
 own:∀t ov,τ.own t=some ov→σ.own t=some ov
 hot:∀t ov,σ.own t=some ov→ov.hot=true→τ.own t=some ov
section
variable {C:Ctx} {σ τ:AS} {ops:Array Oper} {o:Oper} {dr:Bool}
theorem AS.le0.get (h:AS.le0 τ σ) {x:Operand} {v:TV} (hx:τ.get x=some v):σ.get x=some v:=by
 cases x with
 | tmp t=>exact h.tm t v hx
 | const u=>exact hx
 | func f=>exact hx
 | global g=>exact hx
theorem AS.le0.argV (h:AS.le0 τ σ) {T:TyTab} {ty:TypeId} {x:Operand} {y:AV} (hx:τ.argV T ty x=some y):σ.argV T ty x=some y∧σ.usedV x=τ.usedV x:=by
 simp only [AS.argV,Option.bind_eq_some_iff]at hx
 obtain ⟨v,h1,h2⟩:=hx
 refine ⟨?_,by simp only [AS.usedV,h1,h.get h1]⟩
 simp only [AS.argV,h.get h1,Option.bind_some]
 cases v with
 | av a=>exact h2
 | osl t k off len =>
  simp only [AS.argT]at h2 ⊢
  split at h2
  ·rename_i ov ho
   rw [h.own t ov ho]
   exact h2
  ·cases h2
 | _=>cases h2
theorem args_le0 (h:AS.le0 τ σ) {T:TyTab}:∀(xs:List Operand) (tys:List TypeId) (as':List AV),τ.args T xs tys=some as'→σ.args T xs tys=some as'∧σ.usedL xs=τ.usedL xs
 | [],_,_,hh=>⟨hh,rfl⟩
 | x :: xs,tys,as',hh=>by
  unfold AS.args at hh
  split at hh
  ·rename_i a ha
   simp only [Option.map_eq_some_iff]at hh
   obtain ⟨l,h1,h2⟩:=hh
   obtain ⟨g1,g2⟩:=h.argV ha
   obtain ⟨g3,g4⟩:=args_le0 h xs _ l h1
   unfold AS.args
   rw [g1,g3]
   exact ⟨congrArg some h2,by simp only [AS.usedL,g2,g4]⟩
  ·cases hh
theorem fillV_le0 (h:AS.le0 τ σ) {T:TyTab} {fs:List (Nat × Nat × TypeId)}:∀(parts:List (Nat × Operand)) (cs cs':List AV),fillV T τ fs cs parts=some cs'→fillV T σ fs cs parts=some cs'∧σ.usedL (parts.map (·.2))=τ.usedL (parts.map (·.2))
 | [],cs,cs',hh=>⟨hh,rfl⟩
 | (f,x) :: rest,cs,cs',hh=>by
  unfold fillV at hh
  split at hh
  ·rename_i o n t h1
   split at hh
   ·rename_i a ha
    split at hh
    ·rename_i hc
     obtain ⟨g1,g2⟩:=h.argV ha
     obtain ⟨g3,g4⟩:=fillV_le0 h rest _ _ hh
     refine ⟨?_,by simp only [List.map_cons,AS.usedL,g2,g4]⟩
     unfold fillV
     rw [h1]
     simp only [g1]
     rw [if_pos hc]
     exact g3
    ·cases hh
   ·cases hh
  ·cases hh
theorem fillA_le0 (h:AS.le0 τ σ) {T:TyTab} {fs:List (Nat × Nat × TypeId)}:∀(parts:List (Nat × Operand)) (cs cs':List AV),fillA T τ fs cs parts=some cs'→fillA T σ fs cs parts=some cs'
 | [],cs,cs',hh=>hh
 | (f,x) :: rest,cs,cs',hh=>by
  unfold fillA at hh ⊢
  split at hh
  ·rename_i o n t a h1 h2
   rw [h1,h.get h2]
   simp only
   split at hh
   ·rename_i hc
    rw [if_pos hc]
    exact fillA_le0 h rest _ _ hh
   ·cases hh
  ·cases hh
theorem avsL_le0 (h:AS.le0 τ σ):∀(xs:List Operand) (l:List AV),avsL τ xs=some l→avsL σ xs=some l
 | [],_,hh=>hh
 | x :: xs,l,hh=>by
  unfold avsL at hh ⊢
  split at hh
  ·rename_i a r h1 h2
   rw [h.get h1,avsL_le0 h xs r h2]
   exact hh
  ·cases hh
theorem look_le0 (h:AS.le0 τ σ) {x:Option TV} {y:Option TV} (hxy:∀v,x=some v→y=some v) {cs:List AV} (hh:τ.look x=some cs):σ.look y=some cs:=by
 cases x with
 | none=>cases hh
 | some v =>
  rw [hxy v rfl]
  cases v with
  | ref t off =>
   simp only [AS.look,Option.map_eq_some_iff]at hh ⊢
   obtain ⟨c,h1,h2⟩:=hh
   exact ⟨c,h.mem t c h1,h2⟩
  | oref t k i o =>
   simp only [AS.look,Option.bind_eq_some_iff]at hh ⊢
   obtain ⟨c,h1,h2⟩:=hh
   exact ⟨c,h.own t c h1,h2⟩
  | av a=>cases a <;> first|exact hh|cases hh
  | _=>cases hh
theorem lookG_le0 (h:AS.le0 τ σ) {x:Option TV} {y:Option TV} (hxy:∀v,x=some v→y=some v) {cs:List AV} (hh:τ.lookG x=some cs):σ.lookG y=some cs:=by
 unfold AS.lookG at hh
 split at hh
 ·rw [hxy _ rfl];exact hh
 ·rename_i h1
  have:=look_le0 h hxy hh
  unfold AS.lookG
  split
  ·cases x with
   | none=>cases hh
   | some v=>have e:=hxy v rfl;cases e;exact absurd rfl (h1 _ _)
  ·exact this
theorem optGet_le0 (h:AS.le0 τ σ) {x:Option Operand} {y:Option TV} (hh:optGet τ x=some y):optGet σ x=some y:=by
 cases x with
 | none=>exact hh
 | some z =>
  simp only [optGet,Option.map_eq_some_iff]at hh ⊢
  obtain ⟨v,h1,h2⟩:=hh
  exact ⟨v,h.get h1,h2⟩
set_option maxHeartbeats 1000000 in
theorem aval_le0 (h:AS.le0 τ σ) {v:TV} (hv:aval C τ o v):aval C σ o v:=by
 obtain ⟨dst,op,type,pos,after,guard⟩:=o
 cases op with
 | move x=>exact h.get hv
 | assign x=>exact h.get hv
 | pick c x y=>obtain ⟨t,q1,q2⟩:=hv;exact ⟨t,h.get q1,h.get q2⟩
 | load ty x=>obtain ⟨i,cs,a,q1,q2,q3⟩:=hv;exact ⟨i,cs,a,q1,lookG_le0 h (fun v hv=>h.get hv) q2,q3⟩
 | fieldAddr ty x f =>
  obtain ⟨fs,z,b,o,n,t,q1,q2,q3⟩:=hv
  refine ⟨fs,z,b,o,n,t,q1,q2,?_⟩
  cases hx:τ.get x with
  | none=>rw [hx]at q3;cases q3
  | some y=>rw [hx]at q3;rw [h.get hx];exact q3
 | field ty x f=>obtain ⟨fs,z,b,o,n,t,cs,i,a,q1,q2,q3,q4⟩:=hv;exact ⟨fs,z,b,o,n,t,cs,i,a,q1,q2,h.get q3,q4⟩
 | extract x i=>obtain ⟨vs,a,q1,q2⟩:=hv;exact ⟨vs,a,h.get q1,q2⟩
 | indexAddr ty x ix=>obtain ⟨i,s,q,n,q1,q2,q3,q4⟩:=hv;exact ⟨i,s,q,n,q1,h.get q2,h.get q3,q4⟩
 | index ty x ix =>
  rcases hv with ⟨z,y,s,q,n,b,q1,q2,q3,q4⟩|⟨m,e,k,z,y,cs,q,n,i,a,q1,q2,q3,q4⟩
  ·exact .inl ⟨z,y,s,q,n,b,q1,h.get q2,h.get q3,q4⟩
  ·exact .inr ⟨m,e,k,z,y,cs,q,n,i,a,q1,h.get q2,h.get q3,q4⟩
 | binOp b ty x y yt=>obtain ⟨a,c,r,q1,q2,q3⟩:=hv;exact ⟨a,c,r,h.get q1,h.get q2,q3⟩
 | unOp b xt x=>obtain ⟨a,r,q1,q2⟩:=hv;exact ⟨a,r,h.get q1,q2⟩
 | convert src dst x =>
  obtain ⟨i,j,q1,q2,q3⟩:=hv
  refine ⟨i,j,q1,q2,?_⟩
  cases hx:τ.get x with
  | none =>
   rw [hx]at q3
   split at q3 <;> first|exact q3.elim|(rename_i hh;cases hh)
  | some y =>
   rw [hx]at q3
   rw [h.get hx]
   split at q3
   ·rename_i hk1 hk2 hh;cases hh;exact q3
   ·rename_i hk1 hk2 hh;cases hh;exact q3
   ·rename_i hk1 hk2 hh;cases hh;exact q3
   ·rename_i hk1 hk2 hh;cases hh;obtain ⟨g1,g2,g3,e,l,g4,g5⟩:=q3;exact ⟨g1,g2,g3,e,l,h.own _ _ g4,g5⟩
   ·rename_i hk1 hk2 hh;cases hh;exact q3
   ·exact q3.elim
 | build ty parts=>obtain ⟨fs,z,b,cs,q1,q2,q3⟩:=hv;exact ⟨fs,z,b,cs,q1,fillA_le0 h _ _ _ q2,q3⟩
 | makeInterface ty x=>obtain ⟨i,a,q1,q2,q3,q4⟩:=hv;exact ⟨i,a,q1,q2,h.get q3,q4⟩
 | makeFunc f fs cs=>obtain ⟨fs,cs,q1,q2,q3⟩:=hv;exact ⟨fs,cs,avsL_le0 h _ _ q1,avsL_le0 h _ _ q2,q3⟩
 | slice ty x lo hi mx =>
  cases mx with
  | some m=>exact hv.elim
  | none =>
   obtain ⟨i,lo',hi',q1,q2,q3,q4⟩:=hv
   refine ⟨i,lo',hi',q1,optGet_le0 h q2,optGet_le0 h q3,?_⟩
   cases hx:τ.get x with
   | none =>
    rw [hx]at q4
    split at q4 <;> rename_i heq <;> first|cases heq|exact q4.elim
   | some y=>rw [hx]at q4;rw [h.get hx];exact q4
 | lookup ty x q ok =>
  obtain ⟨k,e,z,b,ki,ei,t,m,kv,a0,h1,h2,h3,h4,h5,h6,h7,h8,h9⟩:=hv
  exact ⟨k,e,z,b,ki,ei,t,m,kv,a0,h1,h2,h3,h4,h5,h.get h6,h.own _ _ h7,h.get h8,h9⟩
 | nilCheck x =>
  simp only [aval]at hv ⊢
  cases hx:τ.get x with
  | none=>rw [hx]at hv;exact hv.elim
  | some y=>rw [hx]at hv;rw [h.get hx];exact hv
 | call c =>
  dsimp only [aval]at hv ⊢
  split at hv
  ·obtain ⟨x,ty,i,q1,q2,q3,q4⟩:=hv
   refine ⟨x,ty,i,q1,q2,q3,?_⟩
   cases hx:τ.get x with
   | none =>
    rw [hx]at q4
    split at q4 <;> rename_i heq <;> first|cases heq|exact q4.elim
   | some y=>rw [hx]at q4;rw [h.get hx];exact q4
  ·obtain ⟨x,y,a,b,r,q1,q2,q3,q4⟩:=hv
   exact ⟨x,y,a,b,r,q1,h.get q2,h.get q3,q4⟩
  ·obtain ⟨x,y,a,b,r,q1,q2,q3,q4⟩:=hv
   exact ⟨x,y,a,b,r,q1,h.get q2,h.get q3,q4⟩
  ·exact hv.elim
 | _=>exact hv.elim
theorem put_le0 (h:AS.le0 τ σ) (d:Option Nat) (v:TV):AS.le0 (τ.put d v) (σ.put d v):=by
 cases d with
 | none=>exact h
 | some t =>
  refine ⟨fun x u hx=>?_,h.mem,h.own,h.hot⟩
  simp only [AS.put,upd]at hx ⊢
  split at hx
  ·rename_i e;rw [if_pos e];exact hx
  ·rename_i e;rw [if_neg e];exact h.tm x u hx
theorem new_le0 (h:AS.le0 τ σ) (t:Nat) (cs:List AV):AS.le0 (τ.new t cs) (σ.new t cs):=by
 refine ⟨fun x u hx=>?_,fun x u hx=>?_,h.own,h.hot⟩
 ·simp only [AS.new,upd]at hx ⊢
  split at hx
  ·rename_i e;rw [if_pos e];exact hx
  ·rename_i e
   rw [if_neg e]
   cases hy:τ.tm x with
   | none=>rw [hy]at hx;cases hx
   | some y=>rw [hy]at hx;rw [h.tm x y hy];exact hx
 ·simp only [AS.new,upd]at hx ⊢
  split at hx
  ·rename_i e;rw [if_pos e];exact hx
  ·rename_i e;rw [if_neg e];exact h.mem x u hx
theorem setMem_le0 (h:AS.le0 τ σ) (t:Nat) (cs:List AV):AS.le0 (τ.setMem t cs) (σ.setMem t cs):=by
 refine ⟨h.tm,fun x u hx=>?_,h.own,h.hot⟩
 simp only [AS.setMem,upd]at hx ⊢
 split at hx
 ·rename_i e;rw [if_pos e];exact hx
 ·rename_i e;rw [if_neg e];exact h.mem x u hx
theorem setOwn_le0 (h:AS.le0 τ σ) (t:Nat) (ov:OV):AS.le0 (τ.setOwn t ov) (σ.setOwn t ov):=by
 refine ⟨h.tm,h.mem,fun x u hx=>?_,fun x u hx hh=>?_⟩
 ·simp only [AS.setOwn,upd]at hx ⊢
  split at hx
  ·rename_i e;rw [if_pos e];exact hx
  ·rename_i e;rw [if_neg e];exact h.own x u hx
 ·simp only [AS.setOwn,upd]at hx ⊢
  split at hx
  ·rename_i e;rw [if_pos e];exact hx
  ·rename_i e;rw [if_neg e];exact h.hot x u hx hh
theorem staleO_le0 {x y:Option TV} (h:∀v,x=some v→y=some v) (t:Nat):∀v,staleO t x=some v→staleO t y=some v:=by
 intro v hv
 cases x with
 | none=>cases hv
 | some z=>rw [h z rfl];exact hv
theorem newMap_le0 (h:AS.le0 τ σ) (d:Nat) (ov:OV):AS.le0 (τ.newMap d ov) (σ.newMap d ov):=by
 refine ⟨fun x u hx=>?_,h.mem,fun x u hx=>?_,fun x u hx hh=>?_⟩
 ·simp only [AS.newMap,upd]at hx ⊢
  split at hx
  ·rename_i e;rw [if_pos e];exact hx
  ·rename_i e;rw [if_neg e];exact staleO_le0 (h.tm x) d u hx
 ·simp only [AS.newMap,upd]at hx ⊢
  split at hx
  ·rename_i e;rw [if_pos e];exact hx
  ·rename_i e;rw [if_neg e];exact h.own x u hx
 ·simp only [AS.newMap,upd]at hx ⊢
  split at hx
  ·rename_i e;rw [if_pos e];exact hx
  ·rename_i e;rw [if_neg e];exact h.hot x u hx hh
theorem newOwn_le0 (h:AS.le0 τ σ) (s:Option Nat) (d:Nat) (ov:OV):AS.le0 (τ.newOwn s d ov) (σ.newOwn s d ov):=by
 refine ⟨fun x u hx=>?_,h.mem,fun x u hx=>?_,fun x u hx hh=>?_⟩
 ·simp only [AS.newOwn,upd]at hx ⊢
  split at hx
  ·rename_i e;rw [if_pos e];exact hx
  ·rename_i e
   rw [if_neg e]
   cases s with
   | none=>exact staleO_le0 (h.tm x) d u hx
   | some s=>exact staleO_le0 (staleO_le0 (h.tm x) s) d u hx
 ·simp only [AS.newOwn,upd]at hx ⊢
  split at hx
  ·rename_i e;rw [if_pos e];exact hx
  ·rename_i e
   rw [if_neg e]
   cases s with
   | none=>exact h.own x u hx
   | some s =>
    simp only [upd]at hx ⊢
    split at hx
    ·cases hx
    ·rename_i e2;rw [if_neg e2];exact h.own x u hx
 ·simp only [AS.newOwn,upd]at hx ⊢
  split at hx
  ·rename_i e;rw [if_pos e];exact hx
  ·rename_i e
   rw [if_neg e]
   cases s with
   | none=>exact h.hot x u hx hh
   | some s =>
    simp only [upd]at hx ⊢
    split at hx
    ·cases hx
    ·rename_i e2;rw [if_neg e2];exact h.hot x u hx hh
theorem frz_le0 (h:AS.le0 τ σ) (ts:List Nat):AS.le0 (τ.frz ts) (σ.frz ts):=by
 refine ⟨fun x u hx=>?_,h.mem,fun x u hx=>?_,fun x u hx hh=>?_⟩
 ·simp only [AS.frz,Option.bind_eq_some_iff]at hx ⊢
  obtain ⟨v,h1,h2⟩:=hx
  refine ⟨v,h.tm x v h1,?_⟩
  cases v with
  | osl t k off len =>
   simp only [frzT]at h2 ⊢
   split at h2
   ·rename_i hc
    rw [if_pos hc]
    cases ho:τ.own t with
    | none=>rw [ho]at h2;cases h2
    | some ov=>rw [ho]at h2;rw [h.own t ov ho];exact h2
   ·rename_i hc;rw [if_neg hc];exact h2
  | _=>exact h2
 ·simp only [AS.frz]at hx ⊢
  split at hx
  ·cases hx
  ·rename_i e;rw [if_neg e];exact h.own x u hx
 ·simp only [AS.frz]at hx ⊢
  split at hx
  ·cases hx
  ·rename_i e;rw [if_neg e];exact h.hot x u hx hh
set_option maxHeartbeats 1000000 in
theorem astep_le0 (h:AS.le0 τ σ) {K K':AS→Prop} (hK:∀τ' σ',AS.le0 τ' σ'→K τ'→K' σ') (hs:astep C dr o τ K):astep C dr o σ K':=by
 obtain ⟨dst,op,type,pos,after,guard⟩:=o
 have val:(∃v,aval C τ ⟨dst,op,type,pos,after,guard⟩ v∧K (τ.put dst v))→∃v,aval C σ ⟨dst,op,type,pos,after,guard⟩ v∧K' (σ.put dst v):=by
  rintro ⟨v,h1,h2⟩
  exact ⟨v,aval_le0 h h1,hK _ _ (put_le0 h _ _) h2⟩
 cases op with
 | alloc ty =>
  obtain ⟨t,i,h1,h2,h3,h4,h5⟩:=hs
  exact ⟨t,i,h1,h2,h3,h4,hK _ _ (new_le0 h _ _) h5⟩
 | box ty x =>
  obtain ⟨t,y,h1,h2,h3,h4,h5,h6⟩:=hs
  obtain ⟨g1,g2⟩:=h.argV h2
  refine ⟨t,y,h1,g1,by rw [g2];exact h3,h4,h5,?_⟩
  rw [g2]
  exact hK _ _ (new_le0 (frz_le0 h _) _ _) h6
 | store ty x y =>
  obtain ⟨i,z,h1,h2,h3,h4,h5,h6⟩:=hs
  obtain ⟨g1,g2⟩:=h.argV h2
  refine ⟨i,z,h1,g1,by rw [g2];exact h3,h4,h5,?_⟩
  rw [g2]
  cases hx:τ.get x with
  | none=>rw [hx]at h6;exact h6.elim
  | some v =>
   rw [hx]at h6
   rw [h.get hx]
   cases v with
   | ref t off =>
    obtain ⟨k1,cs,k2,k3,k4⟩:=h6
    exact ⟨k1,cs,h.mem _ _ k2,k3,hK _ _ (put_le0 (setMem_le0 (frz_le0 h _) _ _) _ _) k4⟩
   | oref t k j q =>
    obtain ⟨k1,k2⟩:=h6
    refine ⟨k1,?_⟩
    cases ho:τ.own t with
    | none=>rw [ho]at k2;exact k2.elim
    | some ov =>
     rw [ho]at k2
     rw [h.own t ov ho]
     cases ov with
     | row e k' es=>obtain ⟨k3,k4,el,k5,k6,k7⟩:=k2;exact ⟨k3,k4,el,k5,k6,hK _ _ (put_le0 (setOwn_le0 (frz_le0 h _) _ _) _ _) k7⟩
     | map kd m=>exact k2.elim
     | limb e l=>obtain ⟨k3,k4,k5,n,k6,k7,k8,k9⟩:=k2;exact ⟨k3,k4,k5,n,k6,k7,k8,hK _ _ (put_le0 (setOwn_le0 (frz_le0 h _) _ _) _ _) k9⟩
   | _=>exact h6.elim
 | build ty parts =>
  obtain ⟨fs,z,b,cs,h1,h2,h3,h4⟩:=hs
  obtain ⟨g1,g2⟩:=fillV_le0 h _ _ _ h2
  refine ⟨fs,z,b,cs,h1,g1,by rw [g2];exact h3,?_⟩
  rw [g2]
  exact hK _ _ (put_le0 (frz_le0 h _) _ _) h4
 | buildSlice ty n parts =>
  obtain ⟨e,k,l,z,b,i,cs,h1,h2,h3,h4,h5,h6,h7,h8,h9⟩:=hs
  obtain ⟨g1,g2⟩:=fillV_le0 h _ _ _ h6
  refine ⟨e,k,l,z,b,i,cs,h1,h2,h3,h4,h5,g1,h7,by rw [g2];exact h8,?_⟩
  rw [g2]
  cases l with
  | true=>obtain ⟨hk,ns,k1,k2⟩:=h9;exact ⟨hk,ns,k1,hK _ _ (put_le0 (frz_le0 h _) _ _) k2⟩
  | false=>exact hK _ _ (put_le0 (frz_le0 h _) _ _) h9
 | makeMap ty r =>
  obtain ⟨t,k,e,z,b,ki,h1,h2,h3,h4,h5⟩:=hs
  exact ⟨t,k,e,z,b,ki,h1,h2,h3,fun x hx=>by obtain ⟨q,n,g⟩:=h4 x hx;exact ⟨q,n,h.get g⟩,hK _ _ (newMap_le0 h _ _) h5⟩
 | mapUpdate ty x q y =>
  obtain ⟨k,e,z,b,ki,t,m,kv,yv,h1,h2,h3,h4,h5,h6,h7,h8,h9,h10⟩:=hs
  obtain ⟨g1,g2⟩:=h.argV h7
  refine ⟨k,e,z,b,ki,t,m,kv,yv,h1,h2,h.get h3,h.own _ _ h4,h.get h5,h6,g1,by rw [g2];exact h8,by rw [g2];exact h9,?_⟩
  rw [g2]
  exact hK _ _ (put_le0 (setOwn_le0 (frz_le0 h _) _ _) _ _) h10
 | makeSlice ty x y =>
  obtain ⟨t,e,k,l,z,b,i,q1,q2,n,m,h1,h2,h3,h4,h5,h6,h7,h8,h9,h10,h11,h12⟩:=hs
  refine ⟨t,e,k,l,z,b,i,q1,q2,n,m,h1,h2,h3,h4,h5,h.get h6,h.get h7,h8,h9,h10,h11,?_⟩
  cases l with
  | true=>obtain ⟨k1,k2,k3⟩:=h12;exact ⟨k1,k2,hK _ _ (newOwn_le0 h _ _ _) k3⟩
  | false=>obtain ⟨k1,k2,k3⟩:=h12;exact ⟨k1,k2,hK _ _ (newOwn_le0 h _ _ _) k3⟩
 | call c =>
  obtain ⟨callee,cargs,ctys⟩:=c
  dsimp only [astep]at hs ⊢
  have hcall:callS C dr dst ⟨callee,cargs,ctys⟩ τ K→callS C dr dst ⟨callee,cargs,ctys⟩ σ K':=by
   rintro ⟨f,pre,post,args,r,h0,h1,h2,h3,h4⟩
   obtain ⟨g1,g2⟩:=args_le0 h _ _ _ h1
   have h0':tgt C σ callee f pre post:=by
    cases callee with
    | value x=>exact h.get h0
    | invoke x name=>obtain ⟨t,a,a',q1,q2⟩:=h0;exact ⟨t,a,a',h.get q1,q2⟩
    | builtin b=>exact h0
   refine ⟨f,pre,post,args,r,h0',g1,?_,by rw [g2];exact h3,?_⟩
   ·rcases h2 with h2|⟨h2,h5⟩
    ·exact .inl h2
    ·refine .inr ⟨h2,fun t ov ho=>?_⟩
     cases hh:ov.hot with
     | false=>rfl
     | true=>have:=h5 t ov (h.hot t ov ho hh);rw [hh]at this;cases this
   ·rw [g2]
    cases hf:r.flat with
    | true=>rw [hf]at h4;exact hK _ _ (put_le0 h _ _) h4
    | false=>rw [hf]at h4;exact hK _ _ (put_le0 (frz_le0 h _) _ _) h4
  split at hs
  ·exact hcall hs
  ·obtain ⟨d,x,y,ty,ty',e,k,l,z,b,i,xv,s,ov,yv,ov',h1,h2,h3,h4,h5,h6,h7,h8,h9,h10,h11,h12,h13,h14,h15,h16,h17⟩:=hs
   have hb:baseT σ e k l xv=some (s,ov):=by
    cases xv with
    | av a =>
     unfold baseT at h10
     split at h10
     ·rename_i heq;cases heq;exact h10
     ·rename_i heq;cases heq
     ·cases h10
    | osl t k' off len =>
     simp only [baseT]at h10 ⊢
     cases ho:τ.own t with
     | none=>rw [ho]at h10;cases h10
     | some ov=>rw [ho]at h10;rw [h.own t ov ho];exact h10
    | _=>cases h10
   exact ⟨d,x,y,ty,ty',e,k,l,z,b,i,xv,s,ov,yv,ov',h1,h2,h3,h4,h5,h6,h7,h8,h.get h9,hb,(h.argV h11).1,h12,h13,h14,h15,h16,hK _ _ (newOwn_le0 h _ _ _) h17⟩
  ·obtain ⟨x,y,ty,ty',e,k,l,z,b,t,off,n,ov,yv,m,yv',ov',h1,h2,h3,h4,h5,h6,h7,h8,h9,h10,h11⟩:=hs
   exact ⟨x,y,ty,ty',e,k,l,z,b,t,off,n,ov,yv,m,yv',ov',h1,h2,h3,h.get h4,h.own _ _ h5,h6,h7,(h.argV h8).1,h9,h10,hK _ _ (put_le0 (setOwn_le0 h _ _) _ _) h11⟩
  ·exact hcall hs
  ·exact val hs
 | _=>exact val hs
theorem le0_refl (σ:AS):AS.le0 σ σ:=⟨fun _ _ h=>h,fun _ _ h=>h,fun _ _ h=>h,fun _ _ h _=>h⟩
theorem prep_le0 {n:Nat} {d:Bool} (h:AS.le0 τ σ):AS.le0 (prep n d ops τ) (prep n d ops σ):=by
 refine ⟨fun x v hx=>?_,h.mem,h.own,h.hot⟩
 simp only [prep]at hx ⊢
 split at hx
 ·rename_i e
  rw [if_pos e]
  cases hy:τ.tm x with
  | none=>rw [hy]at hx;cases hx
  | some y=>rw [hy]at hx;rw [h.tm x y hy];exact hx
 ·cases hx
theorem gives_le {α:Type} {f f':Nat→Option α} (h:∀t x,f t=some x→f' t=some x) (g:Nat→Option α):∀(l:List (Nat × Nat)) {f f':Nat→Option α},(∀t x,f t=some x→f' t=some x)→∀t x,gives l g f t=some x→gives l g f' t=some x
 | [],f,f',h,t,x,hx=>h t x hx
 | (c,s) :: l,f,f',h,t,x,hx=>by
  refine gives_le (f:=upd f s (g c)) (f':=upd f' s (g c)) ?_ g l ?_ t x hx
  all_goals
   intro t x hx
   simp only [upd]at hx ⊢
   split at hx
   ·rename_i e;rw [if_pos e];exact hx
   ·rename_i e;rw [if_neg e];exact h t x hx
theorem gives_hot {σ τ:AS} (h:∀t ov,σ.own t=some ov→ov.hot=true→τ.own t=some ov) (g:Nat→Option OV):∀(l:List (Nat × Nat)) {f f':Nat→Option OV},(∀t ov,f' t=some ov→ov.hot=true→f t=some ov)→∀t ov,gives l g f' t=some ov→ov.hot=true→gives l g f t=some ov
 | [],f,f',h,t,x,hx,hh=>h t x hx hh
 | (c,s) :: l,f,f',hf,t,x,hx,hh=>by
  refine gives_hot h g l (f:=upd f s (g c)) (f':=upd f' s (g c)) ?_ t x hx hh
  intro t x hx hh
  simp only [upd]at hx ⊢
  split at hx
  ·rename_i e;rw [if_pos e];exact hx
  ·rename_i e;rw [if_neg e];exact hf t x hx hh
theorem lends_le {α:Type} {g g':Nat→Option α} (h:∀t x,g t=some x→g' t=some x):∀(l:List (Nat × Nat)) (m:List (Nat × α)),lends g l m→lends g' l m
 | [],[],_=>trivial
 | (c,t) :: l,(c',x) :: m,hh=>⟨hh.1,h _ _ hh.2.1,lends_le h l m hh.2.2⟩
 | [],_ :: _,hh=>hh.elim
 | _ :: _,[],hh=>hh.elim
theorem asksL_le0 (h:AS.le0 τ σ) {pm po:List (Nat × Nat)}:∀(xs:List Operand) (tys:List TypeId) (ys:List TV),asksL C τ pm po xs tys ys→asksL C σ pm po xs tys ys
 | [],_,ys,hh=>hh
 | x :: xs,tys,ys,hh=>by
  obtain ⟨v,y,ys',h1,h2,h3,h4⟩:=hh
  exact ⟨v,y,ys',h.get h1,h2,h3,asksL_le0 h xs tys.tail ys' h4⟩
theorem wipe_le0 (h:AS.le0 τ σ) (LL ks:List Nat):AS.le0 (τ.wipe LL ks) (σ.wipe LL ks):=by
 cases LL with
 | nil=>exact h
 | cons n l =>
  refine ⟨fun x v hx=>?_,fun t cs ht=>?_,h.own,h.hot⟩
  ·obtain ⟨y,h1,h2⟩:=Option.bind_eq_some_iff.1 hx
   exact Option.bind_eq_some_iff.2 ⟨y,h.tm x y h1,h2⟩
  ·simp only [AS.wipe]at ht ⊢
   split at ht
   ·rename_i hc;rw [if_pos hc];exact h.mem t cs ht
   ·rename_i hc
    rw [if_neg hc]
    obtain ⟨y,h1,h2⟩:=Option.bind_eq_some_iff.1 ht
    exact Option.bind_eq_some_iff.2 ⟨y,h.mem t y h1,h2⟩
theorem ownB_le {LL:List Nat} {g f f':Nat→Option OV} (h:∀t ov,f t=some ov→f' t=some ov):∀t ov,ownB LL g f t=some ov→ownB LL g f' t=some ov:=fun t ov hx=>by
 cases hi:inL LL t with
 | true=>rw [ownB_in hi]at hx ⊢;exact hx
 | false=>rw [ownB_out hi]at hx ⊢;exact h t ov hx
theorem ownB_hot {LL:List Nat} {g f f':Nat→Option OV} (h:∀t ov,f' t=some ov→ov.hot=true→f t=some ov):∀t ov,ownB LL g f' t=some ov→ov.hot=true→ownB LL g f t=some ov:=fun t ov hx hh=>by
 cases hi:inL LL t with
 | true=>rw [ownB_in hi]at hx ⊢;exact hx
 | false=>rw [ownB_out hi]at hx ⊢;exact h t ov hx hh
theorem doneS_le0 (h:AS.le0 τ σ) (pm po:List (Nat × Nat)) (LL:List Nat) (M':Nat→Option (List AV)) (O':Nat→Option OV):AS.le0 (doneS τ pm po LL M' O') (doneS σ pm po LL M' O'):=by
 have hw:=wipe_le0 h LL (pm.map (·.2))
 exact ⟨hw.tm,gives_le hw.mem M' pm hw.mem,ownB_le (gives_le h.own O' po h.own),ownB_hot (gives_hot h.hot O' po h.hot)⟩
theorem callC_le0 (h:AS.le0 τ σ) {K K':AS→Prop} (hK:∀τ' σ',AS.le0 τ' σ'→K τ'→K' σ') (hs:callC C o τ K):callC C o σ K':=by
 obtain ⟨f,args,tys,pm,po,LL,xs,M,O,r,M',O',h1,h2,h3,h4,h5,h6,h7,h8,h9,⟨g1,g2,g3,g4⟩,h13,h11⟩:=hs
 have hle:=doneS_le0 h pm po LL M' O'
 have cool:∀{p:Nat→Prop},(∀t ov,τ.own t=some ov→p t→ov.hot=false)→∀t ov,σ.own t=some ov→p t→ov.hot=false:=fun {p} hp t ov ho ht=>by
  cases hh:ov.hot with
  | false=>rfl
  | true=>have:=hp t ov (h.hot t ov ho hh) ht;rw [hh]at this;cases this
 refine ⟨f,args,tys,pm,po,LL,xs,M,O,r,M',O',h1,h2,h3,h4,h5,lends_le h.mem _ _ h6,lends_le h.own _ _ h7,asksL_le0 h _ _ _ h8,h9.imp id (fun h9=>⟨h9.1,cool h9.2⟩),⟨g1,cool g2,g3,g4⟩,h13,?_⟩
 cases r with
 | av a=>exact hK _ _ (put_le0 hle _ _) h11
 | avl a=>exact ⟨h11.1,hK _ _ (put_le0 hle _ _) h11.2⟩
 | osl c k off len =>
  obtain ⟨q0,q1,q2,t,ov,q3,q4,q5,q6,q7,q8⟩:=h11
  refine ⟨q0,q1,q2,t,ov,q3,fun ov2 ho=>?_,q5,q6,q7,hK _ _ (newOwn_le0 hle _ _ _) q8⟩
  cases hh:ov2.hot with
  | false=>rfl
  | true=>have:=q4 ov2 (hle.hot t ov2 ho hh);rw [hh]at this;cases this
 | _=>exact h11.elim
theorem litL_le0 (h:AS.le0 τ σ) {K K':AS→Prop} (hK:∀τ' σ',AS.le0 τ' σ'→K τ'→K' σ') (hs:litL C o τ K):litL C o σ K':=by
 obtain ⟨ty,n,parts,t,e,k,z,b,i,cs,h1,h2,h3,h4,h5,h6,h7,h8,h9,h10,h11⟩:=hs
 obtain ⟨g1,g2⟩:=fillV_le0 h _ _ _ h8
 exact ⟨ty,n,parts,t,e,k,z,b,i,cs,h1,h2,h3,h4,h5,h6,h7,g1,h9,h10,by rw [g2];exact hK _ _ (newOwn_le0 (frz_le0 h _) _ _ _) h11⟩
theorem callL_le0 (h:AS.le0 τ σ) {K K':AS→Prop} (hK:∀τ' σ',AS.le0 τ' σ'→K τ'→K' σ') (hs:callL C o τ K):callL C o σ K':=hs.imp (callC_le0 h hK) (litL_le0 h hK)
end
theorem leM_nil {α:Type} (f:Nat→Option α):leM f []=True:=rfl
theorem leM_cons {α:Type} (f:Nat→Option α) (k:Nat) (v:α) (l:List (Nat × α)):leM f ((k,v) :: l)=(f k=some v∧leM f l):=rfl
theorem leL_of (l:LT) (m:LM) (q:LQ) (L:LT) (M:LM) (Q:LQ):leL ⟨ofT l,ofL m,ofL q⟩ L M Q=(leT ⟨ofT l,ofL m,ofL q⟩ M Q L∧leM (ofL m) M∧leM (ofL q) Q):=rfl
theorem leT_nil (σ:AS) (M:LM) (Q:LQ):leT σ M Q []=True:=rfl
def slotK (m:LM) (q:LQ) (M:LM) (Q:LQ) (x v:TV):Prop:=leV ⟨fun _=>none,ofL M,ofL Q⟩ ⟨fun _=>none,ofL m,ofL q⟩ (some x) v
theorem leT_some (l:LT) (m:LM) (q:LQ) (M:LM) (Q:LQ) (k:Nat) (v:TV) (L:LT):leT ⟨ofT l,ofL m,ofL q⟩ M Q ((k,some v) :: L)=(onSome (ofT l k) (fun x=>slotK m q M Q x v)∧leT ⟨ofT l,ofL m,ofL q⟩ M Q L):=by
 show (leV _ _ (ofT l k) v∧_)=_
 congr 1
 apply propext
 cases h:ofT l k with
 | none=>simp [onSome,leV]
 | some x=>rw [onSome_some];rfl
theorem slotK_av {m:LM} {q:LQ} {M:LM} {Q:LQ} {a:AV} {v:TV}:slotK m q M Q (.av a) v=(TV.av a=v):=by simp [slotK,leV]
theorem slotK_ref {m:LM} {q:LQ} {M:LM} {Q:LQ} {t o t' o':Nat}:slotK m q M Q (.ref t o) (.ref t' o')=(t=t'∧o=o'):=by simp [slotK,leV]
theorem slotK_osl {m:LM} {q:LQ} {M:LM} {Q:LQ} {t k o n t' k' o' n':Nat}:slotK m q M Q (.osl t k o n) (.osl t' k' o' n')=(t=t'∧k=k'∧o=o'∧n=n'):=by simp [slotK,leV]
end Go.Proofs.YtcaahphghaddgaaGreatDoor
