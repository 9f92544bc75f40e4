import Derived.Test.YtcaahphghaddgaaGreatDoorDXD
/- Text XE. -/
set_option linter.unusedSimpArgs false
set_option linter.unusedVariables false
namespace Go.Proofs.YtcaahphghaddgaaGreatDoor
open Go.RowKit Lim
def dstsO (n:Nat):List Oper→List Nat
 | []=>[]
 | o :: l=>match o.dst with
  | some t=>bif Nat.blt t n then t :: dstsO n l else dstsO n l
  | none=>dstsO n l
def rootO (os:List Oper):Nat→Nat→Nat
 | 0,a=>a
 | n+1,a=>match os.find? (fun o=>match o.dst with|some t=>Nat.beq t a|none=>false)with
  | some o=>(match o.op with
   | .fieldAddr _ (.tmp b) _=>rootO os n b
   | .indexAddr _ (.tmp b) _=>rootO os n b
   | .nilCheck (.tmp b)=>rootO os n b
   | .move (.tmp b)=>rootO os n b
   | _=>a)
  | none=>a
def stO (os:List Oper):List Oper→List Nat
 | []=>[]
 | o :: l=>match o.op with
  | .store _ (.tmp a) _=>rootO os os.length a :: stO os l
  | .call c=>(match c.callee,c.args.toList with
   | .builtin .copy,.tmp a :: _=>rootO os os.length a :: stO os l
   | _,_=>stO os l)
  | _=>stO os l
def writesC (n:Nat):Code→List Nat
 | .region _ ops _=>dstsO n ops.toList
 | .seq a b=>writesC n a ++ writesC n b
 | .cond _ a b=>writesC n a ++ writesC n b
 | .block _ c=>writesC n c
 | .loop c=>writesC n c
 | _=>[]
def storesC (lv:List (Nat × List Nat)):Code→List Nat
 | .region id ops _=>stO ops.toList ops.toList ++ (newsOf ops.toList ++ (lk lv id).getD [])
 | .seq a b=>storesC lv a ++ storesC lv b
 | .cond _ a b=>storesC lv a ++ storesC lv b
 | .block _ c=>storesC lv c
 | .loop c=>storesC lv c
 | _=>[]
def fuel:Nat:=18446744073709551616
structure How where
 sc:Scr
 jn:List Nat
 scr:List Nat
 ln:List (Nat × Nat)
 lv:List (Nat × List Nat)
 pin:Bool
 wk:List Nat
 un:Nat
def knownB (c:Operand) (s:VS) (b:Bool):VS:=match c with
 | .tmp t=>s.put (some t) (.v (.o (.c (cB b))))
 | _=>s
def joins (h:How):Code→Bool
 | .cond (.tmp t) _ _=>memN t h.jn
 | _=>false
def weakS:List Nat→VS→VS→VS
 | [],_,s=>s
 | t :: l,E,s=>weakS l E (match lk s.tm t with
  | some (some (.row n))=>(match lk s.own n with
   | some w=>bif w.nilB && (lk E.own n).isNone then { s with tm:=(t,some (.v (.o (.c w.ca)))) :: rmv t s.tm,own:=rmv n s.own } else s
   | none=>s)
  | _=>s)
section
variable {R:Type} (T:TyTab) (el:TypeId→Option VT) (sig:SigM) (A A0:Ask) (h:How) (fu:Nat)
def backV (E t s:VS) (ts:List VT):Option (denL ts):=(rdV E t s).bind fun cs=>decs ts cs
def tsOf (t:VS) (E:VS):Option (List VT):=(rdV E t t).map fun cs=>cs.map fun c=>c.t
def unrA {R:Type} (step:VS→(VS→Option R)→Option R) (n:Nat):VS→Option R :=
 Nat.rec (motive:=fun _=>VS→Option R) (fun _=>none) (fun _ ih s=>step s ih) n
def runV:Code→Nat→VS→VS→(Exit→VS→Option (Ans R))→Option (Ans R)
 | .skip,_,_,s,K=>K .normal s
 | .region id ops d,_,E,s,K=>regV T el sig A A0 h.sc h.ln h.scr E id ops.toList d s (K .normal)
 | .seq a b,dp,E,s,K=>bif joins h a && (allLt h.sc.n E.tm && noKeys h.scr E.tm) then
   (let s:=weakS h.wk E s
    let W:=writesC h.sc.n a ++ storesC h.lv a
    let M:=storesC h.lv a
    let t:=tmplV h.sc.n h.scr W M s
    let E':=joinVS (restV h.sc.n h.scr W M s) E
    (tsOf t E').bind fun ts=>joinA dp ts (runV a (dp+1) E' t fun e s'=>match e with
     | .normal=>(backV E' t (weakS h.wk E' s') ts).map fun x=>.cont dp ts x
     | e=>K e (joinVS s' (restV h.sc.n h.scr W M s))) fun x=>(refV t (ces ts x)).bind fun s'=>runV b dp E (joinVS s' (restV h.sc.n h.scr W M s)) K)
  else runV a dp E s fun e s'=>match e with
   | .normal=>runV b dp E s' K
   | e=>K e s'
 | .cond c a b,dp,E,s,K=>(getS E s c).bind fun v=>(match v with
   | .v (.o (.c ⟨.bool,x⟩))=>cond x
    (runV a dp E (knownB c s true) K)
    (runV b dp E (knownB c s false) K)
   | _=>none)
 | .block id c,dp,E,s,K=>runV c dp E s fun e s'=>match e with
   | .exit i=>bif Nat.beq i id then K .normal s' else K (.exit i) s'
   | e=>K e s'
 | .loop c,dp,E,s,K=>bif Nat.blt 0 h.un then unrA (fun s k=>runV c dp E s fun e s'=>match e with
   | .normal=>k s'
   | e=>K e s') h.un s else bif allLt h.sc.n E.tm && noKeys h.scr E.tm then
   (let s:=weakS h.wk E s
    let W:=writesC h.sc.n c ++ storesC h.lv c
    let M:=storesC h.lv c
    let t:=tmplV h.sc.n h.scr W M s
    let r:=restV h.sc.n h.scr W M s
    let E':=joinVS r E
    (tsOf t E').bind fun ts=>(backV E' t t ts).bind fun x0=>loopA dp ts (fun x=>(refV t (ces ts x)).bind fun s1=>runV c (dp+1) E' s1 fun e s'=>match e with
     | .normal=>(backV E' t (weakS h.wk E' s') ts).map fun x=>.cont dp ts x
     | e=>K e (joinVS s' r)) fu x0)
  else none
 | .exit id,_,_,s,K=>K (.exit id) s
 | .ret,_,_,s,K=>K .ret s
 | .label _,_,_,s,K=>K .normal s
 | _,_,_,_,_=>none
end
theorem decs_ces:∀{ts:List VT} {cs:List Ce} {x:denL ts},decs ts cs=some x→ces ts x=cs
 | [],[],x,h=>rfl
 | [],_ :: _,x,h=>by cases h
 | _ :: _,[],x,h=>by cases h
 | t :: ts,c :: cs,x,h=>by
  unfold decs at h
  obtain ⟨y,h1,h⟩:=bind_of h
  obtain ⟨z,h2,h3⟩:=Option.map_eq_some_iff.1 h
  subst h3
  simp only [ces,Ce.to_some h1,decs_ces h2]
def Ans.lt {R:Type} (dp:Nat):Ans R→Prop
 | .ret _=>True
 | .cont d _ _=>d<dp
theorem Ans.lt_mono {R:Type} {a b:Nat} (h:a≤b) {x:Ans R} (hx:x.lt a):x.lt b:=by
 cases x with
 | ret=>trivial
 | cont d ts y=>exact Nat.lt_of_lt_of_le hx h
theorem joinA_some {R:Type} {dp:Nat} {ts:List VT} {o:Option (Ans R)} {k:denL ts→Option (Ans R)} {a:Ans R} (h:joinA dp ts o k=some a):(∃x,o=some (.cont dp ts x)∧k x=some a)∨o=some a∧∀ts x,a≠.cont dp ts x:=by
 unfold joinA at h
 obtain ⟨b,h1,h⟩:=bind_of h
 cases b with
 | ret r=>cases h;exact .inr ⟨h1,fun _ _ e=>by cases e⟩
 | cont d us y =>
  simp only at h
  cases hd:Nat.beq d dp with
  | true =>
   rw [hd]at h
   simp only [cond_true]at h
   obtain ⟨z,h2,h⟩:=bind_of h
   obtain ⟨e,h3⟩:=castL_some h2
   have:=beq_of hd
   subst this
   subst e
   subst h3
   exact .inl ⟨_,h1,h⟩
  | false =>
   rw [hd]at h
   simp only [cond_false]at h
   cases h
   refine .inr ⟨h1,fun ts x e=>?_⟩
   cases e
   rw [Nat.beq_refl]at hd
   cases hd
theorem loopA_some {R:Type} {dp:Nat} {ts:List VT} {step:denL ts→Option (Ans R)} {n:Nat} {x:denL ts} {a:Ans R} (h:loopA dp ts step (n+1) x=some a):(∃y,step x=some (.cont dp ts y)∧loopA dp ts step n y=some a)∨step x=some a∧∀ts y,a≠.cont dp ts y:=by
 rw [loopA_succ]at h
 exact joinA_some (k:=loopA dp ts step n) h
section
variable {R:Type} {C:Ctx} {el:TypeId→Option VT} {sig:SigM} {A A0:Ask} {h:How} {fu:Nat}
theorem astep_ex {dr:Bool} {o:Oper} {σ:AS} {K:AS→Prop} (hs:astep C dr o σ K):∃τ,K τ:=by
 obtain ⟨dst,op,type,pos,after,guard⟩:=o
 unfold astep at hs
 split at hs
 ·obtain ⟨t,i,_,_,_,_,h⟩:=hs;exact ⟨_,h⟩
 ·obtain ⟨t,y,_,_,_,_,_,h⟩:=hs;exact ⟨_,h⟩
 ·obtain ⟨i,z,_,_,_,_,_,h⟩:=hs
  split at h
  ·obtain ⟨_,cs,_,_,h⟩:=h;exact ⟨_,h⟩
  ·obtain ⟨_,h⟩:=h
   split at h
   ·obtain ⟨_,_,el,_,_,h⟩:=h;exact ⟨_,h⟩
   ·obtain ⟨_,_,_,n,_,_,_,h⟩:=h;exact ⟨_,h⟩
   ·exact h.elim
  ·exact h.elim
 ·obtain ⟨fs,z,b,cs,_,_,_,h⟩:=hs;exact ⟨_,h⟩
 ·obtain ⟨e,k,l,z,b,i,cs,_,_,_,_,_,_,_,_,h⟩:=hs
  split at h
  ·obtain ⟨_,ns,_,h⟩:=h;exact ⟨_,h⟩
  ·exact ⟨_,h⟩
 ·obtain ⟨t,e,k,l,z,b,i,q1,q2,n,m,_,_,_,_,_,_,_,_,_,_,_,h⟩:=hs
  split at h
  ·obtain ⟨_,_,h⟩:=h;exact ⟨_,h⟩
  ·obtain ⟨_,_,h⟩:=h;exact ⟨_,h⟩
 ·obtain ⟨t,k,e,z,b,ki,_,_,_,_,h⟩:=hs;exact ⟨_,h⟩
 ·obtain ⟨k,e,z,b,ki,t,m,kv,yv,_,_,_,_,_,_,_,_,_,h⟩:=hs;exact ⟨_,h⟩
 ·split at hs
  ·obtain ⟨f,pre,post,args,r,_,_,_,_,h⟩:=hs;exact ⟨_,h⟩
  ·obtain ⟨d,x,y,ty,ty',e,k,l,z,b,i,xv,s,ov,yv,ov',_,_,_,_,_,_,_,_,_,_,_,_,_,_,_,_,h⟩:=hs;exact ⟨_,h⟩
  ·obtain ⟨x,y,ty,ty',e,k,l,z,b,t,off,n,ov,yv,m,yv',ov',_,_,_,_,_,_,_,_,_,_,h⟩:=hs;exact ⟨_,h⟩
  ·obtain ⟨f,pre,post,args,r,_,_,_,_,h⟩:=hs;exact ⟨_,h⟩
  ·obtain ⟨v,_,h⟩:=hs;exact ⟨_,h⟩
 ·obtain ⟨v,_,h⟩:=hs;exact ⟨_,h⟩
theorem arun_ex {dr:Bool} {ops:Array Oper} {K:AS→Prop}:∀(os:List Oper) (σ:AS),arun C dr ops os σ K→∃τ,K τ
 | [],σ,h=>⟨σ,h⟩
 | o :: os,σ,⟨b,_,h1,h2⟩=>by
  cases b with
  | true=>obtain ⟨τ,h⟩:=astep_ex (h1 rfl);exact arun_ex os τ h
  | false=>exact arun_ex os _ (h2 rfl)
theorem regV_ex (H:AskOK C sig A A0) {r:Ans R} {sc:Scr} {ln:List (Nat × Nat)} {scr:List Nat} {E s:VS} {id:Nat} {ops:Array Oper} {d:Bool} {k:VS→Option (Ans R)} (hr:regV C.T el sig A A0 sc ln scr E id ops.toList d s k=some r):∃s',k s'=some r:=by
 have h1:=regV_sound H (K:=fun _ _=>∃s',k s'=some r) (fun s' σ h1 _=>⟨s',h1⟩) hr
 have lent:∀(ops post:List Oper) (o:Oper) (os:Array Oper) (σ:AS),callL C o σ (fun σ2=>arun C d os post σ2 fun _=>∃s',k s'=some r)→∃s',k s'=some r:=fun _ post o os σ h=>by
  rcases h with h|h
  ·obtain ⟨f,args,tys,pm,po,LL,xs,M,O,r,M',O',_,_,_,_,_,_,_,_,_,_,_,h⟩:=h
   cases r with
   | av a=>obtain ⟨_,h⟩:=arun_ex _ _ h;exact h
   | avl a=>obtain ⟨_,h⟩:=h;obtain ⟨_,h⟩:=arun_ex _ _ h;exact h
   | osl c k off len=>obtain ⟨_,_,_,t,ov,_,_,_,_,_,h⟩:=h;obtain ⟨_,h⟩:=arun_ex _ _ h;exact h
   | _=>exact h.elim
  ·obtain ⟨ty',n,parts,t,e,k,z,b,i,cs,_,_,_,_,_,_,_,_,_,_,h⟩:=h
   obtain ⟨_,h⟩:=arun_ex _ _ h;exact h
 have h1:bif sc.ln.contains id then _ else _:=h1
 cases hln:sc.ln.contains id with
 | false=>rw [hln]at h1;obtain ⟨_,h⟩:=arun_ex _ _ h1;exact h
 | true =>
  rw [hln]at h1
  obtain ⟨pre,o,post,_,_,_,h1⟩:=h1
  obtain ⟨_,h⟩:=arun_ex _ _ h1
  exact lent ops.toList post o ops _ h
theorem runV_ex (H:AskOK C sig A A0):∀(c:Code) (dp:Nat) (E s:VS) (K:Exit→VS→Option (Ans R)) (a:Ans R),runV C.T el sig A A0 h fu c dp E s K=some a→∃e s',K e s'=some a:=by
 intro c
 induction c with
 | skip=>intro dp E s K a ha;exact ⟨_,_,ha⟩
 | region id ops d=>intro dp E s K a ha;obtain ⟨s',h1⟩:=regV_ex H ha;exact ⟨_,s',h1⟩
 | seq x y ihx ihy =>
  intro dp E s K a ha
  unfold runV at ha
  cases hj:joins h x && (allLt h.sc.n E.tm && noKeys h.scr E.tm)with
  | true =>
   rw [hj]at ha
   simp only [cond_true]at ha
   obtain ⟨ts,_,ha⟩:=bind_of ha
   rcases joinA_some ha with ⟨z,h1,h2⟩|⟨h1,h2⟩
   ·obtain ⟨s',_,h2⟩:=bind_of h2
    exact ihy dp E _ K a h2
   ·obtain ⟨e,s',h3⟩:=ihx _ _ _ _ _ h1
    cases e with
    | normal=>obtain ⟨z,_,h4⟩:=Option.map_eq_some_iff.1 h3;exact absurd h4.symm (h2 _ _)
    | _=>exact ⟨_,_,h3⟩
  | false =>
   rw [hj]at ha
   simp only [cond_false]at ha
   obtain ⟨e,s',h3⟩:=ihx _ _ _ _ _ ha
   cases e with
   | normal=>exact ihy _ _ _ _ _ h3
   | _=>exact ⟨_,_,h3⟩
 | cond c x y ihx ihy =>
  intro dp E s K a ha
  unfold runV at ha
  obtain ⟨v,hv,ha⟩:=bind_of ha
  split at ha
  ·rename_i b
   cases b with
   | true=>exact ihx _ _ _ _ _ ha
   | false=>exact ihy _ _ _ _ _ ha
  ·cases ha
 | block id c ih =>
  intro dp E s K a ha
  obtain ⟨e,s',h3⟩:=ih _ _ _ _ _ ha
  cases e with
  | exit i =>
   simp only at h3
   cases hb:Nat.beq i id with
   | true=>rw [hb]at h3;exact ⟨_,_,h3⟩
   | false=>rw [hb]at h3;exact ⟨_,_,h3⟩
  | _=>exact ⟨_,_,h3⟩
 | loop c ih =>
  intro dp E s K a ha
  unfold runV at ha
  cases hu:Nat.blt 0 h.un with
  | true =>
   rw [hu,cond_true]at ha
   have key:∀n s,unrA (fun s k=>runV C.T el sig A A0 h fu c dp E s fun e s'=>match e with|.normal=>k s'|e=>K e s') n s=some a→∃e s',K e s'=some a:=by
    intro n
    induction n with
    | zero=>intro s hx;cases hx
    | succ n ihn =>
     intro s hx
     obtain ⟨e,s',h3⟩:=ih _ _ _ _ _ hx
     cases e with
     | normal=>exact ihn _ h3
     | _=>exact ⟨_,_,h3⟩
   exact key _ _ ha
  | false =>
  rw [hu,cond_false]at ha
  obtain ⟨_,ha⟩:=bif_of ha
  obtain ⟨ts,_,ha⟩:=bind_of ha
  obtain ⟨x0,_,ha⟩:=bind_of ha
  have key:∀(step:denL ts→Option (Ans R)) (_:∀x b,step x=some b→(∀ts y,b≠.cont dp ts y)→∃e s',K e s'=some b) (n:Nat) (x:denL ts),loopA dp ts step n x=some a→∃e s',K e s'=some a:=by
   intro step hstep n
   induction n with
   | zero=>intro x hx;cases hx
   | succ n ihn =>
    intro x hx
    unfold loopA at hx
    rcases joinA_some (k:=loopA dp ts step n) hx with ⟨y,_,h2⟩|⟨h1,h2⟩
    ·exact ihn y h2
    ·exact hstep x a h1 h2
  refine key _ (fun x b h1 h2=>?_) _ _ ha
  obtain ⟨s1,_,h1⟩:=bind_of h1
  obtain ⟨e,s',h3⟩:=ih _ _ _ _ _ h1
  cases e with
  | normal=>obtain ⟨z,_,h4⟩:=Option.map_eq_some_iff.1 h3;exact absurd h4.symm (h2 _ _)
  | _=>exact ⟨_,_,h3⟩
 | exit id=>intro dp E s K a ha;exact ⟨_,_,ha⟩
 | ret=>intro dp E s K a ha;exact ⟨_,_,ha⟩
 | label l=>intro dp E s K a ha;exact ⟨_,_,ha⟩
 | _=>intro dp E s K a ha;cases ha
end
end Go.Proofs.YtcaahphghaddgaaGreatDoor
