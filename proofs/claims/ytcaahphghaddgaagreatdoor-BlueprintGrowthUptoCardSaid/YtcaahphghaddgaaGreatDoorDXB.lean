import Derived.Test.YtcaahphghaddgaaGreatDoorDXA
/- Text XB. -/
set_option linter.unusedSimpArgs false
set_option linter.unusedVariables false
namespace Go.Proofs.YtcaahphghaddgaaGreatDoor
open Go.RowKit Lim
def memN (x:Nat):List Nat→Bool
 | []=>false
 | k :: l=>Nat.beq x k || memN x l
theorem memN_eq (x:Nat):∀l:List Nat,memN x l=l.contains x
 | []=>rfl
 | k :: l=>by
  simp only [memN,List.contains_cons,memN_eq x l,beq_iff]
  rfl
def staleV (d:Bool) (x:Nat) (bad:List Nat):SV→Option SV
 | .ref t o=>bif memN t bad || (d && !Nat.beq t x) then none else some (.ref t o)
 | .oref t i o=>bif d then none else some (.oref t i o)
 | v=>some v
def prepTm (n:Nat) (d:Bool) (bad:List Nat):List Nat→List (Nat × Option SV)→List (Nat × Option SV)
 | _,[]=>[]
 | seen,(k,v) :: l=>bif Nat.blt k n && !memN k seen then (k,v.bind (staleV d k bad)) :: prepTm n d bad (k :: seen) l else prepTm n d bad seen l
def okTm (n:Nat) (d:Bool) (bad:List Nat):List (Nat × Option SV)→Bool
 | []=>true
 | (k,some v) :: l=>Nat.blt k n && (match v with
  | .ref t _=>!(memN t bad || (d && !Nat.beq t k))
  | .oref _ _ _=>!d
  | _=>true) && okTm n d bad l
 | (k,none) :: l=>Nat.blt k n && okTm n d bad l
def noKeys (scr:List Nat):List (Nat × Option SV)→Bool
 | []=>true
 | (k,_) :: l=>!memN k scr && noKeys scr l
theorem noKeys_of {scr:List Nat}:∀{l:List (Nat × Option SV)} {x:Nat} {v:Option SV},noKeys scr l=true→lk l x=some v→memN x scr=false
 | (k,u) :: l,x,v,h,hx=>by
  simp only [noKeys,Bool.and_eq_true,Bool.not_eq_true']at h
  rw [lk_cons]at hx
  by_cases he:x=k
  ·subst he;exact h.1
  ·rw [if_neg he]at hx;exact noKeys_of h.2 hx
def ptrTm (m:List (Nat × List Ce)) (ts:List Nat):List (Nat × Option SV)→List (Nat × Option SV)
 | []=>[]
 | (k,some (.ref t o)) :: l=>(k,bif memN t ts then (lk m t).map fun cs=>.v (.o (.ptr (cs.drop o))) else some (.ref t o)) :: ptrTm m ts l
 | (k,v) :: l=>(k,v) :: ptrTm m ts l
def rmvs {α:Type}:List Nat→List (Nat × α)→List (Nat × α)
 | [],l=>l
 | t :: ts,l=>rmvs ts (rmv t l)
def frzV0 (E s:VS) (ts:List Nat):Option VS:=match ts with
 | []=>some s
 | ts=>bif ts.all (fun t=>noneUses (usesM t) E.tm && (lk E.mem t).isNone) then some { s with tm:=ptrTm s.mem ts s.tm,mem:=rmvs ts s.mem } else none
section
variable {R:Type}
def arunV (T:TyTab) (el:TypeId→Option VT) (sig:SigM) (A A0:Ask) (E:VS) (dr:Bool) (ops:List Oper):List Oper→VS→(VS→Option R)→Option R
 | [],s,k=>k s
 | o :: os,s,k=>match o.guard with
  | none=>stepS T el sig A A0 E dr o s fun s'=>arunV T el sig A A0 E dr ops os s' k
  | some (j,w)=>(ops[j]?).bind fun oj=>oj.dst.bind fun g=>(slot E s g).bind fun v=>(match v with
   | .skip=>arunV T el sig A A0 E dr ops os (s.put o.dst .skip) k
   | .v (.o (.c ⟨.bool,b⟩))=>cond b
     (match w with
     | true=>stepS T el sig A A0 E dr o (s.put (some g) (.v (.o (.c (cB true))))) fun s'=>arunV T el sig A A0 E dr ops os s' k
     | false=>arunV T el sig A A0 E dr ops os ((s.put (some g) (.v (.o (.c (cB true))))).put o.dst .skip) k)
     (match w with
     | false=>stepS T el sig A A0 E dr o (s.put (some g) (.v (.o (.c (cB false))))) fun s'=>arunV T el sig A A0 E dr ops os s' k
     | true=>arunV T el sig A A0 E dr ops os ((s.put (some g) (.v (.o (.c (cB false))))).put o.dst .skip) k)
   | _=>none)
def lentsOf:Nat→List V→List (Nat × Nat × List Ce)
 | _,[]=>[]
 | k,.lent off cs :: l=>(k,off,cs) :: lentsOf (k+1) l
 | k,.o _ :: l=>lentsOf (k+1) l
 | k,.fn _ _ _ :: l=>lentsOf (k+1) l
def keysN {α:Type}:List (Nat × α)→List Nat
 | []=>[]
 | (k,_) :: l=>k :: keysN l
def zipN {α:Type}:List Nat→List α→List (Nat × α)
 | k :: l,x :: m=>(k,x) :: zipN l m
 | _,_=>[]
def gL:List (Nat × Nat × List Ce)→Sig
 | []=>[]
 | (_,_,cs) :: l=>.agg (cs.map Ce.t) :: gL l
def largsS (T:TyTab) (E s:VS) (el:TypeId→Option VT):List Operand→List TypeId→(List V→List Nat→Option R)→Option R
 | [],_,k=>k [] []
 | x :: xs,tys,k=>(getS E s x).bind fun v=>(match v with
  | .ref t off=>(memv E s t).bind fun cs=>largsS T E s el xs tys.tail fun as' ts=>k (.lent off cs :: as') (t :: ts)
  | v=>argS T E s el (tys.headD 0) v fun a us=>bif us.isEmpty && a.plain then largsS T E s el xs tys.tail fun as' ts=>k (a :: as') ts else none)
def giveM:List Nat→List V0→VS→Option VS
 | [],[],s=>some s
 | t :: ts,.agg cs :: l,s=>giveM ts l { s with mem:=(t,cs) :: rmv t s.mem }
 | _,_,_=>none
def callLV (T:TyTab) (el:TypeId→Option VT) (sig:SigM) (A A0:Ask) (E:VS) (o:Oper) (s:VS) (k:VS→Option R):Option R:=match o.op with
 | .call ⟨.value (.func f),args,tys⟩=>largsS T E s el args.toList tys.toList fun as' ts=>(sig.g f).bind fun g =>
   bif nodupB ts && nodupB (keysN (lentsOf 0 as')) && !as'.all V.plain then (bif cold E s then A f as' (g ++ gL (lentsOf 0 as')) else A0 f as' (g ++ gL (lentsOf 0 as'))).bind fun x =>
    (giveM ts ((unflat (g ++ gL (lentsOf 0 as')) (ces (Sig.ts (g ++ gL (lentsOf 0 as'))) x)).drop g.length) s).bind fun s'=>k (s'.put o.dst (packV ((unflat (g ++ gL (lentsOf 0 as')) (ces (Sig.ts (g ++ gL (lentsOf 0 as'))) x)).take g.length))) else none
 | .buildSlice ty n parts=>bif Nat.beq n 0 && parts.toList.isEmpty then o.dst.bind fun d=>(T ty).bind fun i=>(match i.kind with
  | .slc e q false=>(T e).bind fun j=>(el e).bind fun vt=>bif Nat.beq j.zero.length q && (Nat.blt 0 q && (vt.nl && Nat.beq vt.size q)) then (fresh E s none d (.row false e q vt [])).bind k else none
  | _=>none) else none
 | _=>none
def lentV (T:TyTab) (el:TypeId→Option VT) (sig:SigM) (A A0:Ask) (E:VS) (d:Bool) (ops:List Oper) (n:Nat) (s:VS) (k:VS→Option R):Option R :=
 (ops[n]?).bind fun o=>bif o.guard.isNone && (!d || sepB (List.toArray ops) n) then arunV T el sig A A0 E d ops (ops.take n) s fun s1=>callLV T el sig A A0 E o s1 fun s2=>arunV T el sig A A0 E d ops (ops.drop (n+1)) s2 k else none
def regV (T:TyTab) (el:TypeId→Option VT) (sig:SigM) (A A0:Ask) (sc:Scr) (ln:List (Nat × Nat)) (scr:List Nat) (E:VS) (id:Nat) (ops:List Oper) (d:Bool) (s:VS) (k:VS→Option R):Option R :=
 (frzV0 E s (fzAt sc.fz id)).bind fun s=>bif okTm sc.n d (badOf d ops) E.tm && noKeys scr E.tm then (bif memN id sc.ln then (lk ln id).bind fun n=>lentV T el sig A A0 E d ops n { s with tm:=prepTm sc.n d (badOf d ops) scr s.tm } k else arunV T el sig A A0 E d ops ops { s with tm:=prepTm sc.n d (badOf d ops) scr s.tm } k) else none
end
section
variable {R:Type} {r:R} {C:Ctx} {E s:VS} {el:TypeId→Option VT} {sig:SigM} {A A0:Ask} {dr:Bool} {ops:Array Oper}
theorem put_same {g:Nat} {b:Bool} (h:slot E s g=some (.v (.o (.c ⟨.bool,b⟩)))):AS.le0 (era E (s.put (some g) (.v (.o (.c (cB b)))))) (era E s):=by
 refine (put_le (E:=E) (s:=s) (d:=some g) (v:=.v (.o (.c (cB b)))) rfl).trans ?_
 refine ⟨fun x v hx=>?_,fun x v hx=>hx,fun x v hx=>hx,fun x v hx _=>hx⟩
 have hx:upd (era E s).tm g _ x=some v:=hx
 by_cases he:x=g
 ·subst he
  rw [upd_same]at hx
  show (slot E s x).bind _=_
  rw [h]
  exact hx
 ·rw [upd_ne _ _ he]at hx;exact hx
theorem arunV_sound (hM:MeOK C.P sig) (hA:∀f args g x,args.all V.plain=true→A f args g=some x→ACalls C.t f (args.map V.av) (resO g x)∨ACalls C f (args.map V.av) (resO g x)) (hA0:∀f args g x,args.all V.plain=true→A0 f args g=some x→ACalls C.t f (args.map V.av) (resO g x)) {k:VS→Option R} {K:AS→Prop} (hK:∀s' σ,k s'=some r→AS.le0 (era E s') σ→K σ) :
  ∀(os:List Oper) (s:VS) (σ:AS),arunV C.T el sig A A0 E dr ops.toList os s k=some r→AS.le0 (era E s) σ→arun C dr ops os σ K
 | [],s,σ,h,hl=>hK s σ h hl
 | o :: os,s,σ,h,hl=>by
  have ih:=arunV_sound hM hA hA0 hK os
  have step:∀(s:VS) (σ:AS),AS.le0 (era E s) σ→stepS C.T el sig A A0 E dr o s (fun s'=>arunV C.T el sig A A0 E dr ops.toList os s' k)=some r→astep C dr o σ (fun σ'=>arun C dr ops os σ' K):=fun s σ hl h =>
   astep_le0 hl (fun τ' σ' hle ⟨s',h1,h2⟩=>ih s' σ' h1 (h2.trans hle)) (stepS_sound hM hA hA0 h)
  unfold arunV at h
  cases hg:o.guard with
  | none =>
   rw [hg]at h
   simp only at h
   exact ⟨true,by unfold wantedA;rw [hg],fun _=>step s σ hl h,fun hh=>by cases hh⟩
  | some p =>
   obtain ⟨j,w⟩:=p
   rw [hg]at h
   simp only at h
   obtain ⟨oj,h1,h⟩:=bind_of h
   obtain ⟨g,h2,h⟩:=bind_of h
   obtain ⟨v,h3,h⟩:=bind_of h
   have hj:(ops[j]?).bind (·.dst)=some g:=by
    have:ops[j]? = some oj:=by simpa using h1
    rw [this];exact h2
   split at h
   ·have ht:σ.tm g=some .skip:=hl.tm g _ (by show (slot E s g).bind _=_;rw [h3];rfl)
    refine ⟨false,?_,fun hh=>(by cases hh),fun _=>ih _ _ h ((put_le (E:=E) (v:=.skip) rfl).trans (put_le0 hl _ _))⟩
    unfold wantedA
    rw [hg]
    simp only [hj,ht]
   ·rename_i b
    have ht:σ.tm g=some (.av (.lit (.bool b))):=hl.tm g _ (by show (slot E s g).bind _=_;rw [h3];rfl)
    have hs:=(put_same h3).trans hl
    refine ⟨b == w,?_,fun hh=>?_,fun hh=>?_⟩
    ·unfold wantedA
     rw [hg]
     simp only [hj,ht]
    ·cases b <;> cases w <;> first|(cases hh;done)|exact step _ σ hs h
    ·cases b <;> cases w <;> first|(cases hh;done)|exact ih _ _ h ((put_le (E:=E) (v:=.skip) rfl).trans (put_le0 hs _ _))
   ·cases h
theorem lk_prep (n:Nat) (d:Bool) (bad:List Nat) (x:Nat):∀(l:List (Nat × Option SV)) (seen:List Nat),memN x seen=false→lk (prepTm n d bad seen l) x=if x<n then (lk l x).map (fun v=>v.bind (staleV d x bad)) else none
 | [],seen,_=>by simp [prepTm,lk]
 | (k,v) :: l,seen,hs=>by
  simp only [prepTm]
  cases hk:Nat.blt k n && !memN k seen with
  | true =>
   obtain ⟨h1,h2⟩:=band_of hk
   have h1:=blt_of h1
   simp only [cond_true]
   rw [lk_cons,lk_cons]
   by_cases he:x=k
   ·subst he;simp [h1]
   ·rw [if_neg he,if_neg he]
    exact lk_prep n d bad x l (k :: seen) (by simp only [memN,hs,Bool.or_false,beq_iff];simpa using he)
  | false =>
   simp only [cond_false]
   rw [lk_prep n d bad x l seen hs,lk_cons]
   by_cases he:x=k
   ·subst he
    rw [hs,Bool.not_false,Bool.and_true]at hk
    have:¬x<n:=fun hlt=>by
     have:Nat.blt x n=true:=Nat.ble_eq_true_of_le hlt
     rw [hk]at this;cases this
    simp [this]
   ·rw [if_neg he]
theorem lk_prep_seen (n:Nat) (d:Bool) (bad:List Nat) (x:Nat):∀(l:List (Nat × Option SV)) (seen:List Nat),memN x seen=true→lk (prepTm n d bad seen l) x=none
 | [],seen,_=>rfl
 | (k,v) :: l,seen,hs=>by
  simp only [prepTm]
  cases hk:Nat.blt k n && !memN k seen with
  | true =>
   obtain ⟨h1,h2⟩:=band_of hk
   simp only [cond_true]
   rw [lk_cons]
   by_cases he:x=k
   ·subst he;rw [hs]at h2;cases h2
   ·rw [if_neg he]
    exact lk_prep_seen n d bad x l (k :: seen) (by simp only [memN,hs,Bool.or_true])
  | false =>
   simp only [cond_false]
   exact lk_prep_seen n d bad x l seen hs
theorem stale_era {d:Bool} {x:Nat} {bad:List Nat} {v v':SV} {f:Nat→Option RW} {tv:TV} (h:staleV d x bad v=some v') (he:eraSV f v'=some tv):v'=v∧staleK d x bad tv=some tv:=by
 cases v with
 | ref t o =>
  simp only [staleV,memN_eq,beq_iff]at h
  cases hc:bad.contains t || (d && !decide (t=x))with
  | true=>rw [hc]at h;cases h
  | false =>
   rw [hc]at h
   cases h
   cases he
   refine ⟨rfl,?_⟩
   simp only [staleK]
   have:(d && t != x)=(d && !decide (t=x)):=by cases d <;> simp [bne,BEq.beq]
   rw [this,hc];rfl
 | oref t i o =>
  cases d with
  | true=>cases h
  | false =>
   cases h
   refine ⟨rfl,?_⟩
   simp only [eraSV]at he
   obtain ⟨w,_,rfl⟩:=Option.map_eq_some_iff.1 he
   rfl
 | row t =>
  cases h
  refine ⟨rfl,?_⟩
  simp only [eraSV]at he
  obtain ⟨w,_,rfl⟩:=Option.map_eq_some_iff.1 he
  unfold RW.tv
  cases w.nilB <;> cases w.isMap <;> rfl
 | _=>cases h;cases he;exact ⟨rfl,rfl⟩
theorem ok_era {n:Nat} {d:Bool} {bad:List Nat}:∀{l:List (Nat × Option SV)} {x:Nat} {v:SV},okTm n d bad l=true→lk l x=some (some v)→x<n∧staleV d x bad v=some v
 | (k,some u) :: l,x,v,h,hx=>by
  simp only [okTm,Bool.and_eq_true]at h
  rw [lk_cons]at hx
  by_cases he:x=k
  ·subst he
   rw [if_pos rfl]at hx
   cases hx
   refine ⟨blt_of h.1.1,?_⟩
   have:=h.1.2
   cases u with
   | ref t o =>
    simp only [Bool.not_eq_true']at this
    simp only [staleV,this,cond_false]
   | oref t i o =>
    simp only [Bool.not_eq_true']at this
    subst this
    rfl
   | _=>rfl
  ·rw [if_neg he]at hx;exact ok_era h.2 hx
 | (k,none) :: l,x,v,h,hx=>by
  simp only [okTm,Bool.and_eq_true]at h
  rw [lk_cons]at hx
  by_cases he:x=k
  ·rw [if_pos he]at hx;cases hx
  ·rw [if_neg he]at hx;exact ok_era h.2 hx
theorem prepV_le {n:Nat} {d:Bool} {ops:Array Oper} {scr:List Nat} (h:okTm n d (badOf d ops.toList) E.tm=true) (hs:noKeys scr E.tm=true):AS.le0 (era E { s with tm:=prepTm n d (badOf d ops.toList) scr s.tm }) (prep n d ops (era E s)):=by
 refine ⟨fun x v hx=>?_,fun x v hx=>hx,fun x v hx=>hx,fun x v hx _=>hx⟩
 have hx:(slot E ⟨prepTm n d (badOf d ops.toList) scr s.tm,s.mem,s.own⟩ x).bind (eraSV (rowv E s))=some v:=hx
 obtain ⟨u,h1,h2⟩:=bind_of hx
 have key:x<n∧∃u0,slot E s x=some u0∧staleV d x (badOf d ops.toList) u0=some u:=by
  rcases slot_some.1 h1 with q|⟨q1,q2⟩
  ·have hx0:memN x scr=false:=by
    cases hm:memN x scr with
    | false=>rfl
    | true=>simp only [lk_prep_seen _ _ _ _ _ _ hm]at q;cases q
   simp only [lk_prep _ _ _ _ _ _ hx0]at q
   by_cases hlt:x<n
   ·rw [if_pos hlt]at q
    obtain ⟨w,h3,h4⟩:=Option.map_eq_some_iff.1 q
    cases w with
    | none=>cases h4
    | some w=>exact ⟨hlt,w,slot_some.2 (.inl h3),h4⟩
   ·rw [if_neg hlt]at q;cases q
  ·obtain ⟨hlt,h3⟩:=ok_era h q2
   simp only [lk_prep _ _ _ _ _ _ (noKeys_of hs q2),hlt,if_true,Option.map_eq_none_iff]at q1
   exact ⟨hlt,u,slot_some.2 (.inr ⟨q1,q2⟩),h3⟩
 obtain ⟨hlt,u0,h3,h4⟩:=key
 obtain ⟨rfl,h5⟩:=stale_era h4 h2
 simp only [prep,hlt,if_true]
 show ((slot E s x).bind _).bind _=_
 rw [h3,Option.bind_some,h2]
 exact h5
theorem lk_ptr (m:List (Nat × List Ce)) (ts:List Nat) (x:Nat):∀l:List (Nat × Option SV),lk (ptrTm m ts l) x=(lk l x).map (fun v=>v.bind fun v=>match v with|.ref t o=>bif memN t ts then (lk m t).map fun cs=>.v (.o (.ptr (cs.drop o))) else some (.ref t o)|v=>some v)
 | []=>rfl
 | (k,v) :: l=>by
  have e:ptrTm m ts ((k,v) :: l)=(k,v.bind fun v=>match v with|.ref t o=>bif memN t ts then (lk m t).map fun cs=>.v (.o (.ptr (cs.drop o))) else some (.ref t o)|v=>some v) :: ptrTm m ts l:=by
   cases v with
   | none=>rfl
   | some v=>cases v <;> rfl
  rw [e,lk_cons,lk_cons]
  by_cases he:x=k
  ·simp [he]
  ·simp [he,lk_ptr m ts x l]
theorem lk_rmvs {α:Type} (x:Nat):∀(ts:List Nat) (l:List (Nat × α)),lk (rmvs ts l) x=if ts.contains x then none else lk l x
 | [],l=>by simp [rmvs]
 | t :: ts,l=>by
  simp only [rmvs,lk_rmvs x ts,lk_rmv,List.contains_cons]
  by_cases h1:x=t
  ·simp [h1]
  ·simp [h1]
theorem frzV0_le {ts:List Nat} {s':VS} (h:frzV0 E s ts=some s'):AS.le0 (era E s') ((era E s).frzB ts):=by
 unfold frzV0 at h
 split at h
 ·cases h
  have:(era E s).frzB []=era E s:=by
   simp only [AS.frzB,List.contains_nil,cond_false]
   have:∀v:Option TV,v.bind (frzBT (era E s).mem [])=v:=fun v=>by
    cases v with
    | none=>rfl
    | some v=>cases v <;> rfl
   simp only [this]
  rw [this]
  exact le0_refl _
 ·obtain ⟨h1,h⟩:=bif_of h
  cases h
  have hE:∀t,ts.contains t=true→noneUses (usesM t) E.tm=true∧lk E.mem t=none:=fun t ht=>by
   have:=List.all_eq_true.1 h1 t (by simpa using ht)
   simpa using this
  refine ⟨fun x v hx=>?_,fun x v hx=>?_,fun x v hx=>hx,fun x v hx _=>hx⟩
  ·have hx:(slot E ⟨ptrTm s.mem ts s.tm,rmvs ts s.mem,s.own⟩ x).bind (eraSV (rowv E s))=some v:=hx
   obtain ⟨u,h2,h3⟩:=bind_of hx
   show ((slot E s x).bind (eraSV (rowv E s))).bind (frzBT (era E s).mem ts)=some v
   rcases slot_some.1 h2 with q|⟨q1,q2⟩
   ·simp only [lk_ptr]at q
    obtain ⟨w,h4,h5⟩:=Option.map_eq_some_iff.1 q
    cases w with
    | none=>cases h5
    | some w =>
    have hw:slot E s x=some w:=slot_some.2 (.inl h4)
    rw [hw,Option.bind_some]
    simp only [Option.bind_some]at h5
    cases w with
    | ref t o =>
     simp only [memN_eq]at h5
     simp only [eraSV,Option.bind_some,frzBT]
     cases hc:ts.contains t with
     | true =>
      rw [hc]at h5
      simp only [cond_true]at h5 ⊢
      obtain ⟨cs,h6,rfl⟩:=Option.map_eq_some_iff.1 h5
      cases h3
      have:(era E s).mem t=some (cs.map Ce.av):=by show (memv E s t).map _=_;unfold memv;rw [h6];rfl
      rw [this]
      simp [V.av,V0.av,List.map_drop]
     | false=>rw [hc]at h5;cases h5;exact h3
    | row t =>
     cases h5
     rw [h3,Option.bind_some]
     simp only [eraSV]at h3
     obtain ⟨w,_,rfl⟩:=Option.map_eq_some_iff.1 h3
     unfold RW.tv
     cases w.nilB <;> cases w.isMap <;> rfl
    | oref t i o =>
     cases h5
     rw [h3,Option.bind_some]
     simp only [eraSV]at h3
     obtain ⟨w,_,rfl⟩:=Option.map_eq_some_iff.1 h3
     rfl
    | _=>cases h5;cases h3;rfl
   ·simp only [lk_ptr,Option.map_eq_none_iff]at q1
    have hw:slot E s x=some u:=slot_some.2 (.inr ⟨q1,q2⟩)
    rw [hw,Option.bind_some,h3,Option.bind_some]
    cases u with
    | ref t o =>
     cases h3
     simp only [frzBT]
     cases hc:ts.contains t with
     | true =>
      have:=noneUses_of (hE t hc).1 q2
      simp [usesM]at this
     | false=>rfl
    | row t =>
     simp only [eraSV]at h3
     obtain ⟨w,_,rfl⟩:=Option.map_eq_some_iff.1 h3
     unfold RW.tv
     cases w.nilB <;> cases w.isMap <;> rfl
    | oref t i o =>
     simp only [eraSV]at h3
     obtain ⟨w,_,rfl⟩:=Option.map_eq_some_iff.1 h3
     rfl
    | _=>cases h3;rfl
  ·have hx:(memv E ⟨ptrTm s.mem ts s.tm,rmvs ts s.mem,s.own⟩ x).map (List.map Ce.av)=some v:=hx
   show (bif ts.contains x then none else (memv E s x).map (List.map Ce.av))=some v
   unfold memv at hx ⊢
   simp only [lk_rmvs]at hx
   cases hc:ts.contains x with
   | true =>
    rw [hc]at hx
    simp only [if_true]at hx
    rw [(hE x hc).2]at hx
    cases hx
   | false=>rw [hc]at hx;exact hx
def xsFrom:Nat→List V→List TV
 | _,[]=>[]
 | k,.lent off _ :: l=>.ref k off :: xsFrom (k+1) l
 | k,.o x :: l=>.av x.av :: xsFrom (k+1) l
 | k,.fn f a b :: l=>.av (V.fn f a b).av :: xsFrom (k+1) l
def memK:List (Nat × Nat × List Ce)→List (Nat × List AV)
 | []=>[]
 | (k,_,cs) :: l=>(k,cs.map Ce.av) :: memK l
def LentC (C:Ctx) (f:FuncId) (args:List V) (rs:List V0):Prop :=
 ∃(l:List V0) (m:List (List Ce)),rs=l ++ m.map V0.agg∧m.length=(lentsOf 0 args).length∧LCalls C f (xsFrom 0 args) (ofL (memK (lentsOf 0 args))) (ofL []) (.av (packA (l.map V0.av))) (ofL (zipN (keysN (lentsOf 0 args)) (m.map (List.map Ce.av)))) (ofL [])
theorem keysN_len {α:Type}:∀l:List (Nat × α),(keysN l).length=l.length
 | []=>rfl
 | _ :: l=>by simp only [keysN,List.length_cons,keysN_len l]
theorem zipN_fst {α:Type}:∀(l:List Nat) (m:List α),l.length=m.length→(zipN l m).map (·.1)=l
 | [],[],_=>rfl
 | k :: l,x :: m,h=>by simp only [zipN,List.map_cons,zipN_fst l m (by simpa using h)]
 | [],_ :: _,h=>by cases h
 | _ :: _,[],h=>by cases h
theorem zipN_snd {α:Type}:∀(l:List Nat) (m:List α),l.length=m.length→(zipN l m).map (·.2)=m
 | [],[],_=>rfl
 | k :: l,x :: m,h=>by simp only [zipN,List.map_cons,zipN_snd l m (by simpa using h)]
 | [],_ :: _,h=>by cases h
 | _ :: _,[],h=>by cases h
theorem ofL_in {α:Type}:∀(l:List (Nat × α)),(l.map (·.1)).Nodup→∀c x,(c,x)∈l→ofL l c=some x
 | (k,v) :: l,hn,c,x,h=>by
  simp only [List.map_cons,List.nodup_cons]at hn
  simp only [ofL]
  rcases List.mem_cons.1 h with e|h
  ·cases e;rw [if_pos rfl]
  ·rw [if_neg (fun e=>hn.1 (by rw [←e];exact List.mem_map_of_mem (f:=(·.1)) h))]
   exact ofL_in l hn.2 c x h
theorem largsS_sound:∀(xs:List Operand) (tys:List TypeId) (j:Nat) {k:List V→List Nat→Option R},largsS C.T E s el xs tys k=some r→∃as' ts,k as' ts=some r∧ts.length=(lentsOf j as').length∧lends (era E s).mem (zipN (keysN (lentsOf j as')) ts) (memK (lentsOf j as')) ∧
  ∀pm:List (Nat × Nat),(∀c t,(c,t)∈zipN (keysN (lentsOf j as')) ts→(c,t)∈pm)→asksL C (era E s) pm [] xs tys (xsFrom j as')
 | [],_,j,k,h=>⟨[],[],h,rfl,trivial,fun _ _=>rfl⟩
 | x :: xs,tys,j,k,h=>by
  unfold largsS at h
  obtain ⟨v,h1,h⟩:=bind_of h
  have hget:=getS_sound h1
  split at h
  ·rename_i t off
   obtain ⟨cs,h2,h⟩:=bind_of h
   obtain ⟨as',ts,h,h3,h4,h5⟩:=largsS_sound xs tys.tail (j+1) h
   refine ⟨_,_,h,by simp only [lentsOf,List.length_cons,h3],?_,fun pm hp=>?_⟩
   ·refine ⟨rfl,?_,h4⟩
    show (memv E s t).map _=_
    rw [h2];rfl
   ·exact ⟨.ref t off,.ref j off,_,hget,⟨j,hp j t List.mem_cons_self,rfl⟩,rfl,h5 pm fun c t hc=>hp c t (List.mem_cons_of_mem _ hc)⟩
  ·obtain ⟨a,us,tv,h,h2,h3,h4⟩:=argS_sound h
   obtain ⟨h5,h⟩:=bif_of h
   obtain ⟨h5,h6⟩:=band_of h5
   obtain ⟨as',ts,hh,h7,h8,h9⟩:=largsS_sound xs tys.tail (j+1) h
   have hus:us=[]:=List.isEmpty_iff.1 h5
   subst hus
   rw [h2]at hget
   have hx:xsFrom j (a :: as')=.av a.av :: xsFrom (j+1) as'∧lentsOf j (a :: as')=lentsOf (j+1) as':=by
    cases a with
    | lent _ _=>cases h6
    | _=>exact ⟨rfl,rfl⟩
   refine ⟨_,_,hh,?_,?_,fun pm hp=>?_⟩
   ·rw [hx.2];exact h7
   ·rw [hx.2];exact h8
   ·rw [hx.1]
    refine ⟨tv,.av a.av,_,hget,?_,rfl,h9 pm fun c t hc=>hp c t (by rw [hx.2];exact hc)⟩
    cases tv with
    | av b=>simp only [AS.argT,Option.some.injEq]at h3;show _=TV.av _;rw [h3]
    | osl t k off len=>cases h4
    | ref _ _=>cases h3
    | oref _ _ _ _=>cases h3
    | omap _=>cases h3
    | avl _=>cases h3
    | skip=>cases h3
theorem memL_ces (cs:List Ce):memL (cs.map Ce.av)=[]:=by
 apply List.eq_nil_iff_forall_not_mem.2
 intro n hn
 obtain ⟨a,h1,h2⟩:=List.mem_flatMap.1 hn
 obtain ⟨c,_,rfl⟩:=List.mem_map.1 h1
 have h3:=Ce.one c
 cases hc:c.av with
 | lnk m len=>rw [hc]at h3;cases h3
 | _=>rw [hc]at h2;cases h2
theorem memK_ces:∀(l:List (Nat × Nat × List Ce)) {c:Nat} {cs:List AV},ofL (memK l) c=some cs→memL cs=[]
 | (k,o,ds) :: l,c,cs,h=>by
  simp only [memK,ofL]at h
  split at h
  ·cases h;exact memL_ces ds
  ·exact memK_ces l h
theorem zipN_ces:∀(l:List Nat) (m:List (List Ce)) {c:Nat} {cs:List AV},ofL (zipN l (m.map (List.map Ce.av))) c=some cs→memL cs=[]
 | [],m,c,cs,h=>by cases m <;> cases h
 | k :: l,[],c,cs,h=>by cases h
 | k :: l,ds :: m,c,cs,h=>by
  simp only [List.map_cons,zipN,ofL]at h
  split at h
  ·cases h;exact memL_ces ds
  ·exact zipN_ces l m h
theorem giveM_era {g:Nat→Option (List AV)}:∀(ts:List Nat) (m:List (List Ce)) (ks:List Nat) (s s':VS),ks.length=ts.length→m.length=ts.length→(∀c cs,(c,cs)∈zipN ks (m.map (List.map Ce.av))→g c=some cs)→giveM ts (m.map V0.agg) s=some s'→era E s'=⟨(era E s).tm,gives (zipN ks ts) g (era E s).mem,(era E s).own⟩
 | [],[],[],s,s',_,_,_,h=>by cases h;rfl
 | t :: ts,cs :: m,c :: ks,s,s',h1,h2,hg,h=>by
  simp only [List.map_cons,giveM]at h
  rw [giveM_era ts m ks _ s' (by simpa using h1) (by simpa using h2) (fun d x hd=>hg d x (by simp only [List.map_cons,zipN];exact List.mem_cons_of_mem _ hd)) h]
  have hc:=hg c (cs.map Ce.av) (by simp only [List.map_cons,zipN];exact List.mem_cons_self)
  have e:(era E { s with mem:=(t,cs) :: rmv t s.mem }).mem=upd (era E s).mem t (g c):=by
   funext x
   show (memv E ⟨s.tm,(t,cs) :: rmv t s.mem,s.own⟩ x).map _=_
   simp only [memv,lk_cons,lk_rmv]
   by_cases he:x=t
   ·subst he;rw [if_pos rfl,upd_same,hc];rfl
   ·rw [if_neg he,if_neg he,upd_ne _ _ he];rfl
  rw [e]
  rfl
 | [],[],_ :: _,_,_,h,_,_,_=>by cases h
 | _ :: _,_,[],_,_,h,_,_,_=>by cases h
 | [],_ :: _,_,_,_,_,h,_,_=>by cases h
 | _ :: _,[],_ :: _,_,_,_,h,_,_=>by cases h
theorem giveM_len:∀(ts:List Nat) (l:List V0) (s s':VS),giveM ts l s=some s'→l.length=ts.length
 | [],[],_,_,_=>rfl
 | t :: ts,.agg cs :: l,s,s',h=>by simp only [List.length_cons,giveM_len ts l _ s' h]
 | [],_ :: _,_,_,h=>by cases h
 | _ :: _,[],_,_,h=>by cases h
 | _ :: _,.c _ :: _,_,_,h=>by cases h
 | _ :: _,.ptr _ :: _,_,_,h=>by cases h
theorem callLV_sound (hL:∀f args G x,args.all V.plain=false→A f args G=some x→LentC C.t f args (unflat G (ces G.ts x))∨LentC C f args (unflat G (ces G.ts x))) (hL0:∀f args G x,args.all V.plain=false→A0 f args G=some x→LentC C.t f args (unflat G (ces G.ts x))) {o:Oper} {k:VS→Option R}
  (h:callLV C.T el sig A A0 E o s k=some r):callL C o (era E s) (fun σ=>∃s',k s'=some r∧AS.le0 (era E s') σ):=by
 unfold callLV at h
 split at h
 ·rename_i f args tys hop
  obtain ⟨as',ts,h,hlen,hlend,hask⟩:=largsS_sound (C:=C) _ _ 0 h
  obtain ⟨g,_,h⟩:=bind_of h
  obtain ⟨hc,h⟩:=bif_of h
  obtain ⟨hc,hp⟩:=band_of hc
  obtain ⟨hn1,hn2⟩:=band_of hc
  rw [Bool.not_eq_true']at hp
  obtain ⟨x,hx,h⟩:=bind_of h
  obtain ⟨s',hs',h⟩:=bind_of h
  generalize hrs:unflat (g ++ gL (lentsOf 0 as')) (ces (Sig.ts (g ++ gL (lentsOf 0 as'))) x)=rs at hs' h
  have key:∀D:Ctx,LentC D f as' rs→(LCalls D=LCalls C.t∨LCalls D=LCalls C∧cold E s=true)→callL C o (era E s) (fun σ=>∃s',k s'=some r∧AS.le0 (era E s') σ):=by
   rintro D ⟨l,m,rfl,hm,hcall⟩ hD
   have hml:m.length=ts.length:=by rw [hm,hlen]
   have hsp:(l ++ m.map V0.agg).take g.length=l∧(l ++ m.map V0.agg).drop g.length=m.map V0.agg:=by
    have q:=giveM_len _ _ _ _ hs'
    simp only [List.length_drop,List.length_append,List.length_map]at q
    cases m with
    | nil =>
     simp only [List.length_nil]at hml q
     simp only [List.map_nil,List.append_nil]
     exact ⟨List.take_of_length_le (by omega),List.drop_of_length_le (by omega)⟩
    | cons c m =>
     have e:g.length=l.length:=by simp only [List.length_cons]at hml q;omega
     rw [e]
     exact ⟨List.take_left ..,List.drop_left ..⟩
   rw [hsp.2]at hs'
   rw [hsp.1]at h
   have hks:(keysN (lentsOf 0 as')).length=ts.length:=by rw [keysN_len,hlen]
   have hkm:(keysN (lentsOf 0 as')).length=(m.map (List.map Ce.av)).length:=by rw [hks,List.length_map,hml]
   have hnd:((zipN (keysN (lentsOf 0 as')) (m.map (List.map Ce.av))).map (·.1)).Nodup:=by rw [zipN_fst _ _ hkm];exact nodupB_sound _ hn2
   have hera:=giveM_era (E:=E) (g:=ofL (zipN (keysN (lentsOf 0 as')) (m.map (List.map Ce.av)))) ts m _ s s' hks hml (fun c cs hc=>ofL_in _ hnd c cs hc) hs'
   refine .inl ⟨f,args,tys,zipN (keysN (lentsOf 0 as')) ts,[],[],xsFrom 0 as',memK (lentsOf 0 as'),[],.av (packA (l.map V0.av)),ofL (zipN (keysN (lentsOf 0 as')) (m.map (List.map Ce.av))),ofL [],hop,?_,?_,rfl,rfl,hlend,trivial,hask _ (fun _ _ q=>q),?_,⟨(fun c t q=>by cases q),(fun t ov _ q=>by cases q),(fun c cs q n hn=>by rw [memK_ces _ q]at hn;cases hn),fun c cs q n hn=>by rw [zipN_ces _ _ q]at hn;cases hn⟩,(fun c ov q=>by cases q),?_⟩
   ·rw [zipN_fst _ _ hks];exact hn2
   ·rw [zipN_snd _ _ hks];exact hn1
   ·rcases hD with e|⟨e,hcd⟩
    ·rw [e]at hcall;exact .inl hcall
    ·rw [e]at hcall;exact .inr ⟨hcall,fun t ov ho _=>cold_own hcd t ov ho⟩
   ·refine ⟨_,h,?_⟩
    have:=put_le (E:=E) (s:=s') (d:=o.dst) (packV_era l)
    rw [hera]at this
    exact this
  cases hcd:cold E s with
  | true =>
   rw [hcd]at hx
   rcases hL _ _ _ _ hp hx with q|q
   ·exact key C.t (hrs ▸ q) (.inl rfl)
   ·exact key C (hrs ▸ q) (.inr ⟨rfl,hcd⟩)
  | false =>
   rw [hcd]at hx
   exact key C.t (hrs ▸ hL0 _ _ _ _ hp hx) (.inl rfl)
 ·rename_i ty n parts hop
  obtain ⟨hn,h0⟩:=bif_of h
  clear h
  obtain ⟨hn,hp⟩:=band_of hn
  obtain rfl:=beq_of hn
  have h:=h0
  have hp:parts.toList=[]:=List.isEmpty_iff.1 hp
  obtain ⟨d,h1,h⟩:=bind_of h
  obtain ⟨i,h2,h⟩:=bind_of h
  split at h
  ·rename_i e q hk
   obtain ⟨j,h3,h⟩:=bind_of h
   obtain ⟨vt,h4,h⟩:=bind_of h
   obtain ⟨h5,h⟩:=bif_of h
   obtain ⟨h5,h6⟩:=band_of h5
   obtain ⟨h6,h7⟩:=band_of h6
   obtain ⟨s1,h8,h⟩:=bind_of h
   have hi:C.T ty=some ⟨.slc e q false,i.zero,i.bytes⟩:=by rw [h2];cases i;simp only at hk;subst hk;rfl
   refine .inr ⟨ty,0,parts,d,e,q,_,_,j,[],hop,h1,hi,h3,beq_of h5,blt_of h6,by omega,by rw [hp];rfl,rfl,rfl,s1,h,?_⟩
   have:=fresh_le h8 (by simp [RW.nilB]) rfl none rfl
   rw [hp]
   show AS.le0 (era E s1) (((era E s).frz []).newOwn none d (.row e q []))
   rw [frz_nil]
   simpa [RW.ov1]using this
  ·cases h
 ·cases h
structure AskOK (C:Ctx) (sig:SigM) (A A0:Ask):Prop where
 m:MeOK C.P sig
 a:∀f args g x,args.all V.plain=true→A f args g=some x→ACalls C.t f (args.map V.av) (resO g x)∨ACalls C f (args.map V.av) (resO g x)
 b:∀f args g x,args.all V.plain=true→A0 f args g=some x→ACalls C.t f (args.map V.av) (resO g x)
 l:∀f args G x,args.all V.plain=false→A f args G=some x→LentC C.t f args (unflat G (ces G.ts x))∨LentC C f args (unflat G (ces G.ts x))
 lb:∀f args G x,args.all V.plain=false→A0 f args G=some x→LentC C.t f args (unflat G (ces G.ts x))
theorem regV_sound (H:AskOK C sig A A0) {sc:Scr} {ln:List (Nat × Nat)} {scr:List Nat} {id:Nat} {d:Bool} {k:VS→Option R} {K:Exit→AS→Prop} (hK:∀s' σ,k s'=some r→AS.le0 (era E s') σ→K .normal σ) (h:regV C.T el sig A A0 sc ln scr E id ops.toList d s k=some r):awp C sc (.region id ops d) K (era E s):=by
 unfold regV at h
 obtain ⟨s1,h1,h⟩:=bind_of h
 obtain ⟨h2,h⟩:=bif_of h
 obtain ⟨h2,h3⟩:=band_of h2
 have hpre:=(prepV_le (s:=s1) h2 h3).trans (prep_le0 (n:=sc.n) (ops:=ops) (d:=d) (frzV0_le h1))
 show bif sc.ln.contains id then _ else _
 rw [memN_eq]at h
 cases hln:sc.ln.contains id with
 | false =>
  rw [hln]at h
  exact arunV_sound H.m H.a H.b hK ops.toList _ _ h hpre
 | true =>
  rw [hln]at h
  simp only [cond_true]at h ⊢
  obtain ⟨n,_,h⟩:=bind_of h
  unfold lentV at h
  obtain ⟨o,h4,h⟩:=bind_of h
  obtain ⟨h5,h⟩:=bif_of h
  obtain ⟨h5,h6⟩:=band_of h5
  obtain ⟨hlt,he⟩:=List.getElem?_eq_some_iff.1 h4
  refine ⟨ops.toList.take n,o,ops.toList.drop (n+1),?_,by simpa using h5,fun hd=>?_,?_⟩
  ·rw [←he,←List.drop_eq_getElem_cons hlt,List.take_append_drop]
  ·rw [hd,Bool.not_true,Bool.false_or]at h6
   rw [List.length_take,Nat.min_eq_left (Nat.le_of_lt hlt)]
   exact h6
  ·refine arunV_sound H.m H.a H.b (fun s' σ q1 q2=>?_) _ _ _ h hpre
   exact callL_le0 q2 (fun τ σ hle ⟨s2,g1,g2⟩=>arunV_sound H.m H.a H.b hK _ _ _ g1 (g2.trans hle)) (callLV_sound H.l H.lb q1)
end
end Go.Proofs.YtcaahphghaddgaaGreatDoor
