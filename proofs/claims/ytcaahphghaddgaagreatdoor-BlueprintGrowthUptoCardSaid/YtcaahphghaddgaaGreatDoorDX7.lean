import Derived.Test.YtcaahphghaddgaaGreatDoorDX6
/- Text X7. -/
set_option linter.unusedSimpArgs false
set_option linter.unusedVariables false
namespace Go.Proofs.YtcaahphghaddgaaGreatDoor
open Go.RowKit Lim
section
variable {E s:VS}
theorem lk_cons {α:Type} (k:Nat) (v:α) (l:List (Nat × α)) (x:Nat):lk ((k,v) :: l) x=if x=k then some v else lk l x:=by
 show (bif Nat.beq x k then some v else lk l x)=_
 by_cases h:x=k
 ·subst h;simp
 ·have:Nat.beq x k=false:=by
   cases hb:Nat.beq x k with
   | false=>rfl
   | true=>exact absurd (Nat.eq_of_beq_eq_true hb) h
  rw [this,if_neg h];rfl
theorem beq_iff (a b:Nat):Nat.beq a b=decide (a=b):=by
 by_cases h:a=b
 ·subst h;simp
 ·cases hb:Nat.beq a b with
  | false=>simp [h]
  | true=>exact absurd (Nat.eq_of_beq_eq_true hb) h
theorem lk_rmv {α:Type} (t x:Nat):∀l:List (Nat × α),lk (rmv t l) x=if x=t then none else lk l x
 | []=>by simp [rmv,lk]
 | (k,v) :: l=>by
  simp only [rmv,beq_iff]
  by_cases h:k=t
  ·simp only [h,decide_true,cond_true]
   rw [lk_rmv t x l,lk_cons]
   by_cases h2:x=t
   ·simp [h2]
   ·simp [h2]
  ·simp only [h,decide_false,cond_false]
   rw [lk_cons,lk_cons,lk_rmv t x l]
   by_cases h2:x=k
   ·subst h2;simp [h]
   ·simp [h2]
theorem lk_wipe (p:SV→Bool) (x:Nat):∀l:List (Nat × Option SV),lk (wipe p l) x=(lk l x).map (fun v=>v.bind fun v=>bif p v then none else some v)
 | []=>rfl
 | (k,some v) :: l=>by simp only [wipe,lk_cons];by_cases h:x=k <;> simp [h,lk_wipe p x l]
 | (k,none) :: l=>by simp only [wipe,lk_cons];by_cases h:x=k <;> simp [h,lk_wipe p x l]
theorem lk_thaw (t:Nat) (c:Ce) (x:Nat):∀l:List (Nat × Option SV),lk (thaw t c l) x=(lk l x).map (fun v=>v.bind fun v=>bif isRow t v then some (.v (.o (.c c))) else bif usesR t v then none else some v)
 | []=>rfl
 | (k,some v) :: l=>by simp only [thaw,lk_cons];by_cases h:x=k <;> simp [h,lk_thaw t c x l]
 | (k,none) :: l=>by simp only [thaw,lk_cons];by_cases h:x=k <;> simp [h,lk_thaw t c x l]
theorem noneUses_of {p:SV→Bool}:∀{l:List (Nat × Option SV)} {x:Nat} {v:SV},noneUses p l=true→lk l x=some (some v)→p v=false
 | (k,some u) :: l,x,v,h,h2=>by
  simp only [noneUses,Bool.and_eq_true,Bool.not_eq_true']at h
  rw [lk_cons]at h2
  by_cases hx:x=k
  ·rw [if_pos hx]at h2;cases h2;exact h.1
  ·rw [if_neg hx]at h2;exact noneUses_of h.2 h2
 | (k,none) :: l,x,v,h,h2=>by
  simp only [noneUses]at h
  rw [lk_cons]at h2
  by_cases hx:x=k
  ·rw [if_pos hx]at h2;cases h2
  ·rw [if_neg hx]at h2;exact noneUses_of h h2
theorem noneUses_or (p q:SV→Bool):∀(l:List (Nat × Option SV)),noneUses p l=true→noneUses q l=true→noneUses (fun v=>p v || q v) l=true
 | [],_,_=>rfl
 | (k,none) :: l,h,g=>noneUses_or p q l h g
 | (k,some v) :: l,h,g=>by
  simp only [noneUses,Bool.and_eq_true,Bool.not_eq_true']at h g ⊢
  exact ⟨by rw [h.1,g.1];rfl,noneUses_or p q l h.2 g.2⟩
theorem slot_some {x:Nat} {v:SV}:slot E s x=some v ↔ lk s.tm x=some (some v)∨lk s.tm x=none∧lk E.tm x=some (some v):=by
 unfold slot
 cases h:lk s.tm x with
 | some u=>simp
 | none=>cases h2:lk E.tm x with
  | some u=>simp
  | none=>simp
theorem slot_wipe {p:SV→Bool} {x:Nat} {v:SV} {m:List (Nat × List Ce)} {q:List (Nat × RW)} (hE:noneUses p E.tm=true) (h:slot E ⟨wipe p s.tm,m,q⟩ x=some v):slot E s x=some v∧p v=false:=by
 rcases slot_some.1 h with h1|⟨h1,h2⟩
 ·simp only [lk_wipe]at h1
  obtain ⟨u,h3,h4⟩:=Option.map_eq_some_iff.1 h1
  cases u with
  | none=>cases h4
  | some u =>
   simp only [Option.bind_some]at h4
   cases hp:p u with
   | true=>rw [hp]at h4;cases h4
   | false=>rw [hp]at h4;cases h4;exact ⟨slot_some.2 (.inl h3),hp⟩
 ·simp only [lk_wipe,Option.map_eq_none_iff]at h1
  exact ⟨slot_some.2 (.inr ⟨h1,h2⟩),noneUses_of hE h2⟩
theorem slot_cons (t:Nat) (v:SV) (l:List (Nat × Option SV)) (m:List (Nat × List Ce)) (q:List (Nat × RW)) (x:Nat):slot E ⟨(t,some v) :: l,m,q⟩ x=if x=t then some v else slot E ⟨l,m,q⟩ x:=by
 unfold slot
 simp only [lk_cons]
 by_cases h:x=t
 ·simp [h]
 ·simp [h]
theorem rowv_cons (t:Nat) (w:RW) (l:List (Nat × Option SV)) (m:List (Nat × List Ce)) (q:List (Nat × RW)) (x:Nat):rowv E ⟨l,m,(t,w) :: q⟩ x=if x=t then some w else rowv E ⟨l,m,q⟩ x:=by
 unfold rowv
 simp only [lk_cons]
 by_cases h:x=t <;> simp [h]
theorem rowv_rmv (t:Nat) (l:List (Nat × Option SV)) (m:List (Nat × List Ce)) (q:List (Nat × RW)) (hE:lk E.own t=none) (x:Nat):rowv E ⟨l,m,rmv t q⟩ x=if x=t then none else rowv E ⟨l,m,q⟩ x:=by
 unfold rowv
 simp only [lk_rmv]
 by_cases h:x=t
 ·subst h;simp [hE]
 ·simp [h]
theorem memv_new (t:Nat) (cs:List Ce) (l:List (Nat × Option SV)) (m:List (Nat × List Ce)) (q:List (Nat × RW)) (x:Nat):memv E ⟨l,(t,cs) :: rmv t m,q⟩ x=if x=t then some cs else memv E ⟨l,m,q⟩ x:=by
 unfold memv
 simp only [lk_cons,lk_rmv]
 by_cases h:x=t <;> simp [h]
theorem eraSV_congr {f g:Nat→Option RW} {v:SV} (h:∀t,usesR t v=true→f t=g t):eraSV f v=eraSV g v:=by
 cases v with
 | row t=>simp only [eraSV,h t (by simp [usesR])]
 | oref t i o=>simp only [eraSV,h t (by simp [usesR])]
 | _=>rfl
theorem eraSV_noR {f:Nat→Option RW} {v:SV} {t:Nat} {tv:TV} (h:usesR t v=false) (he:eraSV f v=some tv):staleO t (some tv)=some tv:=by
 cases v with
 | row t' =>
  have hne:t'≠t:=fun e=>by subst e;simp [usesR]at h
  simp only [eraSV]at he
  obtain ⟨w,h1,rfl⟩:=Option.map_eq_some_iff.1 he
  unfold RW.tv
  cases w.nilB with
  | true=>rfl
  | false =>
   cases w.isMap with
   | true=>simp only [cond_false,cond_true,staleO];rw [if_neg hne]
   | false=>simp only [cond_false,staleO];rw [if_neg hne]
 | oref t' i o =>
  have hne:t'≠t:=fun e=>by subst e;simp [usesR]at h
  simp only [eraSV]at he
  obtain ⟨w,h1,rfl⟩:=Option.map_eq_some_iff.1 he
  simp only [staleO];rw [if_neg hne]
 | _=>cases he;rfl
theorem eraSV_noM {f:Nat→Option RW} {v:SV} {t:Nat} {tv:TV} (h:usesM t v=false) (he:eraSV f v=some tv):stale t (some tv)=some tv:=by
 cases v with
 | row t' =>
  simp only [eraSV]at he
  obtain ⟨w,h1,rfl⟩:=Option.map_eq_some_iff.1 he
  unfold RW.tv
  cases w.nilB <;> cases w.isMap <;> rfl
 | oref t' i o =>
  simp only [eraSV]at he
  obtain ⟨w,h1,rfl⟩:=Option.map_eq_some_iff.1 he
  rfl
 | ref t' o =>
  have hne:t'≠t:=fun e=>by subst e;simp [usesM]at h
  cases he
  simp only [stale];rw [if_neg hne]
 | _=>cases he;rfl
theorem AS.le0.trans {a b c:AS} (h:AS.le0 a b) (g:AS.le0 b c):AS.le0 a c:=⟨fun x v q=>g.tm x v (h.tm x v q),fun x v q=>g.mem x v (h.mem x v q),fun x v q=>g.own x v (h.own x v q),fun x v q hh=>h.hot x v (g.hot x v q hh) hh⟩
theorem put_le {d:Option Nat} {v:SV} {tv:TV} (h:eraSV (rowv E s) v=some tv):AS.le0 (era E (s.put d v)) ((era E s).put d tv):=by
 cases d with
 | none=>exact le0_refl _
 | some t =>
  refine ⟨fun x u hx=>?_,fun x u hx=>hx,fun x u hx=>hx,fun x u hx _=>hx⟩
  have hx:(slot E ⟨(t,some v) :: s.tm,s.mem,s.own⟩ x).bind (eraSV (rowv E s))=some u:=hx
  rw [slot_cons]at hx
  show upd (era E s).tm t (some tv) x=some u
  by_cases he:x=t
  ·subst he
   rw [if_pos rfl]at hx
   rw [upd_same]
   simpa [h]using hx
  ·rw [if_neg he]at hx
   rw [upd_ne _ _ he]
   exact hx
theorem new_le {t:Nat} {cs:List Ce} (h1:noneUses (usesM t) E.tm=true):AS.le0 (era E { s with tm:=(t,some (.ref t 0)) :: wipe (usesM t) s.tm,mem:=(t,cs) :: rmv t s.mem }) ((era E s).new t (cs.map Ce.av)):=by
 refine ⟨fun x u hx=>?_,fun x u hx=>?_,fun x u hx=>hx,fun x u hx _=>hx⟩
 ·have hx:(slot E ⟨(t,some (.ref t 0)) :: wipe (usesM t) s.tm,(t,cs) :: rmv t s.mem,s.own⟩ x).bind (eraSV (rowv E s))=some u:=hx
  rw [slot_cons]at hx
  show upd (fun x=>stale t ((era E s).tm x)) t (some (.ref t 0)) x=some u
  by_cases he:x=t
  ·subst he
   rw [if_pos rfl]at hx
   rw [upd_same]
   exact hx
  ·rw [if_neg he]at hx
   rw [upd_ne _ _ he]
   obtain ⟨v,h2,h3⟩:=bind_of hx
   obtain ⟨h4,h5⟩:=slot_wipe h1 h2
   have:(era E s).tm x=some u:=by show (slot E s x).bind _=_;rw [h4];exact h3
   simp only [this]
   exact eraSV_noM h5 h3
 ·have hx:(memv E ⟨_,(t,cs) :: rmv t s.mem,s.own⟩ x).map (List.map Ce.av)=some u:=hx
  rw [memv_new]at hx
  show upd (era E s).mem t (some (cs.map Ce.av)) x=some u
  by_cases he:x=t
  ·subst he;rw [if_pos rfl]at hx;rw [upd_same];exact hx
  ·rw [if_neg he]at hx;rw [upd_ne _ _ he];exact hx
theorem setMem_le {t:Nat} {cs:List Ce}:AS.le0 (era E { s with mem:=(t,cs) :: rmv t s.mem }) ((era E s).setMem t (cs.map Ce.av)):=by
 refine ⟨fun x u hx=>hx,fun x u hx=>?_,fun x u hx=>hx,fun x u hx _=>hx⟩
 have hx:(memv E ⟨_,(t,cs) :: rmv t s.mem,s.own⟩ x).map (List.map Ce.av)=some u:=hx
 rw [memv_new]at hx
 show upd (era E s).mem t (some (cs.map Ce.av)) x=some u
 by_cases he:x=t
 ·subst he;rw [if_pos rfl]at hx;rw [upd_same];exact hx
 ·rw [if_neg he]at hx;rw [upd_ne _ _ he];exact hx
theorem era_own (E s:VS) (t:Nat):(era E s).own t=(rowv E s t).bind RW.ov:=rfl
theorem ov_live {w:RW} (h:w.nilB=false):w.ov=some w.ov1:=by simp [RW.ov,h]
theorem ov_nil {w:RW} (h:w.nilB=true):w.ov=none:=by simp [RW.ov,h]
theorem setRow_le {t:Nat} {w w0:RW} {s':VS} (h:setRow E s t w=some s') (h0:rowv E s t=some w0) (hn0:w0.nilB=false) (hn:w.nilB=false) (hk:w.k=w0.k) (hl:w.len=w0.len) (hm:w.isMap=w0.isMap):AS.le0 (era E s') ((era E s).setOwn t w.ov1):=by
 unfold setRow at h
 obtain ⟨h1,h⟩:=bif_of h
 cases h
 obtain ⟨h2,h3⟩:=band_of h1
 have hE:lk E.own t=none:=by simpa using h3
 have hr:∀x,rowv E ⟨s.tm,s.mem,(t,w) :: rmv t s.own⟩ x=if x=t then some w else rowv E s x:=fun x=>by
  rw [rowv_cons,rowv_rmv _ _ _ _ hE]
  by_cases he:x=t <;> simp [he]
 refine ⟨fun x u hx=>?_,fun x u hx=>hx,fun x u hx=>?_,fun x u hx hh=>?_⟩
 ·have hx:(slot E s x).bind (eraSV (rowv E ⟨s.tm,s.mem,(t,w) :: rmv t s.own⟩))=some u:=hx
  show (slot E s x).bind (eraSV (rowv E s))=some u
  obtain ⟨v,h4,h5⟩:=bind_of hx
  rw [h4,Option.bind_some,←h5]
  cases v with
  | row t' =>
   simp only [eraSV,hr]
   by_cases he:t'=t
   ·subst he
    simp only [if_true,h0,Option.map_some,RW.tv,hn,hn0,hk,hl,hm]
   ·simp [he]
  | oref t' i o =>
   simp only [eraSV,hr]
   by_cases he:t'=t
   ·subst he
    simp only [if_true,h0,Option.map_some,hk]
   ·simp [he]
  | _=>rfl
 ·have hx:(rowv E ⟨s.tm,s.mem,(t,w) :: rmv t s.own⟩ x).bind RW.ov=some u:=hx
  show upd (era E s).own t (some w.ov1) x=some u
  rw [hr]at hx
  by_cases he:x=t
  ·subst he
   rw [if_pos rfl,Option.bind_some,ov_live hn]at hx
   rw [upd_same];exact hx
  ·rw [if_neg he]at hx
   rw [upd_ne _ _ he];exact hx
 ·have hx:upd (era E s).own t (some w.ov1) x=some u:=hx
  show (rowv E ⟨s.tm,s.mem,(t,w) :: rmv t s.own⟩ x).bind RW.ov=some u
  rw [hr]
  by_cases he:x=t
  ·subst he
   rw [upd_same]at hx
   rw [if_pos rfl,Option.bind_some,ov_live hn];exact hx
  ·rw [upd_ne _ _ he]at hx
   rw [if_neg he];exact hx
theorem newOwn_tm (σ:AS) (t:Option Nat) (d:Nat) (ov:OV) (x:Nat):(σ.newOwn t d ov).tm x=if x=d then some (.osl d ov.k 0 ov.len) else staleO d (match t with|some s=>staleO s (σ.tm x)|none=>σ.tm x):=rfl
theorem newOwn_own (σ:AS) (t:Option Nat) (d:Nat) (ov:OV) (x:Nat):(σ.newOwn t d ov).own x=if x=d then some ov else (match t with|some s=>upd σ.own s none|none=>σ.own) x:=rfl
def baseOK (E s:VS) (t t':Option Nat):Prop:=match t with
 | none=>t'=none
 | some x=>∃w0,rowv E s x=some w0∧t'=bif w0.nilB then none else some x
theorem fresh_le {t:Option Nat} {d:Nat} {w:RW} {s':VS} (h:fresh E s t d w=some s') (hn:w.nilB=false) (hm:w.isMap=false) (t':Option Nat) (ht:baseOK E s t t'):AS.le0 (era E s') ((era E s).newOwn t' d w.ov1):=by
 have key:∀(p:SV→Bool) (q:List (Nat × RW)) (_:noneUses p E.tm=true) (_:∀v,p v=false→usesR d v=false∧∀x,t=some x→usesR x v=false) (_:∀x,x≠d→(∀y,t=some y→x≠y)→rowv E ⟨s.tm,s.mem,q⟩ x=rowv E s x) (_:∀x y,t=some y→x=y→x≠d→rowv E ⟨s.tm,s.mem,q⟩ x=none),AS.le0 (era E ⟨(d,some (.row d)) :: wipe p s.tm,s.mem,(d,w) :: q⟩) ((era E s).newOwn t' d w.ov1):=by
  intro p q hp1 hp2 hq1 hq2
  have hr:∀x,rowv E ⟨(d,some (.row d)) :: wipe p s.tm,s.mem,(d,w) :: q⟩ x=if x=d then some w else rowv E ⟨s.tm,s.mem,q⟩ x:=fun x=>by
   rw [rowv_cons]
   by_cases he:x=d <;> simp only [he,if_true,if_false] <;> rfl
  refine ⟨fun x u hx=>?_,fun x u hx=>hx,fun x u hx=>?_,fun x u hx hh=>?_⟩
  ·have hx:(slot E ⟨(d,some (.row d)) :: wipe p s.tm,s.mem,(d,w) :: q⟩ x).bind (eraSV (rowv E ⟨(d,some (.row d)) :: wipe p s.tm,s.mem,(d,w) :: q⟩))=some u:=hx
   rw [slot_cons]at hx
   rw [newOwn_tm]
   by_cases he:x=d
   ·subst he
    rw [if_pos rfl]at hx
    rw [if_pos rfl]
    have:eraSV (rowv E ⟨(x,some (.row x)) :: wipe p s.tm,s.mem,(x,w) :: q⟩) (.row x)=some u:=hx
    rw [row_slot (w:=w) (by rw [hr];simp) hn hm]at this
    rw [RW.ov1_k,RW.ov1_len]
    exact this
   ·rw [if_neg he]at hx
    rw [if_neg he]
    obtain ⟨v,h2,h3⟩:=bind_of hx
    obtain ⟨h4,h5⟩:=slot_wipe hp1 h2
    obtain ⟨h6,h7⟩:=hp2 v h5
    have h8:eraSV (rowv E s) v=some u:=by
     rw [←h3]
     refine eraSV_congr fun y hy=>?_
     have hyd:y≠d:=fun e=>by subst e;rw [h6]at hy;cases hy
     rw [hr,if_neg hyd]
     exact (hq1 y hyd fun z hz e=>by subst e;rw [h7 y hz]at hy;cases hy).symm
    have h9:(era E s).tm x=some u:=by show (slot E s x).bind _=_;rw [h4];exact h8
    cases t with
    | none=>have ht:t'=none:=ht;subst ht;simp only [h9];exact eraSV_noR h6 h8
    | some y =>
     obtain ⟨w0,_,ht⟩:∃w0,rowv E s y=some w0∧t'=bif w0.nilB then none else some y:=ht
     have e1:=eraSV_noR (h7 y rfl) h8
     have e2:=eraSV_noR h6 h8
     cases hb:w0.nilB with
     | true=>rw [hb]at ht;simp only [cond_true]at ht;subst ht;simp only [h9];exact e2
     | false=>rw [hb]at ht;simp only [cond_false]at ht;subst ht;simp only [h9,e1];exact e2
  ·have hx:(rowv E ⟨(d,some (.row d)) :: wipe p s.tm,s.mem,(d,w) :: q⟩ x).bind RW.ov=some u:=hx
   rw [hr]at hx
   rw [newOwn_own]
   by_cases he:x=d
   ·subst he
    rw [if_pos rfl,Option.bind_some,ov_live hn]at hx
    rw [if_pos rfl];exact hx
   ·rw [if_neg he]at hx
    rw [if_neg he]
    cases t with
    | none=>have ht:t'=none:=ht;subst ht;rw [hq1 x he (fun y hy=>by cases hy)]at hx;exact hx
    | some y =>
     by_cases hy:x=y
     ·rw [hq2 x y rfl hy he]at hx;cases hx
     ·rw [hq1 x he (fun z hz=>by cases hz;exact hy)]at hx
      obtain ⟨w0,_,ht⟩:∃w0,rowv E s y=some w0∧t'=bif w0.nilB then none else some y:=ht
      cases hb:w0.nilB with
      | true=>rw [hb]at ht;simp only [cond_true]at ht;subst ht;exact hx
      | false=>rw [hb]at ht;simp only [cond_false]at ht;subst ht;show upd _ y none x=_;rw [upd_ne _ _ hy];exact hx
  ·rw [newOwn_own]at hx
   show (rowv E ⟨(d,some (.row d)) :: wipe p s.tm,s.mem,(d,w) :: q⟩ x).bind RW.ov=some u
   rw [hr]
   by_cases he:x=d
   ·subst he
    rw [if_pos rfl]at hx
    rw [if_pos rfl,Option.bind_some,ov_live hn];exact hx
   ·rw [if_neg he]at hx
    rw [if_neg he]
    cases t with
    | none=>have ht:t'=none:=ht;subst ht;rw [hq1 x he (fun y hy=>by cases hy)];exact hx
    | some y =>
     obtain ⟨w0,hw0,ht⟩:∃w0,rowv E s y=some w0∧t'=bif w0.nilB then none else some y:=ht
     by_cases hy:x=y
     ·subst hy
      cases hb:w0.nilB with
      | true =>
       rw [hb]at ht;simp only [cond_true]at ht;subst ht
       have hx:(rowv E s x).bind RW.ov=some u:=hx
       rw [hw0,Option.bind_some,ov_nil hb]at hx
       cases hx
      | false =>
       rw [hb]at ht;simp only [cond_false]at ht;subst ht
       have hx:upd _ x none x=some u:=hx
       rw [upd_same]at hx
       cases hx
     ·rw [hq1 x he (fun z hz=>by cases hz;exact hy)]
      cases hb:w0.nilB with
      | true=>rw [hb]at ht;simp only [cond_true]at ht;subst ht;exact hx
      | false =>
       rw [hb]at ht;simp only [cond_false]at ht;subst ht
       have hx:upd _ y none x=some u:=hx
       rw [upd_ne _ _ hy]at hx;exact hx
 unfold fresh at h
 cases t with
 | none =>
  simp only at h
  obtain ⟨h1,h⟩:=bif_of h
  obtain ⟨h2,h3⟩:=band_of h1
  have hE:lk E.own d=none:=by simpa using h3
  cases h
  refine key _ _ h2 (fun v hv=>⟨hv,fun x hx=>by cases hx⟩) (fun x hx _=>?_) (fun x y hy=>by cases hy)
  rw [rowv_rmv _ _ _ _ hE,if_neg hx]
 | some y =>
  simp only at h
  obtain ⟨h1,h⟩:=bif_of h
  obtain ⟨h2,h3⟩:=band_of h1
  obtain ⟨h4,h5⟩:=band_of h2
  obtain ⟨h6,h7⟩:=band_of h3
  have hE:lk E.own d=none:=by simpa using h5
  have hE2:lk E.own y=none:=by simpa using h7
  cases h
  refine key _ _ ?_ (fun v hv=>?_) (fun x hx hx2=>?_) (fun x z hz hxz hx=>?_)
  ·exact noneUses_or _ _ _ h4 h6
  ·simp only [Bool.or_eq_false_iff]at hv
   exact ⟨hv.1,fun x hx=>by cases hx;exact hv.2⟩
  ·rw [rowv_rmv _ _ _ _ hE,if_neg hx,rowv_rmv _ _ _ _ hE2,if_neg (hx2 y rfl)]
  ·cases hz
   subst hxz
   rw [rowv_rmv _ _ _ _ hE,if_neg hx,rowv_rmv _ _ _ _ hE2,if_pos rfl]
theorem newMap_tm (σ:AS) (d:Nat) (ov:OV) (x:Nat):(σ.newMap d ov).tm x=if x=d then some (.omap d) else staleO d (σ.tm x):=rfl
theorem newMap_own (σ:AS) (d:Nat) (ov:OV) (x:Nat):(σ.newMap d ov).own x=if x=d then some ov else σ.own x:=rfl
theorem freshMap_le {d:Nat} {w:RW} {s':VS} (h:fresh E s none d w=some s') (hm:w.isMap=true):AS.le0 (era E s') ((era E s).newMap d w.ov1):=by
 have hn:w.nilB=false:=by cases w <;> first|rfl|cases hm
 unfold fresh at h
 simp only at h
 obtain ⟨h1,h⟩:=bif_of h
 obtain ⟨h2,h3⟩:=band_of h1
 have hE:lk E.own d=none:=by simpa using h3
 cases h
 have hr:∀x,rowv E ⟨(d,some (.row d)) :: wipe (usesR d) s.tm,s.mem,(d,w) :: rmv d s.own⟩ x=if x=d then some w else rowv E s x:=fun x=>by
  rw [rowv_cons,rowv_rmv _ _ _ _ hE]
  by_cases he:x=d <;> simp only [he,if_true,if_false] <;> rfl
 refine ⟨fun x u hx=>?_,fun x u hx=>hx,fun x u hx=>?_,fun x u hx hh=>?_⟩
 ·have hx:(slot E ⟨(d,some (.row d)) :: wipe (usesR d) s.tm,s.mem,(d,w) :: rmv d s.own⟩ x).bind (eraSV (rowv E ⟨(d,some (.row d)) :: wipe (usesR d) s.tm,s.mem,(d,w) :: rmv d s.own⟩))=some u:=hx
  rw [slot_cons]at hx
  rw [newMap_tm]
  by_cases he:x=d
  ·subst he
   rw [if_pos rfl]at hx
   rw [if_pos rfl]
   have:eraSV (rowv E ⟨(x,some (.row x)) :: wipe (usesR x) s.tm,s.mem,(x,w) :: rmv x s.own⟩) (.row x)=some u:=hx
   rw [map_slot (w:=w) (by rw [hr];simp) hm]at this
   exact this
  ·rw [if_neg he]at hx
   rw [if_neg he]
   obtain ⟨v,q2,q3⟩:=bind_of hx
   obtain ⟨q4,q5⟩:=slot_wipe h2 q2
   have q8:eraSV (rowv E s) v=some u:=by
    rw [←q3]
    refine eraSV_congr fun y hy=>?_
    have hyd:y≠d:=fun e=>by subst e;rw [q5]at hy;cases hy
    rw [hr,if_neg hyd]
   have q9:(era E s).tm x=some u:=by show (slot E s x).bind _=_;rw [q4];exact q8
   rw [q9]
   exact eraSV_noR q5 q8
 ·have hx:(rowv E ⟨(d,some (.row d)) :: wipe (usesR d) s.tm,s.mem,(d,w) :: rmv d s.own⟩ x).bind RW.ov=some u:=hx
  rw [hr]at hx
  rw [newMap_own]
  by_cases he:x=d
  ·subst he
   rw [if_pos rfl,Option.bind_some,ov_live hn]at hx
   rw [if_pos rfl];exact hx
  ·rw [if_neg he]at hx
   rw [if_neg he];exact hx
 ·rw [newMap_own]at hx
  show (rowv E ⟨(d,some (.row d)) :: wipe (usesR d) s.tm,s.mem,(d,w) :: rmv d s.own⟩ x).bind RW.ov=some u
  rw [hr]
  by_cases he:x=d
  ·subst he
   rw [if_pos rfl]at hx
   rw [if_pos rfl,Option.bind_some,ov_live hn];exact hx
  ·rw [if_neg he]at hx
   rw [if_neg he];exact hx
end
end Go.Proofs.YtcaahphghaddgaaGreatDoor
