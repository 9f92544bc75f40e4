import Derived.Test.YtcaahphghaddgaaGreatDoorDXC
/- Text XD. -/
set_option linter.unusedSimpArgs false
set_option linter.unusedVariables false
namespace Go.Proofs.YtcaahphghaddgaaGreatDoor
open Go.RowKit Lim
def sameRW:RW→RW→Bool
 | .row z e k t _,.row z' e' k' t' _=>(z == z') && (Nat.beq e e' && (Nat.beq k k' && (VT.eqv t t').isSome))
 | .limb z e _,.limb z' e' _=>(z == z') && Nat.beq e e'
 | .map kt vt _,.map kt' vt' _=>(VT.eqv kt kt').isSome && (VT.eqv vt vt').isSome
 | _,_=>false
def RW.withC:RW→Ce→Option RW
 | .row z e k t _,c=>(c.to (.sl k t)).map fun l=>.row z e k t l
 | .limb z e _,c=>(c.to .nat).map fun l=>.limb z e l
 | .map kt vt _,c=>(c.to (.sl 0 (.pair kt vt))).map fun l=>.map kt vt l
theorem eqv_some:∀(a b:VT),(VT.eqv a b).isSome=true→a=b:=fun a b h=>by
 cases he:VT.eqv a b with
 | none=>rw [he]at h;cases h
 | some q=>exact q.down
theorem withC_same {w w' w2:RW} (h:sameRW w w'=true) (h2:w.withC w'.ca=some w2):w2=w':=by
 cases w with
 | row z e k t l =>
  cases w' with
  | limb=>cases h
  | map=>cases h
  | row z' e' k' t' l' =>
   simp only [sameRW,Bool.and_eq_true]at h
   obtain ⟨h1,h3,h4,h5⟩:=h
   have h1:z=z':=eq_of_beq h1
   have h3:=beq_of h3
   have h4:=beq_of h4
   have h5:=eqv_some _ _ h5
   subst h1 h3 h4 h5
   obtain ⟨x,h6,rfl⟩:=Option.map_eq_some_iff.1 h2
   have h7:=Ce.to_some h6
   simp only [RW.ca,Ce.mk.injEq,true_and]at h7
   rw [eq_of_heq h7]
 | limb z e l =>
  cases w' with
  | row=>cases h
  | map=>cases h
  | limb z' e' l' =>
   simp only [sameRW,Bool.and_eq_true]at h
   have h1:z=z':=eq_of_beq h.1
   have h3:=beq_of h.2
   subst h1 h3
   have h2:(((RW.limb z e l').ca.to .nat).map fun l=>RW.limb z e l)=some w2:=h2
   obtain ⟨x,h6,rfl⟩:=Option.map_eq_some_iff.1 h2
   have h7:=Ce.to_some h6
   simp only [RW.ca,Ce.mk.injEq,true_and]at h7
   rw [eq_of_heq h7]
 | map kt vt l =>
  cases w' with
  | row=>cases h
  | limb=>cases h
  | map kt' vt' l' =>
   simp only [sameRW,Bool.and_eq_true]at h
   have h1:=eqv_some _ _ h.1
   have h3:=eqv_some _ _ h.2
   subst h1 h3
   have h2:(((RW.map kt vt l').ca.to (.sl 0 (.pair kt vt))).map fun l=>RW.map kt vt l)=some w2:=h2
   obtain ⟨x,h6,rfl⟩:=Option.map_eq_some_iff.1 h2
   have h7:=Ce.to_some h6
   simp only [RW.ca,Ce.mk.injEq,true_and]at h7
   rw [eq_of_heq h7]
def sndN (t:Nat):List (Nat × Nat)→Bool
 | []=>false
 | (_,y) :: l=>Nat.beq t y || sndN t l
def rdTm (E:VS) (own:List (Nat × RW)) (s:VS):List (Nat × Option SV)→List (Nat × Nat)→Option (List Ce × List (Nat × Nat))
 | [],acc=>some ([],acc)
 | (_,none) :: l,acc=>rdTm E own s l acc
 | (k,some (.v (.o (.c _)))) :: l,acc=>(match lk s.tm k with
  | some (some (.v (.o (.c c))))=>(rdTm E own s l acc).map fun p=>(c :: p.1,p.2)
  | _=>none)
 | (k,some (.v (.o (.agg cs0)))) :: l,acc=>(match lk s.tm k with
  | some (some (.v (.o (.agg cs))))=>bif Nat.beq cs0.length cs.length then (rdTm E own s l acc).map fun p=>(cs ++ p.1,p.2) else none
  | _=>none)
 | (k,some (.v (.o (.ptr cs0)))) :: l,acc=>(match lk s.tm k with
  | some (some (.v (.o (.ptr cs))))=>bif Nat.beq cs0.length cs.length then (rdTm E own s l acc).map fun p=>(cs ++ p.1,p.2) else none
  | _=>none)
 | (k,some (.ref t o)) :: l,acc=>(match lk s.tm k with
  | some (some (.ref t' o'))=>bif Nat.beq t t' && Nat.beq o o' then rdTm E own s l acc else none
  | _=>none)
 | (k,some (.row t)) :: l,acc=>(match lk s.tm k with
  | some (some (.row t'))=>(lk own t).bind fun w=>(lk s.own t').bind fun w'=>bif sameRW w w' && ((lk acc t).isNone && !sndN t' acc) && ((lk E.own t).isNone && noneUses (usesR t) E.tm) then (rdTm E own s l ((t,t') :: acc)).map fun p=>(w'.ca :: p.1,p.2) else none
  | _=>none)
 | (_,some _) :: l,acc=>rdTm E own s l acc
def rdMem (s:VS):List (Nat × List Ce)→Option (List Ce)
 | []=>some []
 | (t,cs0) :: l=>(lk s.mem t).bind fun cs=>bif Nat.beq cs0.length cs.length then (rdMem s l).map fun p=>cs ++ p else none
def clear (E s:VS):Bool:=s.tm.all (fun p=>(lk E.tm p.1).isNone) && (s.mem.all (fun p=>(lk E.mem p.1).isNone) && s.own.all (fun p=>(lk E.own p.1).isNone))
def rdV (E t s:VS):Option (List Ce):=bif clear E s then (rdTm E t.own s t.tm []).bind fun p=>(rdMem s t.mem).map fun m=>p.1 ++ m else none
def refTm (own:List (Nat × RW)):List (Nat × Option SV)→List Ce→Option (List (Nat × Option SV) × List (Nat × RW) × List Ce)
 | [],cs=>some ([],[],cs)
 | (k,some (.v (.o (.c _)))) :: l,c :: cs=>(refTm own l cs).map fun p=>((k,some (.v (.o (.c c)))) :: p.1,p.2)
 | (_,some (.v (.o (.c _)))) :: _,[]=>none
 | (k,some (.v (.o (.agg cs0)))) :: l,cs=>(refTm own l (cs.drop cs0.length)).map fun p=>((k,some (.v (.o (.agg (cs.take cs0.length))))) :: p.1,p.2)
 | (k,some (.v (.o (.ptr cs0)))) :: l,cs=>(refTm own l (cs.drop cs0.length)).map fun p=>((k,some (.v (.o (.ptr (cs.take cs0.length))))) :: p.1,p.2)
 | (k,some (.ref t o)) :: l,cs=>(refTm own l cs).map fun p=>((k,some (.ref t o)) :: p.1,p.2)
 | (k,some (.row t)) :: l,c :: cs=>(lk own t).bind fun w=>(w.withC c).bind fun w'=>(refTm own l cs).map fun p=>((k,some (.row t)) :: p.1,(t,w') :: p.2.1,p.2.2)
 | (_,some (.row _)) :: _,[]=>none
 | (k,_) :: l,cs=>(refTm own l cs).map fun p=>((k,none) :: p.1,p.2)
def refMem:List (Nat × List Ce)→List Ce→List (Nat × List Ce)
 | [],_=>[]
 | (t,cs0) :: l,cs=>(t,cs.take cs0.length) :: refMem l (cs.drop cs0.length)
def refV (t:VS) (cs:List Ce):Option VS:=(refTm t.own t.tm cs).map fun p=>⟨p.1,refMem t.mem p.2.2,p.2.1⟩
def Match (ren:List (Nat × Nat)) (v v0:SV):Prop:=(v=v0∧(∀t,usesR t v=false))∨∃t t',v=.row t∧v0=.row t'∧lk ren t=some t'
theorem take_app {α:Type} (a b:List α) (n:Nat) (h:n=a.length):(a ++ b).take n=a:=by subst h;simp
theorem drop_app {α:Type} (a b:List α) (n:Nat) (h:n=a.length):(a ++ b).drop n=b:=by subst h;simp
structure RdOK (E s:VS) (acc ren:List (Nat × Nat)) (tm:List (Nat × Option SV)) (own:List (Nat × RW)):Prop where
 slot:∀x v,lk tm x=some (some v)→∃v0,lk s.tm x=some (some v0)∧Match ren v v0∧∀t,v=.row t→(lk own t).isSome=true
 row:∀t w,lk own t=some w→∃t',lk ren t=some t'∧lk s.own t'=some w∧lk acc t=none∧lk E.own t=none∧noneUses (usesR t) E.tm=true
 ext:∀t t',lk acc t=some t'→lk ren t=some t'
 new:∀t t',lk ren t=some t'→lk acc t=some t'∨lk acc t=none∧sndN t' acc=false∧∃w,lk own t=some w
 inj:(∀t u y,lk acc t=some y→lk acc u=some y→t=u)→∀t u y,lk ren t=some y→lk ren u=some y→t=u
theorem sndN_of {x y:Nat}:∀{l:List (Nat × Nat)},lk l x=some y→sndN y l=true
 | (k,v) :: l,h=>by
  rw [lk_cons]at h
  simp only [sndN,beq_iff]
  by_cases he:x=k
  ·rw [if_pos he]at h;cases h;simp
  ·rw [if_neg he]at h;rw [sndN_of h,Bool.or_true]
theorem RdOK.cons {E s:VS} {acc ren:List (Nat × Nat)} {tm:List (Nat × Option SV)} {own:List (Nat × RW)} (h:RdOK E s acc ren tm own) {k:Nat} {v:Option SV} (hv:∀u,v=some u→∃v0,lk s.tm k=some (some v0)∧Match ren u v0∧∀t,u=.row t→(lk own t).isSome=true):RdOK E s acc ren ((k,v) :: tm) own:=by
 refine ⟨fun x u hx=>?_,h.row,h.ext,h.new,h.inj⟩
 rw [lk_cons]at hx
 by_cases he:x=k
 ·subst he;rw [if_pos rfl]at hx;exact hv u (Option.some.inj hx)
 ·rw [if_neg he]at hx;exact h.slot x u hx
set_option maxHeartbeats 2000000 in
theorem rd_ref {E s:VS} {own0:List (Nat × RW)}:∀(l:List (Nat × Option SV)) (acc:List (Nat × Nat)) {cs rest:List Ce} {ren:List (Nat × Nat)} {r:List (Nat × Option SV) × List (Nat × RW) × List Ce},rdTm E own0 s l acc=some (cs,ren)→refTm own0 l (cs ++ rest)=some r→r.2.2=rest∧RdOK E s acc ren r.1 r.2.1
 | [],acc,cs,rest,ren,r,h,g=>by
  simp only [rdTm,Option.some.injEq,Prod.mk.injEq]at h
  obtain ⟨rfl,rfl⟩:=h
  simp only [refTm,List.nil_append,Option.some.injEq]at g
  subst g
  exact ⟨rfl,fun x v hx=>(by cases hx),fun t w hx=>(by cases hx),fun t t' hx=>hx,fun t t' hx=>.inl hx,fun hi=>hi⟩
 | (k,none) :: l,acc,cs,rest,ren,r,h,g=>by
  simp only [rdTm]at h
  simp only [refTm]at g
  obtain ⟨p,g1,rfl⟩:=Option.map_eq_some_iff.1 g
  obtain ⟨q1,q2⟩:=rd_ref l acc h g1
  exact ⟨q1,q2.cons fun u hu=>by cases hu⟩
 | (k,some (.v (.o (.c c0)))) :: l,acc,cs,rest,ren,r,h,g=>by
  simp only [rdTm]at h
  split at h
  ·rename_i c hk
   obtain ⟨p,h1,h2⟩:=Option.map_eq_some_iff.1 h
   cases h2
   simp only [List.cons_append,refTm]at g
   obtain ⟨q,g1,rfl⟩:=Option.map_eq_some_iff.1 g
   obtain ⟨q1,q2⟩:=rd_ref l acc h1 g1
   exact ⟨q1,q2.cons fun u hu=>by cases hu;exact ⟨_,hk,.inl ⟨rfl,fun _=>rfl⟩,fun t ht=>by cases ht⟩⟩
  ·cases h
 | (k,some (.v (.o (.agg cs0)))) :: l,acc,cs,rest,ren,r,h,g=>by
  simp only [rdTm]at h
  split at h
  ·rename_i c hk
   obtain ⟨hb,h⟩:=bif_of h
   obtain ⟨p,h1,h2⟩:=Option.map_eq_some_iff.1 h
   cases h2
   simp only [refTm,List.append_assoc]at g
   rw [drop_app _ _ _ (beq_of hb),take_app _ _ _ (beq_of hb)]at g
   obtain ⟨q,g1,rfl⟩:=Option.map_eq_some_iff.1 g
   obtain ⟨q1,q2⟩:=rd_ref l acc h1 g1
   exact ⟨q1,q2.cons fun u hu=>by cases hu;exact ⟨_,hk,.inl ⟨rfl,fun _=>rfl⟩,fun t ht=>by cases ht⟩⟩
  ·cases h
 | (k,some (.v (.o (.ptr cs0)))) :: l,acc,cs,rest,ren,r,h,g=>by
  simp only [rdTm]at h
  split at h
  ·rename_i c hk
   obtain ⟨hb,h⟩:=bif_of h
   obtain ⟨p,h1,h2⟩:=Option.map_eq_some_iff.1 h
   cases h2
   simp only [refTm,List.append_assoc]at g
   rw [drop_app _ _ _ (beq_of hb),take_app _ _ _ (beq_of hb)]at g
   obtain ⟨q,g1,rfl⟩:=Option.map_eq_some_iff.1 g
   obtain ⟨q1,q2⟩:=rd_ref l acc h1 g1
   exact ⟨q1,q2.cons fun u hu=>by cases hu;exact ⟨_,hk,.inl ⟨rfl,fun _=>rfl⟩,fun t ht=>by cases ht⟩⟩
  ·cases h
 | (k,some (.ref t o)) :: l,acc,cs,rest,ren,r,h,g=>by
  simp only [rdTm]at h
  split at h
  ·rename_i t' o' hk
   obtain ⟨hb,h⟩:=bif_of h
   obtain ⟨hb1,hb2⟩:=band_of hb
   have hb1:=beq_of hb1
   have hb2:=beq_of hb2
   simp only [refTm]at g
   obtain ⟨q,g1,rfl⟩:=Option.map_eq_some_iff.1 g
   obtain ⟨q1,q2⟩:=rd_ref l acc h g1
   exact ⟨q1,q2.cons fun u hu=>by cases hu;exact ⟨_,hk,.inl ⟨by rw [hb1,hb2],fun _=>rfl⟩,fun t ht=>by cases ht⟩⟩
  ·cases h
 | (k,some (.row t)) :: l,acc,cs,rest,ren,r,h,g=>by
  simp only [rdTm]at h
  split at h
  ·rename_i t' hk
   obtain ⟨w,h1,h⟩:=bind_of h
   obtain ⟨w',h2,h⟩:=bind_of h
   obtain ⟨h3,h⟩:=bif_of h
   obtain ⟨h4,h5⟩:=band_of h3
   obtain ⟨h6,h7⟩:=band_of h4
   obtain ⟨h8,h9⟩:=band_of h7
   obtain ⟨h10,h11⟩:=band_of h5
   obtain ⟨p,h12,h13⟩:=Option.map_eq_some_iff.1 h
   cases h13
   simp only [List.cons_append,refTm]at g
   obtain ⟨w1,g1,g'⟩:=bind_of g
   obtain ⟨w2,g2,g''⟩:=bind_of g'
   rw [h1]at g1
   cases g1
   have e:=withC_same h6 g2
   obtain ⟨q,g3,rfl⟩:=Option.map_eq_some_iff.1 g''
   subst e
   obtain ⟨q1,q2⟩:=rd_ref l ((t,t') :: acc) h12 g3
   have ha:lk acc t=none:=by simpa using h8
   have hs:sndN t' acc=false:=by simpa using h9
   have hE:lk E.own t=none:=by simpa using h10
   have hren:lk p.2 t=some t':=q2.ext t t' (by rw [lk_cons,if_pos rfl])
   refine ⟨q1,fun x v hx=>?_,fun x w hx=>?_,fun x y hx=>?_,fun x y hx=>?_,fun hi=>?_⟩
   ·have hx:lk ((k,some (.row t)) :: q.1) x=some (some v):=hx
    rw [lk_cons]at hx
    have some1:∀y,(lk q.2.1 y).isSome=true→(lk ((t,w2) :: q.2.1) y).isSome=true:=fun y hy=>by
     rw [lk_cons];split
     ·rfl
     ·exact hy
    by_cases he:x=k
    ·subst he
     rw [if_pos rfl]at hx
     cases hx
     exact ⟨_,hk,.inr ⟨t,t',rfl,rfl,hren⟩,fun y hy=>by cases hy;show (lk ((t,w2) :: q.2.1) t).isSome=true;rw [lk_cons,if_pos rfl];rfl⟩
    ·rw [if_neg he]at hx
     obtain ⟨v0,r1,r2,r3⟩:=q2.slot x v hx
     exact ⟨v0,r1,r2,fun y hy=>some1 y (r3 y hy)⟩
   ·have hx:lk ((t,w2) :: q.2.1) x=some w:=hx
    rw [lk_cons]at hx
    by_cases he:x=t
    ·subst he
     rw [if_pos rfl]at hx
     cases hx
     exact ⟨t',hren,h2,ha,hE,h11⟩
    ·rw [if_neg he]at hx
     obtain ⟨y,r1,r2,r3,r4⟩:=q2.row x w hx
     rw [lk_cons,if_neg he]at r3
     exact ⟨y,r1,r2,r3,r4⟩
   ·refine q2.ext x y ?_
    rw [lk_cons]
    by_cases he:x=t
    ·subst he;rw [ha]at hx;cases hx
    ·rw [if_neg he];exact hx
   ·rcases q2.new x y hx with r1|⟨r1,r2,w3,r3⟩
    ·rw [lk_cons]at r1
     by_cases he:x=t
     ·subst he
      rw [if_pos rfl]at r1
      cases r1
      exact .inr ⟨ha,hs,w2,by show lk ((x,w2) :: q.2.1) x=_;rw [lk_cons,if_pos rfl]⟩
     ·rw [if_neg he]at r1;exact .inl r1
    ·rw [lk_cons]at r1
     by_cases he:x=t
     ·rw [if_pos he]at r1;cases r1
     ·rw [if_neg he]at r1
      simp only [sndN,Bool.or_eq_false_iff]at r2
      exact .inr ⟨r1,r2.2,w3,by show lk ((t,w2) :: q.2.1) x=_;rw [lk_cons,if_neg he];exact r3⟩
   ·refine q2.inj fun x u y hx hu=>?_
    rw [lk_cons]at hx hu
    by_cases he:x=t
    ·by_cases hf:u=t
     ·rw [he,hf]
     ·rw [if_pos he]at hx
      rw [if_neg hf]at hu
      cases hx
      rw [sndN_of hu]at hs;cases hs
    ·by_cases hf:u=t
     ·rw [if_neg he]at hx
      rw [if_pos hf]at hu
      cases hu
      rw [sndN_of hx]at hs;cases hs
     ·rw [if_neg he]at hx
      rw [if_neg hf]at hu
      exact hi x u y hx hu
  ·cases h
 | (k,some (.v (.fn _ _ _))) :: l,acc,cs,rest,ren,r,h,g=>by
  simp only [rdTm]at h
  simp only [refTm]at g
  obtain ⟨p,g1,rfl⟩:=Option.map_eq_some_iff.1 g
  obtain ⟨q1,q2⟩:=rd_ref l acc h g1
  exact ⟨q1,q2.cons fun u hu=>by cases hu⟩
 | (k,some (.v (.lent _ _))) :: l,acc,cs,rest,ren,r,h,g=>by
  simp only [rdTm]at h
  simp only [refTm]at g
  obtain ⟨p,g1,rfl⟩:=Option.map_eq_some_iff.1 g
  obtain ⟨q1,q2⟩:=rd_ref l acc h g1
  exact ⟨q1,q2.cons fun u hu=>by cases hu⟩
 | (k,some (.tup _)) :: l,acc,cs,rest,ren,r,h,g=>by
  simp only [rdTm]at h
  simp only [refTm]at g
  obtain ⟨p,g1,rfl⟩:=Option.map_eq_some_iff.1 g
  obtain ⟨q1,q2⟩:=rd_ref l acc h g1
  exact ⟨q1,q2.cons fun u hu=>by cases hu⟩
 | (k,some (.oref _ _ _)) :: l,acc,cs,rest,ren,r,h,g=>by
  simp only [rdTm]at h
  simp only [refTm]at g
  obtain ⟨p,g1,rfl⟩:=Option.map_eq_some_iff.1 g
  obtain ⟨q1,q2⟩:=rd_ref l acc h g1
  exact ⟨q1,q2.cons fun u hu=>by cases hu⟩
 | (k,some .skip) :: l,acc,cs,rest,ren,r,h,g=>by
  simp only [rdTm]at h
  simp only [refTm]at g
  obtain ⟨p,g1,rfl⟩:=Option.map_eq_some_iff.1 g
  obtain ⟨q1,q2⟩:=rd_ref l acc h g1
  exact ⟨q1,q2.cons fun u hu=>by cases hu⟩
 | (k,some (.gref _ _ _)) :: l,acc,cs,rest,ren,r,h,g=>by
  simp only [rdTm]at h
  simp only [refTm]at g
  obtain ⟨p,g1,rfl⟩:=Option.map_eq_some_iff.1 g
  obtain ⟨q1,q2⟩:=rd_ref l acc h g1
  exact ⟨q1,q2.cons fun u hu=>by cases hu⟩
theorem rd_mem {s:VS}:∀(l:List (Nat × List Ce)) {m:List Ce},rdMem s l=some m→∀t cs,lk (refMem l m) t=some cs→lk s.mem t=some cs
 | [],m,h,t,cs,hx=>by cases hx
 | (u,cs0) :: l,m,h,t,cs,hx=>by
  simp only [rdMem]at h
  obtain ⟨c,h1,h⟩:=bind_of h
  obtain ⟨h2,h⟩:=bif_of h
  obtain ⟨p,h3,h4⟩:=Option.map_eq_some_iff.1 h
  subst h4
  simp only [refMem]at hx
  rw [take_app _ _ _ (beq_of h2),drop_app _ _ _ (beq_of h2),lk_cons]at hx
  by_cases he:t=u
  ·subst he;rw [if_pos rfl]at hx;rw [h1];exact hx
  ·rw [if_neg he]at hx;exact rd_mem l h3 t cs hx
theorem all_lk {α β:Type} {l:List (Nat × α)} {m:List (Nat × β)} (h:l.all (fun p=>(lk m p.1).isNone)=true) {x:Nat} {v:β} (hx:lk m x=some v):lk l x=none:=by
 induction l with
 | nil=>rfl
 | cons p l ih =>
  obtain ⟨k,u⟩:=p
  simp only [List.all_cons,Bool.and_eq_true]at h
  rw [lk_cons]
  by_cases he:x=k
  ·subst he
   have:=h.1
   rw [hx]at this
   cases this
  ·rw [if_neg he];exact ih h.2
def nameOf (ren:List (Nat × Nat)) (t:Nat):Nat:=match lk ren t with|some y=>y|none=>t
theorem rd_ren {E t s s':VS} {cs:List Ce} (h:rdV E t s=some cs) (g:refV t cs=some s'):∃ρ,Ren ρ (era E s') (era E s):=by
 unfold rdV at h
 obtain ⟨hc,h⟩:=bif_of h
 obtain ⟨⟨c1,ren⟩,h1,h⟩:=bind_of h
 obtain ⟨m,h2,h3⟩:=Option.map_eq_some_iff.1 h
 subst h3
 unfold refV at g
 obtain ⟨r,g1,g2⟩:=Option.map_eq_some_iff.1 g
 subst g2
 obtain ⟨q1,q2⟩:=rd_ref t.tm [] h1 g1
 rw [q1]
 unfold clear at hc
 obtain ⟨c2,hc⟩:=band_of hc
 obtain ⟨c3,c4⟩:=band_of hc
 have hinj:=q2.inj (fun t u y ht=>by cases ht)
 have rowS:∀x w,lk r.2.1 x=some w→nameOf ren x≠x∨True:=fun _ _ _=>.inr trivial
 have rowN:∀x w,lk r.2.1 x=some w→∃y,nameOf ren x=y∧rowv E s y=some w∧lk E.own x=none:=fun x w hx=>by
  obtain ⟨y,e1,e2,_,e4,_⟩:=q2.row x w hx
  exact ⟨y,by simp [nameOf,e1],by unfold rowv;rw [e2],e4⟩
 have rowE:∀x w,lk r.2.1 x=none→lk E.own x=some w→nameOf ren x=x∧rowv E s x=some w:=fun x w hx he=>by
  constructor
  ·unfold nameOf
   cases hr:lk ren x with
   | none=>rfl
   | some y =>
    rcases q2.new x y hr with e|⟨_,_,w1,e⟩
    ·cases e
    ·rw [hx]at e;cases e
  ·unfold rowv;rw [all_lk c4 he];exact he
 have rowA:∀x w,rowv E ⟨r.1,refMem t.mem m,r.2.1⟩ x=some w→rowv E s (nameOf ren x)=some w:=fun x w hx=>by
  unfold rowv at hx
  split at hx
  ·rename_i w1 hw
   cases hx
   obtain ⟨y,e1,e2,_⟩:=rowN x _ hw
   rw [e1];exact e2
  ·rename_i hw
   obtain ⟨e1,e2⟩:=rowE x w hw hx
   rw [e1];exact e2
 refine ⟨nameOf ren,fun x v hx=>?_,fun x cs hx=>?_,fun x ov hx=>?_,fun x y ov ov' hx hy he=>?_⟩
 ·have hx:(slot E ⟨r.1,refMem t.mem m,r.2.1⟩ x).bind (eraSV (rowv E ⟨r.1,refMem t.mem m,r.2.1⟩))=some v:=hx
  obtain ⟨u,e1,e2⟩:=bind_of hx
  show (slot E s x).bind (eraSV (rowv E s))=some (renT (nameOf ren) v)
  have tvR:∀y w,RW.tv (nameOf ren y) w=renT (nameOf ren) (RW.tv y w):=fun y w=>by unfold RW.tv;cases w.nilB <;> cases w.isMap <;> rfl
  rcases slot_some.1 e1 with p|⟨p1,p2⟩
  ·obtain ⟨v0,r1,r2,r3⟩:=q2.slot x u p
   rw [slot_some.2 (.inl r1),Option.bind_some]
   rcases r2 with ⟨rfl,r4⟩|⟨y,y',rfl,rfl,r5⟩
   ·cases u with
    | row y=>have:=r4 y;simp [usesR]at this
    | oref y i o=>have:=r4 y;simp [usesR]at this
    | _=>cases e2;rfl
   ·simp only [eraSV]at e2 ⊢
    obtain ⟨w,e3,rfl⟩:=Option.map_eq_some_iff.1 e2
    have e4:=rowA y w e3
    have e5:nameOf ren y=y':=by simp [nameOf,r5]
    rw [e5]at e4
    rw [e4,Option.map_some,←tvR,e5]
  ·have p2':lk E.tm x=some (some u):=p2
   have hs:slot E s x=some u:=slot_some.2 (.inr ⟨all_lk c2 p2',p2'⟩)
   rw [hs,Option.bind_some]
   have keyR:∀y w,usesR y u=true→rowv E ⟨r.1,refMem t.mem m,r.2.1⟩ y=some w→nameOf ren y=y∧rowv E s y=some w:=fun y w hy hw=>by
    have hn:lk r.2.1 y=none:=by
     cases hl:lk r.2.1 y with
     | none=>rfl
     | some w1 =>
      obtain ⟨_,_,_,_,_,e6⟩:=q2.row y w1 hl
      have:=noneUses_of e6 p2'
      rw [hy]at this;cases this
    unfold rowv at hw
    rw [show (VS.own ⟨r.1,refMem t.mem m,r.2.1⟩)=r.2.1 from rfl,hn]at hw
    exact rowE y w hn hw
   cases u with
   | row y =>
    simp only [eraSV]at e2 ⊢
    obtain ⟨w,e3,rfl⟩:=Option.map_eq_some_iff.1 e2
    obtain ⟨e4,e5⟩:=keyR y w (by simp [usesR]) e3
    rw [e5,Option.map_some,←tvR,e4]
   | oref y i o =>
    simp only [eraSV]at e2 ⊢
    obtain ⟨w,e3,rfl⟩:=Option.map_eq_some_iff.1 e2
    obtain ⟨e4,e5⟩:=keyR y w (by simp [usesR]) e3
    rw [e5,Option.map_some]
    simp only [renT,e4]
   | _=>cases e2;rfl
 ·have hx:(memv E ⟨r.1,refMem t.mem m,r.2.1⟩ x).map (List.map Ce.av)=some cs:=hx
  show (memv E s x).map (List.map Ce.av)=some cs
  obtain ⟨c,e1,e2⟩:=Option.map_eq_some_iff.1 hx
  have:memv E s x=some c:=by
   unfold memv at e1 ⊢
   split at e1
   ·rename_i v hv
    cases e1
    rw [rd_mem t.mem h2 x _ hv]
   ·rw [all_lk c3 e1];exact e1
  rw [this,Option.map_some,e2]
 ·have hx:(rowv E ⟨r.1,refMem t.mem m,r.2.1⟩ x).bind RW.ov=some ov:=hx
  obtain ⟨w,e1,e2⟩:=bind_of hx
  rw [era_own,rowA x w e1]
  exact e2
 ·have live:∀x ov,(era E ⟨r.1,refMem t.mem m,r.2.1⟩).own x=some ov→(∃w,lk r.2.1 x=some w∧lk ren x=some (nameOf ren x)∧(lk s.own (nameOf ren x)).isSome=true)∨lk r.2.1 x=none∧nameOf ren x=x∧∃w,lk E.own x=some w:=fun x ov hx=>by
   have hx:(rowv E ⟨r.1,refMem t.mem m,r.2.1⟩ x).bind RW.ov=some ov:=hx
   obtain ⟨w,e1,_⟩:=bind_of hx
   cases hl:lk r.2.1 x with
   | some w1 =>
    obtain ⟨y,r1,r2,_⟩:=q2.row x w1 hl
    have:nameOf ren x=y:=by simp [nameOf,r1]
    exact .inl ⟨w1,rfl,by rw [r1,this],by rw [this,r2];rfl⟩
   | none =>
    unfold rowv at e1
    rw [show (VS.own ⟨r.1,refMem t.mem m,r.2.1⟩)=r.2.1 from rfl,hl]at e1
    exact .inr ⟨rfl,(rowE x w hl e1).1,w,e1⟩
  rcases live x ov hx with ⟨_,_,a1,a2⟩|⟨_,a1,w1,a2⟩
  ·rcases live y ov' hy with ⟨_,_,b1,_⟩|⟨_,b1,w2,b2⟩
   ·rw [he]at a1
    exact hinj x y _ a1 b1
   ·rw [he,b1,all_lk c4 b2]at a2;cases a2
  ·rcases live y ov' hy with ⟨_,_,_,b2⟩|⟨_,b1,_,_⟩
   ·rw [←he,a1,all_lk c4 a2]at b2;cases b2
   ·rw [a1,b1]at he;exact he
end Go.Proofs.YtcaahphghaddgaaGreatDoor
