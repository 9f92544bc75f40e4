import Derived.Test.YtcaahphghaddgaaGreatDoorDXB
/- Text XC. -/
set_option linter.unusedSimpArgs false
set_option linter.unusedVariables false
namespace Go.Proofs.YtcaahphghaddgaaGreatDoor
open Go.RowKit Lim
inductive Ans (R:Type) where
 | ret (r:R)
 | cont (d:Nat) (ts:List VT) (x:denL ts)
def eqvL:(ts us:List VT)→Option (PLift (ts=us))
 | [],[]=>some ⟨rfl⟩
 | t :: ts,u :: us=>(VT.eqv t u).bind fun p=>(eqvL ts us).map fun q=>⟨by rw [p.down,q.down]⟩
 | _,_=>none
def castL (ts us:List VT) (x:denL ts):Option (denL us):=(eqvL ts us).map fun (h:PLift (ts=us))=>h.down ▸ x
theorem castL_some {ts us:List VT} {x:denL ts} {y:denL us} (h:castL ts us x=some y):∃e:ts=us,e ▸ x=y:=by
 unfold castL at h
 cases he:eqvL ts us with
 | none=>rw [he]at h;cases h
 | some q =>
  obtain ⟨e⟩:=q
  subst e
  rw [he]at h
  exact ⟨rfl,Option.some.inj h⟩
def loopA {R:Type} (dp:Nat) (ts:List VT) (step:denL ts→Option (Ans R)) (n:Nat):denL ts→Option (Ans R) :=
 Nat.rec (motive:=fun _=>denL ts→Option (Ans R)) (fun _=>none) (fun _ ih x=>(step x).bind fun a=>match a with
  | .ret r=>some (.ret r)
  | .cont d us y=>bif Nat.beq d dp then (castL us ts y).bind ih else some (.cont d us y)) n
theorem loopA_succ {R:Type} {dp:Nat} {ts:List VT} {step:denL ts→Option (Ans R)} {n:Nat} {x:denL ts}:loopA dp ts step (n+1) x=(step x).bind fun a=>match a with
  | .ret r=>some (.ret r)
  | .cont d us y=>bif Nat.beq d dp then (castL us ts y).bind (loopA dp ts step n) else some (.cont d us y):=rfl
def joinA {R:Type} (dp:Nat) (ts:List VT) (o:Option (Ans R)) (k:denL ts→Option (Ans R)):Option (Ans R):=o.bind fun a=>match a with
 | .ret r=>some (.ret r)
 | .cont d us y=>bif Nat.beq d dp then (castL us ts y).bind k else some (.cont d us y)
def joinVS (a b:VS):VS:=⟨a.tm ++ b.tm,a.mem ++ b.mem,a.own ++ b.own⟩
theorem lk_app {α:Type} (x:Nat):∀(a b:List (Nat × α)),lk (a ++ b) x=match lk a x with|some v=>some v|none=>lk b x
 | [],b=>rfl
 | (k,v) :: a,b=>by
  rw [List.cons_append,lk_cons,lk_cons,lk_app x a b]
  by_cases h:x=k <;> simp [h]
theorem slot_join (E a b:VS) (x:Nat):slot E (joinVS a b) x=slot (joinVS b E) a x:=by
 unfold slot joinVS
 simp only [lk_app]
 cases lk a.tm x with
 | some v=>rfl
 | none=>cases lk b.tm x <;> rfl
theorem rowv_join (E a b:VS) (x:Nat):rowv E (joinVS a b) x=rowv (joinVS b E) a x:=by
 unfold rowv joinVS
 simp only [lk_app]
 cases lk a.own x with
 | some v=>rfl
 | none=>cases lk b.own x <;> rfl
theorem memv_join (E a b:VS) (x:Nat):memv E (joinVS a b) x=memv (joinVS b E) a x:=by
 unfold memv joinVS
 simp only [lk_app]
 cases lk a.mem x with
 | some v=>rfl
 | none=>cases lk b.mem x <;> rfl
theorem era_join (E a b:VS):era E (joinVS a b)=era (joinVS b E) a:=by
 have h:rowv E (joinVS a b)=rowv (joinVS b E) a:=funext (rowv_join E a b)
 unfold era
 rw [h]
 congr 1
 ·funext x;rw [slot_join]
 ·funext x;rw [memv_join]
def filterK {α:Type} (p:Nat→Bool):List (Nat × α)→List (Nat × α)
 | []=>[]
 | (k,v) :: l=>bif p k then (k,v) :: filterK p l else filterK p l
theorem lk_filterK {α:Type} (p:Nat→Bool) (x:Nat):∀l:List (Nat × α),lk (filterK p l) x=if p x=true then lk l x else none
 | []=>by simp [filterK,lk]
 | (k,v) :: l=>by
  simp only [filterK]
  cases hk:p k with
  | true =>
   simp only [cond_true]
   rw [lk_cons,lk_cons,lk_filterK p x l]
   by_cases h:x=k
   ·subst h;simp [hk]
   ·simp [h]
  | false =>
   simp only [cond_false]
   rw [lk_filterK p x l,lk_cons]
   by_cases h:x=k
   ·subst h;simp [hk]
   ·simp [h]
def keepS (own:List (Nat × RW)):SV→Bool
 | .v (.o _)=>true
 | .row t=>(lk own t).isSome
 | .ref _ _=>true
 | _=>false
def keepTm (own:List (Nat × RW)):List (Nat × Option SV)→List (Nat × Option SV)
 | []=>[]
 | (k,some v) :: l=>(k,bif keepS own v then some v else none) :: keepTm own l
 | (k,none) :: l=>(k,none) :: keepTm own l
theorem lk_keep (own:List (Nat × RW)) (x:Nat):∀l:List (Nat × Option SV),lk (keepTm own l) x=(lk l x).map (fun v=>v.bind fun v=>bif keepS own v then some v else none)
 | []=>rfl
 | (k,some v) :: l=>by simp only [keepTm,lk_cons];by_cases h:x=k <;> simp [h,lk_keep own x l]
 | (k,none) :: l=>by simp only [keepTm,lk_cons];by_cases h:x=k <;> simp [h,lk_keep own x l]
def rowsOf:List (Nat × Option SV)→List Nat
 | []=>[]
 | (_,some (.row t)) :: l=>t :: rowsOf l
 | _ :: l=>rowsOf l
def tmplV (n:Nat) (scr W M:List Nat) (s:VS):VS :=
 let tm:=keepTm s.own (filterK (fun k=>memN k W) (prepTm n false [] scr s.tm))
 ⟨tm,filterK (fun k=>memN k M) s.mem,filterK (fun k=>memN k (rowsOf tm)) s.own⟩
def restV (n:Nat) (scr W M:List Nat) (s:VS):VS :=
 let tm:=keepTm s.own (filterK (fun k=>memN k W) (prepTm n false [] scr s.tm))
 ⟨filterK (fun k=>!memN k W) (prepTm n false [] scr s.tm),filterK (fun k=>!memN k M) s.mem,filterK (fun k=>!memN k (rowsOf tm)) s.own⟩
def allLt (n:Nat):List (Nat × Option SV)→Bool
 | []=>true
 | (k,_) :: l=>Nat.blt k n && allLt n l
theorem allLt_of {n:Nat}:∀{l:List (Nat × Option SV)} {x:Nat} {v:Option SV},allLt n l=true→lk l x=some v→x<n
 | (k,u) :: l,x,v,h,hx=>by
  simp only [allLt,Bool.and_eq_true]at h
  rw [lk_cons]at hx
  by_cases he:x=k
  ·subst he;exact blt_of h.1
  ·rw [if_neg he]at hx;exact allLt_of h.2 hx
theorem staleV_id (x:Nat) (v:Option SV):v.bind (staleV false x [])=v:=by
 cases v with
 | none=>rfl
 | some v=>cases v <;> rfl
theorem lk_live (n x:Nat) (scr:List Nat) (l:List (Nat × Option SV)):lk (prepTm n false [] scr l) x=if memN x scr=true then none else if x<n then lk l x else none:=by
 cases hm:memN x scr with
 | true=>simp only [if_true];exact lk_prep_seen _ _ _ _ _ _ hm
 | false =>
 simp only [Bool.false_eq_true,if_false]
 rw [lk_prep _ _ _ _ _ _ hm]
 by_cases h:x<n
 ·simp only [h,if_true,staleV_id]
  cases lk l x with
  | none=>rfl
  | some v=>rw [Option.map_some]
 ·simp [h]
section
variable {E s:VS}
theorem split_le {n:Nat} {scr W M:List Nat} (hE:allLt n E.tm=true) (hS:noKeys scr E.tm=true):AS.le0 (era (joinVS (restV n scr W M s) E) (tmplV n scr W M s)) (era E s):=by
 have hrow:∀t w,rowv (joinVS (restV n scr W M s) E) (tmplV n scr W M s) t=some w ↔ rowv E s t=some w:=fun t w=>by
  unfold rowv joinVS tmplV restV
  simp only [lk_app,lk_filterK]
  cases memN t (rowsOf (keepTm s.own (filterK (fun k=>memN k W) (prepTm n false [] scr s.tm))))with
  | true=>simp only [if_true,Bool.not_true,Bool.false_eq_true,if_false]
  | false =>
   simp only [Bool.false_eq_true,if_false,Bool.not_false,if_true]
   cases lk s.own t <;> exact Iff.rfl
 have hrow':rowv (joinVS (restV n scr W M s) E) (tmplV n scr W M s)=rowv E s:=funext fun t=>by
  cases h:rowv E s t with
  | some w=>exact (hrow t w).2 h
  | none =>
   cases h2:rowv (joinVS (restV n scr W M s) E) (tmplV n scr W M s) t with
   | none=>rfl
   | some w=>rw [(hrow t w).1 h2]at h;cases h
 refine ⟨fun x v hx=>?_,fun t cs ht=>?_,fun t ov ht=>?_,fun t ov ht _=>?_⟩
 ·have hx:(slot (joinVS (restV n scr W M s) E) (tmplV n scr W M s) x).bind (eraSV (rowv (joinVS (restV n scr W M s) E) (tmplV n scr W M s)))=some v:=hx
  rw [hrow']at hx
  show (slot E s x).bind (eraSV (rowv E s))=some v
  obtain ⟨u,h1,h2⟩:=bind_of hx
  have:slot E s x=some u:=by
   rcases slot_some.1 h1 with q|⟨q1,q2⟩
   ·simp only [tmplV,lk_keep,lk_filterK,lk_live]at q
    obtain ⟨w,h3,h4⟩:=Option.map_eq_some_iff.1 q
    split at h3
    ·split at h3
     ·cases h3
     split at h3
     ·cases w with
      | none=>cases h4
      | some w =>
       simp only [Option.bind_some]at h4
       obtain ⟨_,h4⟩:=bif_of h4
       cases h4
       exact slot_some.2 (.inl h3)
     ·cases h3
    ·cases h3
   ·simp only [tmplV,lk_keep,lk_filterK,lk_live,Option.map_eq_none_iff]at q1
    simp only [joinVS,restV,lk_app,lk_filterK,lk_live]at q2
    cases hm:memN x W with
    | true =>
     rw [hm]at q1 q2
     simp only [if_true]at q1
     simp only [Bool.not_true,Bool.false_eq_true,if_false]at q2
     rw [noKeys_of hS q2]at q1
     simp only [Bool.false_eq_true,if_false]at q1
     rw [if_pos (allLt_of hE q2)]at q1
     exact slot_some.2 (.inr ⟨q1,q2⟩)
    | false =>
     rw [hm]at q2
     simp only [Bool.not_false,if_true]at q2
     cases hsc:memN x scr with
     | true =>
      rw [hsc]at q2
      simp only [if_true]at q2
      have:=noKeys_of hS q2
      rw [hsc]at this;cases this
     | false =>
     rw [hsc]at q2
     simp only [Bool.false_eq_true,if_false]at q2
     by_cases hlt:x<n
     ·rw [if_pos hlt]at q2
      split at q2
      ·rename_i v' hv;cases q2;exact slot_some.2 (.inl hv)
      ·rename_i hv;exact slot_some.2 (.inr ⟨hv,q2⟩)
     ·rw [if_neg hlt]at q2
      exact absurd (allLt_of hE q2) hlt
  rw [this]
  exact h2
 ·have ht:(memv (joinVS (restV n scr W M s) E) (tmplV n scr W M s) t).map (List.map Ce.av)=some cs:=ht
  show (memv E s t).map (List.map Ce.av)=some cs
  rw [←ht]
  congr 1
  unfold memv joinVS tmplV restV
  simp only [lk_app,lk_filterK]
  cases memN t M with
  | true=>simp only [if_true,Bool.not_true,Bool.false_eq_true,if_false]
  | false =>
   simp only [Bool.false_eq_true,if_false,Bool.not_false,if_true]
   cases lk s.mem t <;> rfl
 ·rw [era_own,hrow']at ht;exact ht
 ·rw [era_own,hrow'];exact ht
end
def renT (ρ:Nat→Nat):TV→TV
 | .osl t k off len=>.osl (ρ t) k off len
 | .oref t k i o=>.oref (ρ t) k i o
 | .omap t=>.omap (ρ t)
 | v=>v
structure Ren (ρ:Nat→Nat) (τ σ:AS):Prop where
 tm:∀x v,τ.tm x=some v→σ.tm x=some (renT ρ v)
 mem:∀t cs,τ.mem t=some cs→σ.mem t=some cs
 own:∀t ov,τ.own t=some ov→σ.own (ρ t)=some ov
 inj:∀t t' ov ov',τ.own t=some ov→τ.own t'=some ov'→ρ t=ρ t'→t=t'
def NoLk (τ:AS):Prop:=(∀t cs,τ.mem t=some cs→memL cs=[])∧∀t a,τ.tm t≠some (.avl a)
theorem Sim.ren {u:Bool} {w0:Base} {Z0:Zone} {N:Nat} {σ τ:AS} {a:Act} {w:World} {ρ:Nat→Nat} (S:Sim u w0 Z0 N σ a w) (h:Ren ρ τ σ) (hn:NoLk τ):Sim u w0 Z0 N τ a w:=by
 have hle:AS.le ⟨fun x=>(τ.tm x).map (renT ρ),τ.mem,fun y=>open Classical in if ∃t ov,τ.own t=some ov∧ρ t=y then σ.own y else none⟩ σ:=by
  refine ⟨fun x v hx=>.inl ?_,h.mem,fun y ov hy=>?_⟩
  ·obtain ⟨v0,h1,rfl⟩:=Option.map_eq_some_iff.1 hx
   exact h.tm x v0 h1
  ·simp only at hy
   split at hy
   ·exact hy
   ·cases hy
 obtain ⟨⟨Z,β,κ,S1⟩,hN⟩:=S.mono hle
 have hown:∀t ov,τ.own t=some ov→(open Classical in if ∃t' ov,τ.own t'=some ov∧ρ t'=ρ t then σ.own (ρ t) else none)=some ov:=fun t ov ht=>by
  rw [if_pos ⟨t,ov,ht,rfl⟩]
  exact h.own t ov ht
 refine ⟨⟨Z,β,fun t=>κ (ρ t),S1.z0,S1.z1,fun t x hx=>?_,S1.mem,S1.inj,fun t ov ht=>S1.own (ρ t) ov (hown t ov ht),fun t t' ov ov' ht ht' he=>h.inj t t' ov ov' ht ht' (S1.injO (ρ t) (ρ t') ov ov' (hown t ov ht) (hown t' ov' ht') he),fun t t' cs ov hm ht=>S1.injM t (ρ t') cs ov hm (hown t' ov ht),fun hu b o v hc hl=>?_,S1.below,S1.defers,fun t cs j n len hc hj=>?_⟩,hN⟩
 ·obtain ⟨q1,q2⟩:=S1.tm t (renT ρ x) (by simp only [hx,Option.map_some])
  refine ⟨q1,?_⟩
  cases x with
  | avl b=>exact absurd hx (hn.2 t b)
  | _=>exact q2
 ·rcases S1.al hu b o v hc hl with q|⟨y,ov,q1,q2,q3⟩
  ·exact .inl q
  ·simp only at q1
   split at q1
   ·rename_i hx
    obtain ⟨t,ov',h1,h2⟩:=hx
    subst h2
    have:=h.own t ov' h1
    rw [q1]at this
    cases this
    exact .inr ⟨t,ov,h1,q2,q3⟩
   ·cases q1
 ·have h1:=hn.1 t cs hc
  have:n∈memL cs:=List.mem_flatMap.2 ⟨_,List.mem_of_getElem? hj,List.mem_singleton.2 rfl⟩
  rw [h1]at this
  cases this
end Go.Proofs.YtcaahphghaddgaaGreatDoor
