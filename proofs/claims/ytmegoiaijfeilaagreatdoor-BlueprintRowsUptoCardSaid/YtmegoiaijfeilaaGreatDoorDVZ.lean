import Derived.Test.YtmegoiaijfeilaaGreatDoorDVT
import Derived.Laws.IdiomStrings
/- Text VZ. -/
set_option linter.unusedSimpArgs false
set_option linter.unusedVariables false
namespace Go.Proofs.YtmegoiaijfeilaaGreatDoor
open Go.RowKit Lim
def mvT (d m:Nat):TV→TV
 | .osl t k o l=>.osl (if t=d then m else t) k o l
 | .oref t k i o=>.oref (if t=d then m else t) k i o
 | .omap t=>.omap (if t=d then m else t)
 | x=>x
def AS.ren (σ:AS) (d n:Nat):AS :=
 let τ:=(σ.wipe [n] []).dropOwn (BIG+n)
 { τ with tm:=fun x=>(τ.tm x).map (mvT d (BIG+n)),own:=fun t=>if t=BIG+n then τ.own d else if t=d then none else τ.own t }
def shutC (f:Nat→Option OV) (ns:List Nat):AV→AV
 | .lnk n len=>if ns.contains n then (match f (BIG+n)with|some ov=>if len≤ov.len then ov.part 0 len else .lnk n len|none=>.lnk n len) else .lnk n len
 | a=>a
def shut2 (f:Nat→Option OV) (ns:List Nat):AV→AV
 | .agg cs=>.agg (cs.map (shutC f ns))
 | a=>shutC f ns a
def shut3 (f:Nat→Option OV) (ns:List Nat):AV→AV
 | .tup l=>.tup (l.map (shut2 f ns))
 | a=>shut2 f ns a
def avlT (a:AV):TV:=if a.links.isEmpty then .av a else .avl a
def shutT (σ:AS) (ns:List Nat):TV→Option TV
 | .avl a=>some (avlT (shut3 σ.own ns a))
 | x=>frzT σ (ns.map (BIG+·)) x
def AS.shut (σ:AS) (ns:List Nat):AS:={ tm:=fun x=>(σ.tm x).bind (shutT σ ns),mem:=fun t=>(σ.mem t).map (List.map (shutC σ.own ns)),own:=fun t=>if (ns.map (BIG+·)).contains t then none else σ.own t }
inductive Move where
 | ren (d n:Nat)
 | shut (ns:List Nat)
 | frz (ts:List Nat)
 | frzB (ts:List Nat)
def AS.move (σ:AS):Move→AS
 | .ren d n=>σ.ren d n
 | .shut ns=>σ.shut ns
 | .frz ts=>σ.frz ts
 | .frzB ts=>σ.frzB ts
def moveOK (σ:AS):Move→Prop
 | .ren d n=>d≠BIG+n∧∃ov,σ.own d=some ov
 | .shut ns=>∀n∈ns,∃ov,σ.own (BIG+n)=some ov
 | .frz _=>True
 | .frzB _=>True
def movesP (K:AS→Prop):List Move→AS→Prop
 | [],σ=>K σ
 | m :: ms,σ=>moveOK σ m∧movesP K ms (σ.move m)
section
variable {C:Ctx} {u:Bool} {w0:Base} {w w':World} {Z0 Z Z':Zone} {σ τ:AS} {a:Act} {β:Nat→Nat} {κ:Nat→Nat × Nat}
theorem Sim1.ren (S:Sim1 u w0 Z0 σ a w Z β κ) {d n:Nat} {ov:OV} (hd:d≠BIG+n) (ho:σ.own d=some ov):∃Z' κ',Sim1 u w0 Z0 (σ.ren d n) a w Z' β κ':=by
 obtain ⟨Z1,S1,_⟩:=S.wiped [n] []
 have S2:=S1.dropRow (BIG+n)
 have hm:((σ.wipe [n] []).dropOwn (BIG+n)).own (BIG+n)=none:=by simp [AS.dropOwn,upd_same]
 have hod:((σ.wipe [n] []).dropOwn (BIG+n)).own d=some ov:=by
  simp only [AS.dropOwn]
  rw [upd_ne _ _ hd,wipe_own]
  exact ho
 have hmem:∀t cs,((σ.wipe [n] []).dropOwn (BIG+n)).mem t=some cs→n ∉ memL cs:=fun t cs h hn=>by
  have h:(σ.wipe [n] []).mem t=some cs:=h
  exact wipe_mem h rfl n hn (List.mem_singleton.2 rfl)
 have htm:∀t x,((σ.wipe [n] []).dropOwn (BIG+n)).tm t=some x→wipeT [n] x=some x:=fun t x h=>by
  obtain ⟨q,_⟩:=staleO_some h
  exact wipe_tm q (by simp)
 generalize frzZ (σ.wipe [n] []) κ [BIG+n] Z1=Z2 at S2
 generalize hτ:(σ.wipe [n] []).dropOwn (BIG+n)=τ at *
 have e:σ.ren d n={ τ with tm:=fun x=>(τ.tm x).map (mvT d (BIG+n)),own:=fun t=>if t=BIG+n then τ.own d else if t=d then none else τ.own t }:=by
  rw [←hτ];rfl
 rw [e]
 let κ':Nat→Nat × Nat:=fun t=>if t=BIG+n then κ d else κ t
 have k1:κ' (BIG+n)=κ d:=by simp only [κ',if_true]
 have k2:∀{t},t≠BIG+n→κ' t=κ t:=fun h=>by simp only [κ',if_neg h]
 have own':∀t ov2,(if t=BIG+n then τ.own d else if t=d then none else τ.own t)=some ov2→∃s,τ.own s=some ov2∧κ' t=κ s∧(t=BIG+n∧s=d∨t≠BIG+n∧t≠d∧s=t):=fun t ov2 h=>by
  by_cases h1:t=BIG+n
  ·rw [if_pos h1]at h
   exact ⟨d,h,by rw [h1,k1],.inl ⟨h1,rfl⟩⟩
  ·rw [if_neg h1]at h
   by_cases h2:t=d
   ·rw [if_pos h2]at h;cases h
   ·rw [if_neg h2]at h
    exact ⟨t,h,k2 h1,.inr ⟨h1,h2,rfl⟩⟩
 refine ⟨Z2,κ',S2.z0,S2.z1,fun t x h=>?_,S2.mem,S2.inj,fun t ov2 h=>?_,fun t t' ov2 ov2' h h' he=>?_,fun t t' cs ov2 h h' he=>?_,fun hu b o v hc hl=>?_,S2.below,S2.defers,fun t cs j m len h hj=>?_⟩
 ·obtain ⟨y,h1,rfl⟩:=Option.map_eq_some_iff.1 h
  obtain ⟨q1,q2⟩:=S2.tm t y h1
  have hw:=htm t y h1
  have key:∀s,inL [n] s=false→κ' (if s=d then BIG+n else s)=κ s:=fun s hs=>by
   by_cases e2:s=d
   ·rw [if_pos e2,k1,e2]
   ·rw [if_neg e2]
    exact k2 fun e3=>by rw [inL_iff.2 ⟨n,List.mem_singleton.2 rfl,e3⟩]at hs;cases hs
  refine ⟨q1,?_⟩
  cases y with
  | osl s k o l =>
   simp only [wipeT]at hw
   split at hw
   ·cases hw
   ·rename_i hh
    simp only [mvT,RepT,key s (by simpa using hh)]
    exact q2
  | oref s k i o =>
   simp only [wipeT]at hw
   split at hw
   ·cases hw
   ·rename_i hh
    simp only [mvT,RepT,key s (by simpa using hh)]
    exact q2
  | omap s =>
   simp only [wipeT]at hw
   split at hw
   ·cases hw
   ·rename_i hh
    simp only [mvT,RepT,key s (by simpa using hh)]
    exact q2
  | avl b =>
   simp only [wipeT]at hw
   split at hw
   ·cases hw
   ·rename_i hh
    refine ⟨q2.1,lnk3_on (fun m hmb=>k2 fun e3=>?_) q2.2⟩
    have:m=n:=by omega
    subst this
    exact hh (List.any_eq_true.2 ⟨m,hmb,by simp⟩)
  | _=>exact q2
 ·obtain ⟨s,h1,h2,_⟩:=own' t ov2 h
  rw [h2]
  exact S2.own s ov2 h1
 ·obtain ⟨s,h1,h2,h3⟩:=own' t ov2 h
  obtain ⟨s',g1,g2,g3⟩:=own' t' ov2' h'
  rw [h2,g2]at he
  have:=S2.injO s s' ov2 ov2' h1 g1 he
  rcases h3 with ⟨p1,p2⟩|⟨p1,p2,p3⟩ <;> rcases g3 with ⟨r1,r2⟩|⟨r1,r2,r3⟩ <;> omega
 ·obtain ⟨s,h1,h2,_⟩:=own' t' ov2 h'
  rw [h2]at he
  exact S2.injM t s cs ov2 h h1 he
 ·rcases S2.al hu b o v hc hl with h|⟨t,ov2,h1,h2,h3⟩
  ·exact .inl h
  ·by_cases e2:t=d
   ·subst e2
    exact .inr ⟨BIG+n,ov2,by show (if BIG+n=BIG+n then _ else _)=_;rw [if_pos rfl];exact h1,h2,by rw [k1];exact h3⟩
   ·have e3:t≠BIG+n:=fun e=>by rw [e,hm]at h1;cases h1
    exact .inr ⟨t,ov2,by show (if t=BIG+n then _ else if t=d then _ else _)=_;rw [if_neg e3,if_neg e2];exact h1,h2,by rw [k2 e3];exact h3⟩
 ·have e3:BIG+m≠BIG+n:=fun e=>by
   have:m=n:=by omega
   subst this
   exact hmem t cs h (List.mem_flatMap.2 ⟨_,List.mem_of_getElem? hj,List.mem_singleton.2 rfl⟩)
  rw [k2 e3]
  exact S2.lnk t cs j m len h hj
theorem shutC_cases (f:Nat→Option OV) (ns:List Nat) (c:AV):shutC f ns c=c∨∃n len ov,c=.lnk n len∧ns.contains n=true∧f (BIG+n)=some ov∧len≤ov.len∧shutC f ns c=ov.part 0 len:=by
 cases c with
 | lnk n len =>
  simp only [shutC]
  split
  ·rename_i hc
   cases ho:f (BIG+n)with
   | none=>exact .inl rfl
   | some ov =>
    simp only
    split
    ·rename_i hl;exact .inr ⟨n,len,ov,rfl,hc,ho,hl,rfl⟩
    ·exact .inl rfl
  ·exact .inl rfl
 | _=>exact .inl rfl
theorem part_one (ov:OV) (o len:Nat):(ov.part o len).one=true∧(ov.part o len).noLimb=true:=by cases ov <;> exact ⟨rfl,rfl⟩
theorem shutC_oneM {f:Nat→Option OV} {ns:List Nat} {c:AV} (h:c.oneM=true):(shutC f ns c).oneM=true:=by
 rcases shutC_cases f ns c with e|⟨n,len,ov,_,_,_,_,e⟩
 ·rw [e];exact h
 ·rw [e];exact AV.oneM_of (part_one _ _ _).1
theorem shutC_nl {f:Nat→Option OV} {ns:List Nat} {c:AV} (h:c.noLimb=true):(shutC f ns c).noLimb=true:=by
 rcases shutC_cases f ns c with e|⟨n,len,ov,_,_,_,_,e⟩
 ·rw [e];exact h
 ·rw [e];exact (part_one _ _ _).2
theorem shutC_lnk {f:Nat→Option OV} {ns:List Nat} {c:AV} {n len:Nat} (h:shutC f ns c=.lnk n len):c=.lnk n len:=by
 rcases shutC_cases f ns c with e|⟨_,_,ov,_,_,_,_,e⟩
 ·rw [e]at h;exact h
 ·rw [e]at h;cases ov <;> cases h
theorem shutC_rep (S:Sim1 u w0 Z0 σ a w Z β κ) {ns:List Nat} {c:AV} {v:Value} (hr:Rep w Z c v) (hl:lnk1 κ c v):Rep w (frzZ σ κ (ns.map (BIG+·)) Z) (shutC σ.own ns c) v∧lnk1 κ (shutC σ.own ns c) v:=by
 rcases shutC_cases σ.own ns c with e|⟨n,len,ov,rfl,h1,h2,h3,e⟩
 ·rw [e];exact ⟨hr.keep (Keeps.refl _ _) (frzZ_le _ _ _ _),hl⟩
 ·rw [e]
  have hv:v=.slice (some ⟨(κ (BIG+n)).1,0,none⟩) len (κ (BIG+n)).2:=hl
  subst hv
  have hc:(ns.map (BIG+·)).contains (BIG+n)=true:=by simpa using h1
  have:=(S.own _ ov h2).2.part_rep (frzZ_le σ κ (ns.map (BIG+·)) Z) (frzZ_in h2 hc) (off:=0) (len:=len) (by omega)
  simp only [Nat.zero_mul,Nat.sub_zero]at this
  exact ⟨this,by cases ov <;> trivial⟩
theorem shut2_rep (S:Sim1 u w0 Z0 σ a w Z β κ) {ns:List Nat} {c:AV} {v:Value} (hr:Rep w Z c v) (hl:lnk2 κ c v):Rep w (frzZ σ κ (ns.map (BIG+·)) Z) (shut2 σ.own ns c) v∧lnk2 κ (shut2 σ.own ns c) v:=by
 cases c with
 | agg cs =>
  cases hr with
  | agg hl2 hr2 =>
   rename_i vs
   have key:∀j (hj:j<cs.length),Rep w (frzZ σ κ (ns.map (BIG+·)) Z) (shutC σ.own ns cs[j]) (vs[j]'(by omega))∧lnk1 κ (shutC σ.own ns cs[j]) (vs[j]'(by omega)):=fun j hj=>by
    have hv:vs[j]? = some (vs[j]'(by omega)):=Array.getElem?_eq_getElem (by omega)
    exact shutC_rep S (hr2 j hj) (hl j _ _ (List.getElem?_eq_getElem hj) hv)
   refine ⟨.agg (by simpa using hl2) fun j hj=>?_,fun j c u h1 h2=>?_⟩
   ·simp only [List.getElem_map]
    exact (key j (by simpa using hj)).1
   ·simp only [List.getElem?_map,Option.map_eq_some_iff]at h1
    obtain ⟨c0,h3,rfl⟩:=h1
    obtain ⟨h4,h5⟩:=List.getElem?_eq_some_iff.1 h3
    subst h5
    have h2:vs[j]? = some u:=h2
    obtain ⟨h6,h7⟩:=Array.getElem?_eq_some_iff.1 h2
    subst h7
    exact (key j h4).2
 | lnk n len =>
  have:=shutC_rep S (ns:=ns) hr hl
  refine ⟨this.1,?_⟩
  have h2:=this.2
  show lnk2 κ (shutC σ.own ns (.lnk n len)) v
  rcases shutC_cases σ.own ns (.lnk n len)with e|⟨_,_,ov,_,_,_,_,e⟩
  ·rw [e]at h2 ⊢;exact h2
  ·rw [e];cases ov <;> trivial
 | _=>exact ⟨hr.keep (Keeps.refl _ _) (frzZ_le _ _ _ _),hl⟩
theorem shut3_rep (S:Sim1 u w0 Z0 σ a w Z β κ) {ns:List Nat} {c:AV} {v:Value} (hr:Rep w Z c v) (hl:lnk3 κ c v):Rep w (frzZ σ κ (ns.map (BIG+·)) Z) (shut3 σ.own ns c) v∧lnk3 κ (shut3 σ.own ns c) v:=by
 cases c with
 | tup cs =>
  cases hr with
  | tup hl2 hr2 =>
   rename_i vs
   have key:∀j (hj:j<cs.length),Rep w (frzZ σ κ (ns.map (BIG+·)) Z) (shut2 σ.own ns cs[j]) (vs[j]'(by omega))∧lnk2 κ (shut2 σ.own ns cs[j]) (vs[j]'(by omega)):=fun j hj =>
    shut2_rep S (hr2 j hj) (hl j _ _ (List.getElem?_eq_getElem hj) (Array.getElem?_eq_getElem (by omega)))
   refine ⟨.tup (by simpa using hl2) fun j hj=>?_,fun j c u h1 h2=>?_⟩
   ·simp only [List.getElem_map]
    exact (key j (by simpa using hj)).1
   ·simp only [List.getElem?_map,Option.map_eq_some_iff]at h1
    obtain ⟨c0,h3,rfl⟩:=h1
    obtain ⟨h4,h5⟩:=List.getElem?_eq_some_iff.1 h3
    subst h5
    obtain ⟨h6,h7⟩:=Array.getElem?_eq_some_iff.1 h2
    subst h7
    exact (key j h4).2
 | agg cs=>exact shut2_rep S hr hl
 | lnk n len =>
  obtain ⟨h1,h2⟩:=shut2_rep S (ns:=ns) hr hl
  refine ⟨h1,?_⟩
  show lnk3 κ (shut2 σ.own ns (.lnk n len)) v
  have h2:lnk2 κ (shutC σ.own ns (.lnk n len)) v:=h2
  show lnk3 κ (shutC σ.own ns (.lnk n len)) v
  rcases shutC_cases σ.own ns (.lnk n len)with e|⟨_,_,ov,_,_,_,_,e⟩
  ·rw [e]at h2 ⊢;exact h2
  ·rw [e];cases ov <;> trivial
 | _=>exact ⟨hr.keep (Keeps.refl _ _) (frzZ_le _ _ _ _),hl⟩
theorem avlT_rep {b:AV} {v:Value} (h:Rep w Z b v∧lnk3 κ b v):RepT w Z β κ (avlT b) v:=by
 unfold avlT
 split
 ·exact h.1
 ·exact h
theorem Sim1.shut (S:Sim1 u w0 Z0 σ a w Z β κ) (ns:List Nat):Sim1 u w0 Z0 (σ.shut ns) a w (frzZ σ κ (ns.map (BIG+·)) Z) β κ:=by
 have S1:=S.frz (ns.map (BIG+·))
 refine ⟨S1.z0,S1.z1,fun t x h=>?_,fun t cs h=>?_,fun t t' cs cs' h h'=>?_,S1.own,S1.injO,fun t t' cs ov h h'=>?_,S1.al,S1.below,S1.defers,fun t cs j n len h hj=>?_⟩
 ·obtain ⟨y,h1,h2⟩:=Option.bind_eq_some_iff.1 h
  cases y with
  | avl b =>
   cases h2
   obtain ⟨q1,q2⟩:=S.tm t _ h1
   exact ⟨q1,avlT_rep (shut3_rep S q2.1 q2.2)⟩
  | _=>exact S1.tm t x (by simp only [AS.frz,h1,Option.bind_some];exact h2)
 ·obtain ⟨cs0,h1,rfl⟩:=Option.map_eq_some_iff.1 h
  obtain ⟨q1,q2⟩:=S.mem t cs0 h1
  obtain ⟨_,q3⟩:=S1.mem t cs0 h1
  obtain ⟨vs,ty,hb,hr⟩:=q2.ex
  refine ⟨q1,⟨vs,ty,hb,?_⟩,?_,?_,q3.out⟩
  ·have:=(shut2_rep S (ns:=ns) (c:=.agg cs0) hr (fun j c u g1 g2=>by
    cases c with
    | lnk n len =>
     have q:=S.lnk t cs0 j n len h1 g1
     rw [hb.cell]at q
     have g2:vs[j]? = some u:=g2
     rw [g2]at q
     exact Option.some.inj q
    | _=>trivial)).1
   exact this
  ·rw [List.all_eq_true]
   intro x hx
   obtain ⟨c,hc,rfl⟩:=List.mem_map.1 hx
   exact shutC_oneM (List.all_eq_true.1 q2.one c hc)
  ·rw [List.all_eq_true]
   intro x hx
   obtain ⟨c,hc,rfl⟩:=List.mem_map.1 hx
   exact shutC_nl (List.all_eq_true.1 q2.nl c hc)
 ·obtain ⟨cs0,h1,_⟩:=Option.map_eq_some_iff.1 h
  obtain ⟨cs1,h2,_⟩:=Option.map_eq_some_iff.1 h'
  exact S1.inj t t' cs0 cs1 h1 h2
 ·obtain ⟨cs0,h1,_⟩:=Option.map_eq_some_iff.1 h
  exact S1.injM t t' cs0 ov h1 h'
 ·obtain ⟨cs0,h1,rfl⟩:=Option.map_eq_some_iff.1 h
  rw [List.getElem?_map]at hj
  obtain ⟨c,h2,h3⟩:=Option.map_eq_some_iff.1 hj
  rw [shutC_lnk h3]at h2
  exact S.lnk t cs0 j n len h1 h2
theorem Sim.move {N:Nat} (S:Sim u w0 Z0 N σ a w) {m:Move} (h:moveOK σ m):Sim u w0 Z0 N (σ.move m) a w:=by
 have S0:=S
 obtain ⟨⟨Z,β,κ,S⟩,hN⟩:=S
 cases m with
 | frz ts=>exact ⟨⟨_,β,κ,S.frz ts⟩,hN⟩
 | frzB ts=>exact S0.mono (frzB_le σ ts)
 | ren d n =>
  obtain ⟨h1,ov,h2⟩:=h
  obtain ⟨Z',κ',S'⟩:=S.ren h1 h2
  exact ⟨⟨Z',β,κ',S'⟩,hN⟩
 | shut ns=>exact ⟨⟨_,β,κ,S.shut ns⟩,hN⟩
theorem Sim.moves {N:Nat} {K:AS→Prop}:∀(ms:List Move) {σ:AS},Sim u w0 Z0 N σ a w→movesP K ms σ→∃σ',K σ'∧Sim u w0 Z0 N σ' a w
 | [],σ,S,h=>⟨σ,h,S⟩
 | m :: ms,σ,S,h=>Sim.moves ms (S.move h.1) h.2
end
def loadK (σ:AS) (a:AV) (k:TV→Prop):Prop:=match a with
 | .lnk n len=>∃ov,σ.own (BIG+n)=some ov∧ov.len=len∧k (.osl (BIG+n) ov.k 0 len)
 | a=>k (avlT a)
def AV.isTup:AV→Bool
 | .tup _=>true
 | _=>false
def fillW (T:TyTab) (σ:AS) (fs:List (Nat × Nat × TypeId)):List AV→List (Nat × Operand)→Option (List AV)
 | cs,[]=>some cs
 | cs,(f,x) :: rest =>
  match fs[f]? with
  | some (o,n,t)=>(match (σ.get x).bind (partL T t)with
   | some a=>if a.cells.length=n∧o+n≤cs.length then fillW T σ fs (splice cs o a.cells) rest else none
   | none=>none)
  | none=>none
def EqV (P:Program) (op:BinOp) (ty:TypeId) (ox oy:Operand) (a b:AV) (r:Bool):Prop :=
 ∀w Z va vb,Rep w Z a va→Rep w Z b vb→(do eqGuard op ty ox oy va vb;binOp op ty va vb:Sem Value).run P w=.ok (.bool r) w
def astepL (C:Ctx) (o:Oper) (σ:AS) (K:AS→Prop):Prop :=
 match o.op with
 | .load ty x=>∃i t off cs a,C.T ty=some i∧σ.get x=some (.ref t off)∧σ.mem t=some cs∧takeA i (cs.drop off)=some a∧loadK σ a (fun v=>K (σ.put o.dst v))
 | .store ty x y=>∃i t off cs z,C.T ty=some i∧σ.get x=some (.ref t off)∧σ.mem t=some cs∧(σ.get y).bind linkV=some z∧z.cells.length=i.zero.length∧z.cells.all AV.oneM=true∧z.cells.all AV.noLimb=true∧off+z.cells.length≤cs.length∧K ((σ.setMem t (splice cs off z.cells)).put o.dst .skip)
 | .build ty parts=>∃fs z b cs,C.T ty=some ⟨.strct fs,z,b⟩∧z.all AV.one=true∧fillW C.T σ fs z parts.toList=some cs∧K (σ.put o.dst (avlT (.agg cs)))
 | .extract x i=>∃l a,σ.get x=some (.avl (.tup l))∧l[i]? = some a∧a.isTup=false∧loadK σ a (fun v=>K (σ.put o.dst v))
 | .field ty x f=>∃fs z b o' n t cs i a,C.T ty=some ⟨.strct fs,z,b⟩∧fs[f]? = some (o',n,t)∧σ.get x=some (.avl (.agg cs))∧cs.all AV.oneM=true∧C.T t=some i∧takeA i (cs.drop o')=some a∧loadK σ a (fun v=>K (σ.put o.dst v))
 | .box ty x=>∃t a,o.dst=some t∧σ.get x=some (.avl a)∧a.cells.all AV.oneM=true∧a.cells.all AV.noLimb=true∧K (σ.new t a.cells)
 | .convert src dst x=>∃z b e k l z' b' s,C.T src=some ⟨.str,z,b⟩∧C.T dst=some ⟨.slc e k l,z',b'⟩∧isByteT C.T e=true∧σ.get x=some (.av (.lit (.string s)))∧K (σ.put o.dst (.av (.sl 1 (s.data.toList.map byteA))))
 | .binOp op ty x y _=>∃a b r,σ.get x=some (.av a)∧σ.get y=some (.av b)∧EqV C.P op ty x y a b r∧K (σ.put o.dst (.av (.lit (.bool r))))
 | .call ⟨.builtin .append,xs,tys⟩=>∃x y ty e k l z b yv xv n,xs=#[x,y]∧tys=#[ty,ty]∧C.T ty=some ⟨.slc e k l,z,b⟩∧σ.get y=some (.av yv)∧lenA yv=some 0∧σ.get x=some xv∧lenT xv=some n∧K (σ.put o.dst xv)
 | _=>False
section
variable {C:Ctx} {u:Bool} {w0:Base} {w w':World} {Z0 Z Z':Zone} {σ τ:AS} {a:Act} {β:Nat→Nat} {κ:Nat→Nat × Nat}
theorem cells_lnk {z:AV} {v:Value} (hr:Rep w Z z v) (hl:lnk3 κ z v) {j:Nat} {c:AV} {x:Value} (h1:z.cells[j]? = some c) (h2:v.cells[j]? = some x):lnk1 κ c x:=by
 cases z with
 | agg cs=>exact hl j c x h1 h2
 | lnk n len =>
  have hv:v=.slice (some ⟨(κ (BIG+n)).1,0,none⟩) len (κ (BIG+n)).2:=hl
  subst hv
  cases j with
  | zero=>cases h1;cases h2;rfl
  | succ j=>simp [AV.cells]at h1
 | _=>simp only [AV.cells]at h1;cases j with
  | zero=>cases h1;trivial
  | succ j=>simp at h1
theorem layV_get {vs xs:Array Value} {o:Nat} (h:o+xs.size≤vs.size) (j:Nat):(layV vs o xs)[j]? = if o≤j∧j<o+xs.size then xs[j-o]? else vs[j]?:=by
 rw [layV_eq h,List.getElem?_toArray,splice_get? (by simpa using h)]
 simp
theorem loadK_sound (S:Sim1 u w0 Z0 σ a w Z β κ) {y:AV} {v:Value} (hr:Rep w Z y v) (hl:lnk3 κ y v) {k:TV→Prop} (h:loadK σ y k):∃x,k x∧RepT w Z β κ x v:=by
 cases y with
 | lnk n len =>
  obtain ⟨ov,h1,h2,h4⟩:=h
  refine ⟨_,h4,?_⟩
  have hs:=(S.own _ ov h1).2.size_le
  have hv:v=.slice (some ⟨(κ (BIG+n)).1,0,none⟩) len (κ (BIG+n)).2:=hl
  exact ⟨by omega,by rw [hv,Nat.zero_mul,Nat.sub_zero]⟩
 | _=>exact ⟨_,h,avlT_rep ⟨hr,hl⟩⟩
theorem partL_sound (S:Sim1 u w0 Z0 σ a w Z β κ) {T:TyTab} {ty:TypeId} {x:TV} {y:AV} {v:Value} (hx:RepT w Z β κ x v) (h:partL T ty x=some y):Rep w Z y v∧lnk3 κ y v:=by
 cases x with
 | av b =>
  simp only [partL]at h
  split at h
  ·rename_i hb
   cases h
   exact ⟨normA_sound hx,lnk3_none (norm_links (List.isEmpty_iff.1 hb))⟩
  ·cases h
 | _=>exact linkV_sound S hx h
theorem lay_lnk {cs:List AV} {vs:Array Value} {y:AV} {v:Value} {o:Nat} (hr:Rep w Z y v) (hl:lnk3 κ y v) (hc:∀(j:Nat) c x,cs[j]? = some c→vs[j]? = some x→lnk1 κ c x) (h1:o+y.cells.length≤cs.length) (h2:vs.size=cs.length):∀(j:Nat) c x,(splice cs o y.cells)[j]? = some c→(layV vs o v.cells)[j]? = some x→lnk1 κ c x:=by
 intro j c x h3 h4
 have hsz:=hr.cells.1
 rw [splice_get? h1]at h3
 rw [layV_get (by omega)]at h4
 split at h3
 ·rename_i hh
  rw [if_pos (by omega)]at h4
  exact cells_lnk hr hl h3 h4
 ·rename_i hh
  rw [if_neg (by omega)]at h4
  exact hc j c x h3 h4
theorem takeA_partL {ty:TypeId} {i:TI} (h:TIOK C.P ty i) {cs:List AV} {vs:Array Value} (hr:Rep w Z (.agg cs) (.agg vs)) (hk:∀(j:Nat) c x,cs[j]? = some c→vs[j]? = some x→lnk1 κ c x) (hone:cs.all AV.oneM=true) {o:Nat} {x:AV} (ht:takeA i (cs.drop o)=some x):∃u,(part ty vs o).run C.P w=.ok u w∧Rep w Z x u∧lnk3 κ x u:=by
 obtain ⟨info,zv,h1,h2,_⟩:=h.inf
 have ha:=run_isAgg h w
 obtain ⟨hl,hrr⟩:=Rep.agg_iff.1 hr
 have many:i.zero.length≤(cs.drop o).length→x=.agg ((cs.drop o).take i.zero.length)→(isAgg ty).run C.P w=.ok true w→∃u,(part ty vs o).run C.P w=.ok u w∧Rep w Z x u∧lnk3 κ x u:=fun hle hx ha=>by
  subst hx
  simp at hle
  have get:∀(j:Nat) y v,((cs.drop o).take i.zero.length)[j]? = some y→(vs.extract o (o+i.zero.length))[j]? = some v→cs[o+j]? = some y∧vs[o+j]? = some v:=fun j y v h3 h4=>by
   have hj:j<i.zero.length:=by
    have:=(List.getElem?_eq_some_iff.1 h3).1
    simp at this
    omega
   rw [List.getElem?_take_of_lt hj,List.getElem?_drop]at h3
   rw [Array.getElem?_extract]at h4
   split at h4
   ·exact ⟨h3,h4⟩
   ·cases h4
  refine ⟨.agg (vs.extract o (o+i.zero.length)),by simp [part,ha,run_size h1,h2],?_,fun j y v h3 h4=>?_⟩
  ·rw [Rep.agg_iff]
   exact ⟨by simp;omega,fun j y v h3 h4=>hrr _ _ _ (get j y v h3 h4).1 (get j y v h3 h4).2⟩
  ·exact hk _ _ _ (get j y v h3 h4).1 (get j y v h3 h4).2
 unfold takeA at ht
 split at ht
 ·rename_i fs hkk
  rw [hkk]at ha
  split at ht
  ·rename_i hle
   cases ht
   exact many hle rfl ha
  ·cases ht
 ·rename_i hkk
  rw [hkk]at ha
  split at ht
  ·rename_i hle
   cases ht
   exact many hle rfl ha
  ·cases ht
 ·rename_i hk1 hk2
  have ha':(isAgg ty).run C.P w=.ok false w:=by
   rw [ha]
   cases hkk:i.kind <;> first|rfl|exact absurd hkk (hk1 _)|exact absurd hkk (hk2 _ _ _)
  rw [List.head?_eq_getElem?,List.getElem?_drop,Nat.add_zero]at ht
  have hlt:=(List.getElem?_eq_some_iff.1 ht).1
  have hv:vs[o]? = some (vs[o]'(by omega)):=Array.getElem?_eq_getElem (by omega)
  refine ⟨_,by simp [part,ha',hv],hrr _ _ _ ht hv,?_⟩
  have hm:=List.all_eq_true.1 hone _ (List.mem_of_getElem? ht)
  have h1:=hk o x _ ht hv
  cases x with
  | tup l=>cases hm
  | agg l=>cases hm
  | _=>exact h1
theorem fillW_sound {T:TyTab} (S:Sim1 u w0 Z0 σ a w Z β κ) {fs:List (Nat × Nat × TypeId)} {place:Nat→Option (Nat × Nat)} (hp:∀(f o n:Nat) (t:TypeId),fs[f]? = some (o,n,t)→place f=some (o,n)) :
  ∀(parts:List (Nat × Operand)) (cs:List AV) (vs:Array Value) (cs':List AV),Rep w Z (.agg cs) (.agg vs)→(∀(j:Nat) c x,cs[j]? = some c→vs[j]? = some x→lnk1 κ c x)→fillW T σ fs cs parts=some cs' →
   ∃vs',Instr.fill place vs (parts.map fun (i,x)=>(i,a.eval x))=some vs'∧Rep w Z (.agg cs') (.agg vs')∧∀(j:Nat) c x,cs'[j]? = some c→vs'[j]? = some x→lnk1 κ c x
 | [],cs,vs,cs',hr,hk,h=>by
  cases h
  exact ⟨vs,rfl,hr,hk⟩
 | (f,x) :: rest,cs,vs,cs',hr,hk,h=>by
  unfold fillW at h
  split at h
  ·rename_i o n t h1
   split at h
   ·rename_i y h2
    split at h
    ·rename_i hc
     obtain ⟨xv,h3,h4⟩:=Option.bind_eq_some_iff.1 h2
     obtain ⟨hn,hnl⟩:=partL_sound S (S.get h3) h4
     have hl:=hn.cells.1
     have hr':=layV_rep (o:=o) hr hn (by omega)
     have hsz:vs.size=cs.length:=by cases hr with|agg hl _=>exact hl
     obtain ⟨vs',q1,q2,q3⟩:=fillW_sound S hp rest _ _ cs' hr' (lay_lnk hn hnl hk (by omega) hsz) h
     refine ⟨vs',?_,q2,q3⟩
     simp only [List.map_cons,Instr.fill,hp f o n t h1]
     rw [if_neg (by simp;omega)]
     exact q1
    ·cases h
   ·cases h
  ·cases h
set_option maxHeartbeats 1000000 in
theorem slice_len {x:AV} {v:Value} (h:Rep w Z x v) {n:Nat} (hn:lenA x=some n):∃A c,v=.slice A n c∧n≤c:=by
 cases h with
 | lit hv =>
  unfold lenA at hn
  split at hn <;> first|(cases hn;done)|skip
  all_goals (rename_i heq;first|(cases heq;done)|(cases heq;cases hn;exact ⟨_,_,rfl,Nat.le_refl _⟩))
 | nat h hc hz=>cases hn;exact ⟨_,_,rfl,hc⟩
 | nil=>cases hn;exact ⟨_,_,rfl,Nat.zero_le _⟩
 | sl vs hb hc hk hm hr=>cases hn;exact ⟨_,_,rfl,hc⟩
 | _=>cases hn
theorem run_append_zero {P:Program} (w:World) (t ty e:TypeId) (i:TypeInfo) (ht:P.underlying t=some (.slice e)) (hi:P.info? e=some i) (A B:Option Addr) (n c c2:Nat) (hn:n≤c) :
  (Builtin.append_ #[t,t] ty #[.slice A n c,.slice B 0 c2]).run P w=.ok (.slice A n c) w:=by
 have hf:(Builtin.firstCells i.size 0 (.slice B 0 c2)).run P w=.ok #[] w:=by
  cases B with
  | none=>exact run_firstCells_none w i.size 0 0 c2
  | some b =>
   have:=run_firstCells_some (P:=P) w i.size 0 b 0 c2 [] (by simp) (fun j v hj=>by simp at hj)
   simpa using this
 cases A with
 | none=>simp [Builtin.append_,run_underlying ht,sizeOf,typeInfo,hi,Builtin.lenOf,hn,hf]
 | some a=>simp [Builtin.append_,run_underlying ht,sizeOf,typeInfo,hi,Builtin.lenOf,hn,hf,storeCells]
theorem astepL_sound {N:Nat} (S0:Sim C.u w0 Z0 N σ a w) (hz0:∀b o,Z0 b o→b<w0.w.heap.size) {o:Oper} (hd:∀t,o.dst=some t→w0.np≤t∧t<N∧t<BIG) {K:AS→Prop} {Q:Exit→Act→World→Prop} (h:astepL C o σ K) :
  o.wp C.P a w (fun a' w'=>∃σ',K σ'∧Sim C.u w0 Z0 N σ' a' w') Q:=by
 obtain ⟨⟨Z,β,κ,S⟩,hN⟩:=S0
 have hd':∀t,o.dst=some t→t<a.tmps.size:=hN.lt hd
 obtain ⟨dst,op,type,pos,after,guard⟩:=o
 cases op with
 | load ty x =>
  obtain ⟨i,t,off,cs,y,h1,h2,h3,h4,h5⟩:=h
  have e:a.eval x=.pointer (some ⟨β t,off,none⟩):=S.get h2
  have hL:=(S.mem t cs h3).2
  have hc:=hL.cellsAt.drop (n:=off)
  rw [Nat.zero_add]at hc
  obtain ⟨v,r1,r2,r3⟩:=run_loadVar_L (C.hT _ _ h1) hc h4 (by
   have:=hL.one
   rw [List.all_eq_true]at this ⊢
   exact fun x hx=>this x (List.mem_of_mem_drop hx)) (fun j n len hj=>by
   rw [List.getElem?_drop]at hj
   exact S.lnk t cs _ n len h3 hj)
  have r4:lnk3 κ y v:=by
   cases y with
   | tup l =>
    have hone:=hL.one
    unfold takeA at h4
    split at h4
    ·split at h4 <;> cases h4
    ·split at h4 <;> cases h4
    ·have hm:AV.tup l∈cs:=List.mem_of_mem_drop (List.mem_of_mem_head? (h4:(cs.drop off).head? = some _))
     have:=List.all_eq_true.1 hone _ hm
     cases this
   | _=>exact r3
  obtain ⟨x',g1,g2⟩:=loadK_sound S r2 r4 h5
  unfold Oper.wp
  have hrun:(execOp a.eval ⟨dst,.load ty x,type,pos,after,guard⟩).run C.P w=.ok (.value v) w:=by simp [execOp,Instr.loadAt,Instr.sureAddr,e,r1]
  rw [hrun,Oper.upon_value]
  exact ⟨_,g1,⟨Z,β,κ,S.put hd' g2⟩,hN.put hd⟩
 | store ty x y =>
  obtain ⟨i,t,off,cs,z,h1,h2,h3,h4,h5,h6,h7,h8,h9⟩:=h
  have ex:a.eval x=.pointer (some ⟨β t,off,none⟩):=S.get h2
  obtain ⟨yv,y1,y2⟩:=Option.bind_eq_some_iff.1 h4
  obtain ⟨hg,hgl⟩:=linkV_sound S (S.get y1) y2
  obtain ⟨_,hL⟩:=S.mem t cs h3
  obtain ⟨vs,ty',hb,hr⟩:=hL.ex
  obtain ⟨l1,l2⟩:=Rep.agg_iff.1 hr
  obtain ⟨c1,c2⟩:=hg.cells
  have hst:=run_storeVar (C.hT _ _ h1) hb (o:=off) hg h5 h6 (by omega)
  have hrun:(execOp a.eval ⟨dst,.store ty x y,type,pos,after,guard⟩).run C.P w=.ok .skip (w.setRow (β t) (layV vs off (a.eval y).cells)):=by
   simp only [execOp,ex,Sem.run_bind,hst,Result.andThen_ok,Sem.run_pure]
  unfold Oper.wp
  rw [hrun,Oper.upon_skip]
  have hnew:=layV_rep (o:=off) hr hg h8
  have hk:∀(j:Nat) c x,cs[j]? = some c→vs[j]? = some x→lnk1 κ c x:=fun j c x g1 g2=>by
   cases c with
   | lnk n len =>
    have q:=S.lnk t cs j n len h3 g1
    rw [hb.cell,g2]at q
    exact Option.some.inj q
   | _=>trivial
  have hk2:=lay_lnk hg hgl hk h8 l1
  have hsz:(layV vs off (a.eval y).cells).size=(splice cs off z.cells).length:=by
   cases hnew with|agg hl _=>exact hl
  have S2:=S.setVar h3 hnew (splice_all hL.one h6) (splice_all hL.nl h7) (fun j n len hj=>by
   have hlt:=(List.getElem?_eq_some_iff.1 hj).1
   have hv:=Array.getElem?_eq_getElem (xs:=layV vs off (a.eval y).cells) (i:=j) (by omega)
   rw [hv,hk2 j _ _ hj hv])
  exact ⟨_,h9,⟨_,β,κ,S2.put hd' rfl⟩,hN.put hd⟩
 | build ty parts =>
  obtain ⟨fs,z,bb,cs,h1,h0,h2,h4⟩:=h
  obtain ⟨zv,z1,z2⟩:=run_zero (C.hT _ _ h1) w
  obtain ⟨fds,u1,u0,u2⟩:=(C.hT _ _ h1).und
  have hpl:∃places:Array (Nat × Nat),(fds.mapM fun f=>do pure (f.offset,←Go.sizeOf f.type):Sem (Array (Nat × Nat))).run C.P w=.ok places w∧∀(f o n:Nat) (t:TypeId),fs[f]? = some (o,n,t)→places[f]? = some (o,n):=by
   refine ⟨fds.map fun fd=>(fd.offset,((C.P.info? fd.type).map (·.size)).getD 0),run_places fds _ fun fd hfd=>?_,fun f o n t hf=>?_⟩
   ·obtain ⟨f,hlt,rfl⟩:=Array.mem_iff_getElem.1 hfd
    obtain ⟨⟨o,n,t⟩,hp⟩:∃p,fs[f]? = some p:=⟨_,List.getElem?_eq_getElem (by omega)⟩
    obtain ⟨fd,v1,_,_,_,fi,v4,v5⟩:=u2 f o n t hp
    rw [Array.getElem?_eq_getElem hlt]at v1
    cases v1
    rw [run_size v4,v4]
    rfl
   ·obtain ⟨fd,v1,rfl,rfl,_,fi,v4,rfl⟩:=u2 f o n t hf
    simp [v1,v4]
  obtain ⟨places,p1,p2⟩:=hpl
  obtain ⟨vs',q1,q2,q3⟩:=fillW_sound S (T:=C.T) (place:=(places[·]?)) p2 parts.toList z zv.cells cs (z2 w _) (fun j c x g1 g2=>by
   cases c with
   | lnk n len=>exact (AV.one_nl h0 g1).elim
   | _=>trivial) h2
  have e:(parts.map fun (i,x)=>(i,a.eval x)).toList=parts.toList.map fun (i,x)=>(i,a.eval x):=by simp
  have hrun:(execOp a.eval ⟨dst,.build ty parts,type,pos,after,guard⟩).run C.P w=.ok (.value (.agg vs')) w:=by
   simp only [execOp,Instr.build,Sem.run_bind,z1,Result.andThen_ok,run_under u1,p1,e,q1]
   rfl
  unfold Oper.wp
  rw [hrun,Oper.upon_value]
  exact ⟨_,h4,⟨Z,β,κ,S.put hd' (avlT_rep ⟨q2,fun j c x g1 g2=>q3 j c x g1 g2⟩)⟩,hN.put hd⟩
 | extract x i =>
  obtain ⟨l,y,h1,h2,h0,h3⟩:=h
  obtain ⟨hg,hgl⟩:=(S.get h1:RepT w Z β κ (.avl (.tup l)) (a.eval x))
  generalize hv:a.eval x=u0 at *
  cases hg with
  | tup hl hr =>
   rename_i us
   obtain ⟨q1,rfl⟩:=List.getElem?_eq_some_iff.1 h2
   have hu:us[i]? = some (us[i]'(by omega)):=Array.getElem?_eq_getElem (by omega)
   have hc2:=hgl i _ _ (List.getElem?_eq_getElem q1) hu
   have hc3:lnk3 κ l[i] (us[i]'(by omega)):=by
    cases hli:l[i]with
    | tup l'=>rw [hli]at h0;cases h0
    | _=>rw [hli]at hc2;exact hc2
   obtain ⟨x',g1,g2⟩:=loadK_sound S (hr i q1) hc3 h3
   have hrun:(execOp a.eval ⟨dst,.extract x i,type,pos,after,guard⟩).run C.P w=.ok (.value (us[i]'(by omega))) w:=by
    simp [execOp,hv,Instr.extract,hu]
   unfold Oper.wp
   rw [hrun,Oper.upon_value]
   exact ⟨_,g1,⟨Z,β,κ,S.put hd' g2⟩,hN.put hd⟩
 | field ty x f =>
  obtain ⟨fs,z,bb,o,n,t,cs,i,y,h1,h2,h3,h0,h4,h5,h6⟩:=h
  obtain ⟨hg,hgl⟩:=(S.get h3:RepT w Z β κ (.avl (.agg cs)) (a.eval x))
  obtain ⟨fds,u1,_,u2⟩:=(C.hT _ _ h1).und
  obtain ⟨fd,v1,rfl,rfl,_⟩:=u2 f o n t h2
  generalize hv:a.eval x=u0 at *
  cases hg with
  | agg hl hr =>
   rename_i vs
   obtain ⟨v,r1,r2,r3⟩:=takeA_partL (κ:=κ) (C.hT _ _ h4) (.agg hl hr) (fun j c x g1 g2=>hgl j c x g1 g2) h0 h5
   obtain ⟨x',g1,g2⟩:=loadK_sound S r2 r3 h6
   have hrun:(execOp a.eval ⟨dst,.field ty x f,type,pos,after,guard⟩).run C.P w=.ok (.value v) w:=by
    simp [execOp,hv,Instr.field,run_under u1,v1,asAgg,r1]
   unfold Oper.wp
   rw [hrun,Oper.upon_value]
   exact ⟨_,g1,⟨Z,β,κ,S.put hd' g2⟩,hN.put hd⟩
 | box ty x =>
  obtain ⟨t,y,ht,h1,h2,h3,h4⟩:=h
  obtain rfl:dst=some t:=ht
  obtain ⟨hg,hgl⟩:=(S.get h1:RepT w Z β κ (.avl y) (a.eval x))
  have hr:(execOp a.eval ⟨some t,.box ty x,type,pos,after,guard⟩).run C.P w=.ok (.value (.pointer (some ⟨w.heap.size,0,none⟩))) (w.alloc (.cells (a.eval x).cells ty)):=by
   simp [execOp,Instr.box,newVar,newRow]
  unfold Oper.wp
  rw [hr,Oper.upon_value]
  obtain ⟨c1,c2⟩:=hg.cells
  exact ⟨_,h4,⟨_,_,κ,S.newVar hz0 (hd' t rfl) (.agg c1 fun j hj=>c2 j hj (by omega)) h2 h3 (fun j n len hj=>by
   have hlt:=(List.getElem?_eq_some_iff.1 hj).1
   have hv:=Array.getElem?_eq_getElem (xs:=(a.eval x).cells) (i:=j) (by omega)
   rw [hv,cells_lnk hg hgl hj hv])⟩,hN.put hd⟩
 | convert src dty x =>
  obtain ⟨z,b,e,k,l,z',b',s,h1,h2,h3,h4,h5⟩:=h
  have u1:C.P.underlying src=some .string:=(C.hT _ _ h1).und
  have u2:C.P.underlying dty=some (.slice e):=(C.hT _ _ h2).und.1
  have u3:C.P.underlying e=some (.int .u8):=by
   unfold isByteT at h3
   split at h3
   ·rename_i h6;exact (C.hT _ _ h6).und
   ·cases h3
  have r:=run_bytes_of_string (P:=C.P) w src dty e s u1 u2 u3
  have hge:=grownCap_ge w s.size 0 e
  generalize grownCap w s.size 0 e=cap at r hge
  generalize hcs:bytesRow s cap=cs at r
  have hget:∀i,i<s.data.toList.length→∃c:UInt8,s.data.toList[i]? = some c∧cs[i]? = some (.int .u8 c.toNat):=fun i hi=>by
   refine ⟨_,List.getElem?_eq_getElem hi,?_⟩
   have hi':i<s.data.size:=by simpa using hi
   rw [←hcs]
   unfold bytesRow
   rw [Array.getElem?_append_left (by simpa using hi'),Array.getElem?_map,Array.getElem?_eq_getElem hi']
   simp
  have hb:Below w.heap.size w (w.drew.alloc (.cells cs e (cs.size,cs.size+1))):=((Below.refl _ _).drew).alloc (Nat.le_refl _) _
  have hblk:(w.drew.alloc (.cells cs e (cs.size,cs.size+1))).heap[w.heap.size]? = some (.cells cs e (cs.size,cs.size+1)):=heap_alloc_new w.drew _
  have hlt:w.heap.size<(w.drew.alloc (.cells cs e (cs.size,cs.size+1))).heap.size:=(Array.getElem?_eq_some_iff.1 hblk).1
  generalize w.drew.alloc (.cells cs e (cs.size,cs.size+1))=w1 at r hb hblk hlt
  have S2:=S.grow (Z':=grown Z w w1) hb (fun _ _ h=>.inl h) (fun _ _ h=>h) (fun _ b o v hbb hc _=>.inr ⟨hbb,World.block_lt_of_cell? _ _ hc⟩)
  have hr:(execOp a.eval ⟨dst,.convert src dty x,type,pos,after,guard⟩).run C.P w=.ok (.value (.slice (some ⟨w.heap.size,0,none⟩) s.size cap)) w1:=by
   simp [execOp,S.lit h4,r,Result.andThen]
  unfold Oper.wp
  rw [hr,Oper.upon_value]
  refine ⟨_,h5,⟨_,β,κ,S2.put hd' ?_⟩,hN.put hd⟩
  have hsz:(s.data.toList.map byteA).length=s.size:=by rw [List.length_map];exact Array.length_toList
  have:Rep w1 (grown Z w w1) (.sl 1 (s.data.toList.map byteA)) (.slice (some ⟨w.heap.size,0,none⟩) (s.data.toList.map byteA).length cap):=by
   refine .sl (fun i _=>cs[i]?.getD undef) hlt (by omega) (fun i hi=>by simp [byteA,AV.cells]) (fun i j hi hj=>?_) (fun i hi j hj=>?_)
   ·have hj:j=0:=by omega
    subst hj
    obtain ⟨c,q1,q2⟩:=hget i (by simpa using hi)
    refine ⟨?_,.inr ⟨Nat.le_refl _,hlt⟩⟩
    simp only [World.cell?,hblk,Nat.zero_add,Nat.mul_one,Nat.add_zero]
    rw [q2]
    simp
   ·obtain ⟨c,q1,q2⟩:=hget i (by simpa using hi)
    have hc:(s.data.toList.map byteA)[i]'hi=byteA c:=by
     rw [List.getElem_map]
     rw [List.getElem?_eq_getElem (by simpa using hi)]at q1
     rw [Option.some.inj q1]
    have hj0:j=0:=by
     have:((s.data.toList.map byteA)[i]'hi).cells.length=1:=by rw [hc];rfl
     omega
    subst hj0
    have hcell:((s.data.toList.map byteA)[i]'hi).cells[0]'hj=byteA c:=by
     have:∀(y:AV) (hy:y=byteA c) (h:0<y.cells.length),y.cells[0]'h=byteA c:=fun y hy h=>by subst hy;rfl
     exact this _ hc hj
    rw [hcell,q2]
    exact .lit rfl
  rw [hsz]at this
  exact this
 | binOp bo ty x y yt =>
  obtain ⟨p,q,r,h1,h2,h3,h4⟩:=h
  have g1:Rep w Z p (a.eval x):=S.get h1
  have g2:Rep w Z q (a.eval y):=S.get h2
  have e:=h3 w Z _ _ g1 g2
  have hr:(execOp a.eval ⟨dst,.binOp bo ty x y yt,type,pos,after,guard⟩).run C.P w=.ok (.value (.bool r)) w:=by
   simp only [execOp]
   rw [Sem.run_bind,e]
   rfl
  unfold Oper.wp
  rw [hr,Oper.upon_value]
  exact ⟨_,h4,⟨_,β,κ,S.put hd' (.lit rfl)⟩,hN.put hd⟩
 | call c =>
  obtain ⟨callee,xs,tys⟩:=c
  cases callee with
  | builtin bi =>
   cases bi with
   | append =>
    obtain ⟨x,y,ty,e,k,l,z,b,yv,xv,n,rfl,rfl,h1,h2,h3,h4,h5,h6⟩:=h
    obtain ⟨u1,ei,u2,u3⟩:=(C.hT _ _ h1).und
    obtain ⟨B,c2,g1,_⟩:=slice_len (S.get h2:Rep w Z yv (a.eval y)) h3
    have g2:RepT w Z β κ xv (a.eval x):=S.get h4
    obtain ⟨A,c1,g3,g4⟩:∃A c,a.eval x=.slice A n c∧n≤c:=by
     cases xv with
     | av p=>exact slice_len (Z:=Z) g2 h5
     | osl t k' off len =>
      cases h5
      obtain ⟨q1,q2⟩:=g2
      exact ⟨_,_,q2,by omega⟩
     | _=>cases h5
    have hrun:=run_append_zero (P:=C.P) w ty type e ei u1 u2 A B n c1 c2 g4
    have hr:(execOp a.eval ⟨dst,.call ⟨.builtin .append,#[x,y],#[ty,ty]⟩,type,pos,after,guard⟩).run C.P w=.ok (.value (.slice A n c1)) w:=by
     simp [execOp,resolve,invoke,builtin,g1,g3,hrun,Result.andThen]
    unfold Oper.wp
    rw [hr,Oper.upon_value]
    rw [g3]at g2
    exact ⟨_,h6,⟨_,β,κ,S.put hd' g2⟩,hN.put hd⟩
   | _=>exact h.elim
  | _=>exact h.elim
 | _=>exact h.elim
end
def stepX (C:Ctx) (o:Oper) (σ:AS) (K:AS→Prop):Prop:=astep C false o σ K∨callL C o σ K∨astepL C o σ K
def stepGX (C:Ctx) (ops:Array Oper) (o:Oper) (σ:AS) (K:AS→Prop):Prop:=∃b,wantedA ops σ o=some b∧(b=true→stepX C o σ K)∧(b=false→K (σ.put o.dst .skip))
def arunX (C:Ctx) (ops:Array Oper):List Oper→AS→(AS→Prop)→Prop
 | [],σ,K=>K σ
 | o :: l,σ,K=>∃ms,movesP (fun σ1=>stepGX C ops o σ1 (fun σ2=>arunX C ops l σ2 K)) ms σ
def arunXI (C:Ctx) (ops:Array Oper):List Nat→AS→(AS→Prop)→Prop
 | [],σ,K=>K σ
 | i :: l,σ,K=>∃o,ops[i]? = some o∧∃ms,movesP (fun σ1=>stepGX C ops o σ1 (fun σ2=>arunXI C ops l σ2 K)) ms σ
theorem movesP_mono {K K':AS→Prop} (hk:∀σ,K σ→K' σ):∀(ms:List Move) (σ:AS),movesP K ms σ→movesP K' ms σ
 | [],σ,h=>hk σ h
 | m :: ms,σ,h=>⟨h.1,movesP_mono hk ms _ h.2⟩
theorem loadK_mono {σ:AS} {a:AV} {k k':TV→Prop} (hk:∀v,k v→k' v) (h:loadK σ a k):loadK σ a k':=by
 cases a with
 | lnk n len=>obtain ⟨ov,h1,h2,h3⟩:=h;exact ⟨ov,h1,h2,hk _ h3⟩
 | _=>exact hk _ h
theorem astepL_mono {C:Ctx} {o:Oper} {σ:AS} {K K':AS→Prop} (hk:∀σ,K σ→K' σ) (h:astepL C o σ K):astepL C o σ K':=by
 obtain ⟨dst,op,type,pos,after,guard⟩:=o
 cases op with
 | load ty x=>obtain ⟨i,t,off,cs,a,h1,h2,h3,h4,h5⟩:=h;exact ⟨i,t,off,cs,a,h1,h2,h3,h4,loadK_mono (fun v=>hk _) h5⟩
 | store ty x y=>obtain ⟨i,t,off,cs,z,h1,h2,h3,h4,h5,h6,h7,h8,h9⟩:=h;exact ⟨i,t,off,cs,z,h1,h2,h3,h4,h5,h6,h7,h8,hk _ h9⟩
 | build ty parts=>obtain ⟨fs,z,b,cs,h1,h2,h3,h4⟩:=h;exact ⟨fs,z,b,cs,h1,h2,h3,hk _ h4⟩
 | extract x i=>obtain ⟨l,a,h1,h2,h3,h4⟩:=h;exact ⟨l,a,h1,h2,h3,loadK_mono (fun v=>hk _) h4⟩
 | field ty x f=>obtain ⟨fs,z,b,o',n,t,cs,i,a,h1,h2,h3,h4,h5,h6,h7⟩:=h;exact ⟨fs,z,b,o',n,t,cs,i,a,h1,h2,h3,h4,h5,h6,loadK_mono (fun v=>hk _) h7⟩
 | box ty x=>obtain ⟨t,a,h1,h2,h3,h4,h5⟩:=h;exact ⟨t,a,h1,h2,h3,h4,hk _ h5⟩
 | call c =>
  obtain ⟨callee,xs,tys⟩:=c
  cases callee with
  | builtin bi =>
   cases bi with
   | append=>obtain ⟨x,y,ty,e,k,l,z,b,yv,xv,n,h0,h0',h1,h2,h3,h4,h5,h6⟩:=h;exact ⟨x,y,ty,e,k,l,z,b,yv,xv,n,h0,h0',h1,h2,h3,h4,h5,hk _ h6⟩
   | _=>exact h.elim
  | _=>exact h.elim
 | binOp bo ty x y yt=>obtain ⟨a,b,r,h1,h2,h3,h4⟩:=h;exact ⟨a,b,r,h1,h2,h3,hk _ h4⟩
 | convert src dty x=>obtain ⟨z,b,e,k,l,z',b',s,h1,h2,h3,h4,h5⟩:=h;exact ⟨z,b,e,k,l,z',b',s,h1,h2,h3,h4,hk _ h5⟩
 | _=>exact h
theorem stepGX_mono {C:Ctx} {ops:Array Oper} {o:Oper} {σ:AS} {K K':AS→Prop} (hk:∀σ,K σ→K' σ) (h:stepGX C ops o σ K):stepGX C ops o σ K':=by
 obtain ⟨b,h1,h2,h3⟩:=h
 refine ⟨b,h1,fun hb=>?_,fun hb=>hk _ (h3 hb)⟩
 rcases h2 hb with h|h|h
 ·exact .inl (astep_mono hk h)
 ·exact .inr (.inl (callL_mono hk h))
 ·exact .inr (.inr (astepL_mono hk h))
theorem arunXI_of {C:Ctx} {ops:Array Oper} {K:AS→Prop}:∀(l:List Oper) (k:Nat) (σ:AS),ops.toList.drop k=l→arunX C ops l σ K→arunXI C ops (List.range' k l.length) σ K
 | [],k,σ,_,h=>h
 | o :: l,k,σ,hd,⟨ms,h⟩=>by
  have hk:ops[k]? = some o:=by
   have:=congrArg (·[0]?) hd
   simpa using this
  have hd':ops.toList.drop (k+1)=l:=by
   have:=congrArg (List.drop 1) hd
   simpa [Nat.add_comm]using this
  exact ⟨o,hk,ms,movesP_mono (fun σ1 h1=>stepGX_mono (fun σ2 h2=>arunXI_of l (k+1) σ2 hd' h2) h1) _ _ h⟩
section
variable {C:Ctx} {ops:Array Oper} {N:Nat} {w0:Base} {Z0:Zone} {σ τ:AS} {o:Oper}
theorem stepGX_sound {σ:AS} {a:Act} {w:World} (S:Sim C.u w0 Z0 N σ a w) (hE:C.EL w0) (hz0:∀b o,Z0 b o→b<w0.w.heap.size) {i:Nat} {o:Oper} (hi:ops[i]? = some o) (hd:∀t,o.dst=some t→w0.np≤t∧t<N∧t<BIG) {K:AS→Prop} {Q:Exit→Act→World→Prop} (h:stepGX C ops o σ K) :
  wpOp C.P ops Q i (fun a' w'=>∃σ',K σ'∧Sim C.u w0 Z0 N σ' a' w') a w:=by
 obtain ⟨b,h1,h2,h3⟩:=h
 unfold wpOp
 simp only [hi]
 have hw:Region.wanted o (yielded ops a.tmps)=b:=by
  obtain ⟨⟨Z,β,κ,S⟩,hN⟩:=S
  exact wantedA_sound ⟨⟨Z,β,κ,S⟩,hN⟩ h1
 rw [hw]
 cases b with
 | true =>
  simp only [if_true]
  rcases h2 rfl with h|h|h
  ·exact .inl (astep_sound S hE hz0 hd h)
  ·exact .inl (callL_sound S hE hz0 hd h)
  ·exact .inl (astepL_sound S hz0 hd h)
 | false =>
  simp only [Bool.false_eq_true,if_false]
  obtain ⟨⟨Z,β,κ,S⟩,hN⟩:=S
  exact ⟨_,h3 rfl,⟨Z,β,κ,S.put (hN.lt hd) rfl⟩,hN.put hd⟩
theorem wpOps_of_arunX (hE:C.EL w0) (hz0:∀b o,Z0 b o→b<w0.w.heap.size) (hd:∀(i:Nat) (o:Oper),ops[i]? = some o→∀t,o.dst=some t→w0.np≤t∧t<N∧t<BIG) {K:AS→Prop} {Q:Exit→Act→World→Prop} (hK:∀σ a w,K σ→Sim C.u w0 Z0 N σ a w→Q .normal a w) :
  ∀(l:List Nat) (σ:AS) (a:Act) (w:World),Sim C.u w0 Z0 N σ a w→arunXI C ops l σ K→wpOps C.P ops Q l a w
 | [],σ,a,w,S,h=>hK σ a w h S
 | i :: l,σ,a,w,S,h=>by
  obtain ⟨o,hi,ms,h⟩:=h
  obtain ⟨σ1,h1,S1⟩:=S.moves ms h
  rw [wpOps_cons]
  exact wpOp_mono (fun a' w' ⟨σ',g1,g2⟩=>wpOps_of_arunX hE hz0 hd hK l σ' a' w' g2 g1) (stepGX_sound S1 hE hz0 hi (hd i o hi) h1)
def regX (C:Ctx) (n:Scr) (id:Nat) (ops:Array Oper) (d:Bool) (K:AS→Prop) (σ:AS):Prop:=match d with
 | true=>awp C n (.region id ops true) (fun e σ=>match e with|.normal=>K σ|_=>False) σ
 | false=>arunX C ops ops.toList (prep n.n false ops (σ.frzB (fzAt n.fz id))) K
theorem regX_sound {n:Scr} {id:Nat} {d:Bool} (hE:C.EL w0) (hz0:∀b o,Z0 b o→b<w0.w.heap.size) {K:AS→Prop} {σ:AS} {a:Act} {w:World} (hok:codeOK N (.region id ops d)=true) (hge:dstsGe w0.np (.region id ops d)=true) (h:regX C n id ops d K σ) (S:Sim C.u w0 Z0 N σ a w) :
  (Code.region id ops d).wp C.P (fun e a' w'=>e=.normal∧∃σ',K σ'∧Sim C.u w0 Z0 N σ' a' w') a w:=by
 cases d with
 | true =>
  have h:awp C n (.region id ops true) (fun e σ=>match e with|.normal=>K σ|_=>False) σ:=h
  refine wp_mono (awp_sound hE hz0 _ _ σ a w hok hge h S) ?_
  rintro e a' w' ⟨he,σ',h1,h2⟩
  cases e with
  | normal=>exact ⟨rfl,σ',h1,h2⟩
  | _=>exact h1.elim
 | false =>
  have S1:=(S.mono (frzB_le σ (fzAt n.fz id))).mono (prep_le n.n false ops _)
  have h:arunX C ops ops.toList (prep n.n false ops (σ.frzB (fzAt n.fz id))) K:=h
  have hI:=arunXI_of ops.toList 0 _ (by simp) h
  have hr:List.range' 0 ops.toList.length=List.range ops.size:=by rw [List.range_eq_range'];simp
  rw [hr]at hI
  simp only [codeOK,Bool.false_eq_true,if_false,dstB,Bool.and_eq_true]at hok
  obtain ⟨hbig,hok⟩:=hok
  have hbig:=Nat.le_of_ble_eq_true hbig
  refine wp_region (wpOps_of_arunX (K:=K) hE hz0 (fun i o hi t ht=>⟨?_,?_⟩) (fun σ' a' w' h1 h2=>⟨rfl,σ',h1,h2⟩) _ _ a w S1 hI)
  ·have:=Array.all_eq_true_iff_forall_mem.1 hge o (Array.mem_of_getElem? hi)
   rw [ht]at this
   simpa using this
  ·have:=Array.all_eq_true_iff_forall_mem.1 hok o (Array.mem_of_getElem? hi)
   rw [ht]at this
   have this:t<N:=by simpa using this
   exact ⟨this,Nat.lt_of_lt_of_le this hbig⟩
end
end Go.Proofs.YtmegoiaijfeilaaGreatDoor
