import Derived.Test.YtcaahphghaddgaaGreatDoorDXE
/- Text XF. -/
set_option linter.unusedSimpArgs false
set_option linter.unusedVariables false
namespace Go.Proofs.YtcaahphghaddgaaGreatDoor
open Go.RowKit Lim
section
variable {R:Type} {C:Ctx} {el:TypeId→Option VT} {sig:SigM} {A A0:Ask} {h:How} {fu:Nat} {N:Nat} {w0:Base} {Z0:Zone}
theorem AS.le0.le {a b:AS} (h:AS.le0 a b):AS.le a b:=⟨fun x v q=>.inl (h.tm x v q),h.mem,h.own⟩
theorem Sim.le0 {σ τ:AS} {a:Act} {w:World} (S:Sim C.u w0 Z0 N σ a w) (hl:AS.le0 τ σ):Sim C.u w0 Z0 N τ a w:=S.mono hl.le
theorem Sim.nilV {u:Bool} {σ:AS} {a:Act} {w:World} (S:Sim u w0 Z0 N σ a w) {t:Nat} (ht:σ.tm t=some (.av nilA)) {b:AV} (hb:b=.nat []∨∃k,b=.sl k []):Sim u w0 Z0 N { σ with tm:=upd σ.tm t (some (.av b)) } a w:=by
 obtain ⟨⟨Z,β,κ,S⟩,hN⟩:=S
 refine ⟨⟨Z,β,κ,S.z0,S.z1,fun x v hx=>?_,S.mem,S.inj,S.own,S.injO,S.injM,S.al,S.below,S.defers,S.lnk⟩,hN⟩
 have hx:upd σ.tm t (some (.av b)) x=some v:=hx
 by_cases he:x=t
 ·subst he
  rw [upd_same]at hx
  cases hx
  obtain ⟨q1,q2⟩:=S.tm x _ ht
  refine ⟨q1,?_⟩
  have q2:Rep w Z nilA (a.tmps.getD x undef):=q2
  show Rep w Z b (a.tmps.getD x undef)
  rw [q2.lit_eq]
  rcases hb with rfl|⟨k,rfl⟩
  ·exact Rep.nat (l:=[]) (Rd.nil _ _) (by simp) (fun _ _ _ j hj=>by simp at hj)
  ·exact .nil
 ·rw [upd_ne _ _ he]at hx
  exact S.tm x v hx
theorem Sim.weak {E:VS} {a:Act} {w:World}:∀(l:List Nat) (s:VS),Sim C.u w0 Z0 N (era E s) a w→Sim C.u w0 Z0 N (era E (weakS l E s)) a w
 | [],s,S=>S
 | t :: l,s,S=>by
  unfold weakS
  refine Sim.weak l _ ?_
  split
  ·rename_i n h1
   split
   ·rename_i r h2
    cases hc:r.nilB && (lk E.own n).isNone with
    | false=>exact S
    | true =>
     obtain ⟨h3,h4⟩:=band_of hc
     have h4:lk E.own n=none:=by simpa using h4
     rw [cond_true]
     have hrow:rowv E s n=some r:=by unfold rowv;rw [h2]
     have ht:(era E s).tm t=some (.av nilA):=by
      show (slot E s t).bind _=_
      unfold slot
      rw [h1]
      show (rowv E s n).map (RW.tv n)=_
      rw [hrow]
      simp only [Option.map_some,RW.tv,h3,cond_true]
     have hb:r.ca.av=.nat []∨∃k,r.ca.av=.sl k []:=by
      cases r with
      | row z e k t l =>
       simp only [RW.nilB,Bool.and_eq_true]at h3
       cases l with
       | nil=>exact .inr ⟨k,rfl⟩
       | cons=>cases h3.2
      | map kt vt l=>cases h3
      | limb z e l =>
       simp only [RW.nilB,Bool.and_eq_true]at h3
       cases l with
       | nil=>exact .inl rfl
       | cons=>cases h3.2
     have hr:∀y r',rowv E ⟨(t,some (.v (.o (.c r.ca)))) :: rmv t s.tm,s.mem,rmv n s.own⟩ y=some r'→rowv E s y=some r':=fun y r' hy=>by
      unfold rowv at hy ⊢
      simp only [lk_rmv]at hy
      by_cases he:y=n
      ·subst he;rw [if_pos rfl,h4]at hy;cases hy
      ·rw [if_neg he]at hy;exact hy
     have hrn:∀y,y≠n→rowv E ⟨(t,some (.v (.o (.c r.ca)))) :: rmv t s.tm,s.mem,rmv n s.own⟩ y=rowv E s y:=fun y he=>by
      unfold rowv
      simp only [lk_rmv]
      rw [if_neg he]
     refine (S.nilV ht hb).le0 ⟨fun x v hx=>?_,fun x v hx=>hx,fun x v hx=>?_,fun x v hx hh=>?_⟩
     ·have hx:(slot E ⟨(t,some (.v (.o (.c r.ca)))) :: rmv t s.tm,s.mem,rmv n s.own⟩ x).bind (eraSV (rowv E ⟨(t,some (.v (.o (.c r.ca)))) :: rmv t s.tm,s.mem,rmv n s.own⟩))=some v:=hx
      show upd (era E s).tm t _ x=some v
      unfold slot at hx
      simp only [lk_cons,lk_rmv]at hx
      by_cases he:x=t
      ·subst he
       rw [if_pos rfl]at hx
       rw [upd_same]
       exact hx
      ·rw [if_neg he,if_neg he]at hx
       rw [upd_ne _ _ he]
       show (slot E s x).bind (eraSV (rowv E s))=some v
       obtain ⟨u,g1,g2⟩:=bind_of hx
       have:slot E s x=some u:=g1
       rw [this,Option.bind_some]
       cases u with
       | row y =>
        obtain ⟨r',g3,g4⟩:=Option.map_eq_some_iff.1 g2
        simp only [eraSV,hr y r' g3,Option.map_some,g4]
       | oref y i o =>
        obtain ⟨r',g3,g4⟩:=Option.map_eq_some_iff.1 g2
        simp only [eraSV,hr y r' g3,Option.map_some,g4]
       | _=>exact g2
     ·have hx:(rowv E ⟨(t,some (.v (.o (.c r.ca)))) :: rmv t s.tm,s.mem,rmv n s.own⟩ x).bind RW.ov=some v:=hx
      obtain ⟨r',g1,g2⟩:=bind_of hx
      show (rowv E s x).bind RW.ov=some v
      rw [hr x r' g1];exact g2
     ·have hx:(rowv E s x).bind RW.ov=some v:=hx
      show (rowv E ⟨(t,some (.v (.o (.c r.ca)))) :: rmv t s.tm,s.mem,rmv n s.own⟩ x).bind RW.ov=some v
      by_cases he:x=n
      ·subst he
       rw [hrow,Option.bind_some]at hx
       unfold RW.ov at hx
       rw [h3]at hx
       cases hx
      ·rw [hrn x he];exact hx
   ·exact S
  ·exact S
theorem backV_some {E t s:VS} {ts:List VT} {x:denL ts} (hb:backV E t s ts=some x):∃cs,rdV E t s=some cs∧ces ts x=cs:=by
 unfold backV at hb
 obtain ⟨cs,h1,h2⟩:=bind_of hb
 exact ⟨cs,h1,decs_ces h2⟩
theorem era_noLk (E s:VS):NoLk (era E s):=by
 refine ⟨fun t cs h=>?_,fun t a h=>?_⟩
 ·have h:(memv E s t).map (List.map Ce.av)=some cs:=h
  obtain ⟨c,_,rfl⟩:=Option.map_eq_some_iff.1 h
  exact memL_ces c
 ·have h:(slot E s t).bind (eraSV (rowv E s))=some (.avl a):=h
  obtain ⟨u,_,h2⟩:=bind_of h
  cases u with
  | row y =>
   obtain ⟨w,_,h3⟩:=Option.map_eq_some_iff.1 h2
   unfold RW.tv at h3
   cases hn:w.nilB with
   | true=>rw [hn]at h3;cases h3
   | false =>
    rw [hn]at h3
    cases hm:w.isMap with
    | true=>rw [hm]at h3;cases h3
    | false=>rw [hm]at h3;cases h3
  | oref y i o =>
   obtain ⟨w,_,h3⟩:=Option.map_eq_some_iff.1 h2
   cases h3
  | _=>cases h2
theorem Sim.back {E t s s2:VS} {ts:List VT} {x:denL ts} {a:Act} {w:World} (S:Sim C.u w0 Z0 N (era E s) a w) (hb:backV E t s ts=some x) (hr:refV t (ces ts x)=some s2):Sim C.u w0 Z0 N (era E s2) a w:=by
 obtain ⟨cs,h1,h2⟩:=backV_some hb
 rw [h2]at hr
 obtain ⟨ρ,hρ⟩:=rd_ren h1 hr
 exact S.ren hρ (era_noLk E s2)
set_option maxHeartbeats 1000000 in
theorem runV_sound (H:AskOK C sig A A0) (hE:C.EL w0) (hz0:∀b o,Z0 b o→b<w0.w.heap.size):∀(c:Code) (dp:Nat) (E s:VS) (K:Exit→VS→Option (Ans R)) (r:Ans R),codeOK N c=true→dstsGe w0.np c=true→(∀e s' a,K e s'=some a→a.lt dp)→runV C.T el sig A A0 h fu c dp E s K=some r→∀(a:Act) (w:World),Sim C.u w0 Z0 N (era E s) a w →
  c.wp C.P (fun e a' w'=>Exit.plainB e=true∧∃s',K e s'=some r∧Sim C.u w0 Z0 N (era E s') a' w') a w:=by
 intro c
 induction c with
 | skip=>intro dp E s K r _ _ _ hr a w S;exact wp_skip ⟨rfl,s,hr,S⟩
 | region id ops d =>
  intro dp E s K r hok hge _ hr a w S
  have:=awp_sound (n:=h.sc) hE hz0 (.region id ops d) (fun e σ=>e=.normal∧∃s',K .normal s'=some r∧AS.le0 (era E s') σ) (era E s) a w hok hge (regV_sound H (fun s' σ h1 h2=>⟨rfl,s',h1,h2⟩) hr) S
  refine wp_mono this ?_
  rintro e a' w' ⟨he,σ',⟨rfl,s',h1,h2⟩,h3⟩
  exact ⟨rfl,s',h1,h3.le0 h2⟩
 | seq x y ihx ihy =>
  intro dp E s K r hok hge hK hr a w S
  simp only [codeOK,Bool.and_eq_true]at hok
  simp only [dstsGe,Bool.and_eq_true]at hge
  unfold runV at hr
  cases hj:joins h x && (allLt h.sc.n E.tm && noKeys h.scr E.tm)with
  | true =>
   rw [hj]at hr
   simp only [cond_true]at hr
   obtain ⟨hj1,hj2⟩:=band_of hj
   obtain ⟨hj2,hj3⟩:=band_of hj2
   obtain ⟨ts,_,hr⟩:=bind_of hr
   have S1:=(S.weak h.wk s).le0 (split_le (n:=h.sc.n) (scr:=h.scr) (W:=writesC h.sc.n x ++ storesC h.lv x) (M:=storesC h.lv x) hj2 hj3)
   rcases joinA_some hr with ⟨z,h1,h2⟩|⟨h1,h2⟩
   ·obtain ⟨s1,h3,h2⟩:=bind_of h2
    refine wp_seq (wp_mono (ihx (dp+1) _ _ _ _ hok.1 hge.1 (fun e s' b hb=>?_) h1 a w S1) ?_)
    ·cases e with
     | normal=>obtain ⟨q,_,rfl⟩:=Option.map_eq_some_iff.1 hb;exact Nat.lt_succ_self dp
     | _=>exact Ans.lt_mono (Nat.le_succ dp) (hK _ _ _ hb)
    rintro e a' w' ⟨he,s',h4,h5⟩
    cases e with
    | normal =>
     obtain ⟨q,h6,h7⟩:=Option.map_eq_some_iff.1 h4
     cases h7
     have S2:=(h5.weak h.wk s').back h6 h3
     rw [←era_join]at S2
     exact ihy dp E _ K r hok.2 hge.2 hK h2 a' w' S2
    | exit id=>exact absurd (hK _ _ _ h4) (Nat.lt_irrefl dp)
    | ret=>exact absurd (hK _ _ _ h4) (Nat.lt_irrefl dp)
    | _=>cases he
   ·refine wp_seq (wp_mono (ihx (dp+1) _ _ _ _ hok.1 hge.1 (fun e s' b hb=>?_) h1 a w S1) ?_)
    ·cases e with
     | normal=>obtain ⟨q,_,rfl⟩:=Option.map_eq_some_iff.1 hb;exact Nat.lt_succ_self dp
     | _=>exact Ans.lt_mono (Nat.le_succ dp) (hK _ _ _ hb)
    rintro e a' w' ⟨he,s',h4,h5⟩
    cases e with
    | normal=>obtain ⟨q,h6,h7⟩:=Option.map_eq_some_iff.1 h4;exact absurd h7.symm (h2 _ _)
    | exit id=>exact ⟨rfl,_,h4,by rw [era_join];exact h5⟩
    | ret=>exact ⟨rfl,_,h4,by rw [era_join];exact h5⟩
    | _=>cases he
  | false =>
   rw [hj]at hr
   simp only [cond_false]at hr
   refine wp_seq (wp_mono (ihx dp E s _ r hok.1 hge.1 (fun e s' b hb=>?_) hr a w S) ?_)
   ·cases e with
    | normal=>obtain ⟨e',s2,h3⟩:=runV_ex H y _ _ _ _ _ hb;exact hK _ _ _ h3
    | _=>exact hK _ _ _ hb
   rintro e a' w' ⟨he,s',h1,h2⟩
   cases e with
   | normal=>exact ihy dp E s' K r hok.2 hge.2 hK h1 a' w' h2
   | exit id=>exact ⟨rfl,s',h1,h2⟩
   | ret=>exact ⟨rfl,s',h1,h2⟩
   | _=>cases he
 | cond c x y ihx ihy =>
  intro dp E s K r hok hge hK hr a w S
  simp only [codeOK,Bool.and_eq_true]at hok
  simp only [dstsGe,Bool.and_eq_true]at hge
  unfold runV at hr
  obtain ⟨v,hv,hr⟩:=bind_of hr
  split at hr
  ·rename_i b
   have hg:(era E s).get c=some (.av (.lit (.bool b))):=getS_sound hv
   have St:∀q:Bool,b=q→Sim C.u w0 Z0 N (era E (knownB c s q)) a w:=fun q hq=>by
    subst hq
    cases c with
    | tmp t=>exact S.le0 (put_same hv)
    | _=>exact S
   obtain ⟨⟨Z,β,κ,S1⟩,hN⟩:=S
   refine wp_cond_split (S1.lit hg) (fun ht=>?_) (fun ht=>?_)
   ·subst ht;exact ihx dp E _ K r hok.1 hge.1 hK hr a w (St true rfl)
   ·subst ht;exact ihy dp E _ K r hok.2 hge.2 hK hr a w (St false rfl)
  ·cases hr
 | block id c ih =>
  intro dp E s K r hok hge hK hr a w S
  refine wp_block (wp_mono (ih dp E s _ r hok hge (fun e s' b hb=>?_) hr a w S) ?_)
  ·cases e with
   | exit i =>
    simp only at hb
    cases hq:Nat.beq i id with
    | true=>rw [hq]at hb;exact hK _ _ _ hb
    | false=>rw [hq]at hb;exact hK _ _ _ hb
   | _=>exact hK _ _ _ hb
  rintro e a' w' ⟨he,s',h1,h2⟩
  cases e with
  | normal=>exact ⟨rfl,s',h1,h2⟩
  | exit i =>
   simp only [Exit.inBlock]
   simp only at h1
   cases hq:Nat.beq i id with
   | true =>
    rw [hq]at h1
    rw [if_pos (beq_of hq)]
    exact ⟨rfl,s',h1,h2⟩
   | false =>
    rw [hq]at h1
    rw [if_neg (fun e=>by subst e;rw [Nat.beq_refl]at hq;cases hq)]
    exact ⟨rfl,s',h1,h2⟩
  | ret=>exact ⟨rfl,s',h1,h2⟩
  | _=>cases he
 | loop c ih =>
  intro dp E s K r hok hge hK hr a w S
  unfold runV at hr
  cases hu:Nat.blt 0 h.un with
  | true =>
   rw [hu,cond_true]at hr
   have exU:∀n s b,unrA (fun s k=>runV C.T el sig A A0 h fu c dp E s fun e s'=>match e with|.normal=>k s'|e=>K e s') n s=some b→b.lt dp:=by
    intro n
    induction n with
    | zero=>intro s b hx;cases hx
    | succ n ihn =>
     intro s b hx
     obtain ⟨e,s',h3⟩:=runV_ex H c _ _ _ _ _ hx
     cases e with
     | normal=>exact ihn _ _ h3
     | _=>exact hK _ _ _ h3
   refine wp_loop_g (fun (p:Nat × VS) a w=>unrA (fun s k=>runV C.T el sig A A0 h fu c dp E s fun e s'=>match e with|.normal=>k s'|e=>K e s') p.1 p.2=some r∧Sim C.u w0 Z0 N (era E p.2) a w) (fun p=>p.1) (h.un,s) ⟨hr,S⟩ fun p a w hI=>?_
   obtain ⟨n,s⟩:=p
   obtain ⟨hx,S2⟩:=hI
   cases n with
   | zero=>cases hx
   | succ m =>
    refine wp_mono (ih dp E s _ _ hok hge (fun e s' b hb=>by
     cases e with
     | normal=>exact exU m _ _ hb
     | _=>exact hK _ _ _ hb) hx a w S2) ?_
    rintro e a' w' ⟨he,s',h4,h5⟩
    cases e with
    | normal=>exact ⟨(m,s'),⟨h4,h5⟩,Nat.lt_succ_self m⟩
    | exit id=>exact ⟨rfl,_,h4,h5⟩
    | ret=>exact ⟨rfl,_,h4,h5⟩
    | _=>cases he
  | false =>
  rw [hu,cond_false]at hr
  obtain ⟨hlt,hr⟩:=bif_of hr
  obtain ⟨hlt,hls⟩:=band_of hlt
  obtain ⟨ts,_,hr⟩:=bind_of hr
  obtain ⟨x0,h0,hr⟩:=bind_of hr
  have S1:=(S.weak h.wk s).le0 (split_le (n:=h.sc.n) (scr:=h.scr) (W:=writesC h.sc.n c ++ storesC h.lv c) (M:=storesC h.lv c) hlt hls)
  have key:∀(E' t rest:VS) (step:denL ts→Option (Ans R)) (_:E'=joinVS rest E) (_:∀x,step x=(refV t (ces ts x)).bind fun s1=>runV C.T el sig A A0 h fu c (dp+1) E' s1 fun e s'=>match e with
     | .normal=>(backV E' t (weakS h.wk E' s') ts).map fun x=>.cont dp ts x
     | e=>K e (joinVS s' rest)) (_:Sim C.u w0 Z0 N (era E' t) a w) (_:backV E' t t ts=some x0) (_:loopA dp ts step fu x0=some r),(Code.loop c).wp C.P (fun e a' w'=>Exit.plainB e=true∧∃s',K e s'=some r∧Sim C.u w0 Z0 N (era E s') a' w') a w:=by
   intro E' t rest step hE' hstep S1 h0 hr
   have ex:∀n x,loopA dp ts step n x=some r→∃m s1,n=m+1∧refV t (ces ts x)=some s1:=fun n x hx=>by
    cases n with
    | zero=>cases hx
    | succ m =>
     rcases loopA_some hx with ⟨y,h1,_⟩|⟨h1,_⟩
     ·rw [hstep]at h1;obtain ⟨s1,h2,_⟩:=bind_of h1;exact ⟨m,s1,rfl,h2⟩
     ·rw [hstep]at h1;obtain ⟨s1,h2,_⟩:=bind_of h1;exact ⟨m,s1,rfl,h2⟩
   obtain ⟨_,s0,_,hs0⟩:=ex _ _ hr
   refine wp_loop_g (fun (p:Nat × denL ts) a w=>loopA dp ts step p.1 p.2=some r∧∃s1,refV t (ces ts p.2)=some s1∧Sim C.u w0 Z0 N (era E' s1) a w) (fun p=>p.1) (fu,x0) ⟨hr,s0,hs0,S1.back h0 hs0⟩ fun p a w hI=>?_
   obtain ⟨n,x⟩:=p
   obtain ⟨hx,s1,hs1,S2⟩:=hI
   obtain ⟨m,_,rfl,_⟩:=ex n x hx
   have kl:∀(e:Exit) (s':VS) (b:Ans R),(match e with|.normal=>(backV E' t (weakS h.wk E' s') ts).map fun x=>Ans.cont dp ts x|e=>K e (joinVS s' rest))=some b→b.lt (dp+1):=fun e s' b hb=>by
    cases e with
    | normal=>obtain ⟨q,_,rfl⟩:=Option.map_eq_some_iff.1 hb;exact Nat.lt_succ_self dp
    | _=>exact Ans.lt_mono (Nat.le_succ dp) (hK _ _ _ hb)
   rcases loopA_some hx with ⟨y,h1,h2⟩|⟨h1,h2⟩
   ·rw [hstep,hs1]at h1
    refine wp_mono (ih (dp+1) E' s1 _ _ hok hge kl h1 a w S2) ?_
    rintro e a' w' ⟨he,s',h4,h5⟩
    cases e with
    | normal =>
     obtain ⟨q,h6,h7⟩:=Option.map_eq_some_iff.1 h4
     cases h7
     obtain ⟨_,s2,_,hs2⟩:=ex _ _ h2
     exact ⟨(m,_),⟨h2,s2,hs2,(h5.weak h.wk s').back h6 hs2⟩,Nat.lt_succ_self m⟩
    | exit id=>exact absurd (hK _ _ _ h4) (Nat.lt_irrefl dp)
    | ret=>exact absurd (hK _ _ _ h4) (Nat.lt_irrefl dp)
    | _=>cases he
   ·rw [hstep,hs1]at h1
    refine wp_mono (ih (dp+1) E' s1 _ _ hok hge kl h1 a w S2) ?_
    rintro e a' w' ⟨he,s',h4,h5⟩
    cases e with
    | normal=>obtain ⟨q,h6,h7⟩:=Option.map_eq_some_iff.1 h4;exact absurd h7.symm (h2 _ _)
    | exit id=>exact ⟨rfl,_,h4,by rw [era_join,←hE'];exact h5⟩
    | ret=>exact ⟨rfl,_,h4,by rw [era_join,←hE'];exact h5⟩
    | _=>cases he
  exact key _ _ _ _ rfl (fun x=>rfl) S1 h0 hr
 | exit id=>intro dp E s K r _ _ _ hr a w S;exact wp_exit ⟨rfl,s,hr,S⟩
 | ret=>intro dp E s K r _ _ _ hr a w S;exact wp_ret ⟨rfl,s,hr,S⟩
 | label l=>intro dp E s K r _ _ _ hr a w S;exact wp_label ⟨rfl,s,hr,S⟩
 | _=>intro dp E s K r hok;simp [codeOK]at hok
end
end Go.Proofs.YtcaahphghaddgaaGreatDoor
