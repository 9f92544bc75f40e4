import Derived.Test.YtcaahphghaddgaaGreatDoorF1
import Derived.Laws.StructEq
import Derived.WideLaws
import Derived.Lib.Split
import Derived.Lib.SplitLaws
/- Texts merged: KI KF KG KQ KT KP KH Qd Qf. -/
set_option linter.unusedSimpArgs false
set_option linter.unusedVariables false
namespace Go.Proofs.YtcaahphghaddgaaGreatDoor
open Go.RowKit Lim
noncomputable section
def eqVal:Value→Value→Bool
 | .int k m,.int k' n=>decide (k=k') && decide (m=n)
 | .bool a,.bool b=>a == b
 | .string s,.string t=>s.data.toList == t.data.toList
 | .slice none 0 0,.slice none 0 0=>true
 | .nilIface,.nilIface=>true
 | .nilFunc,.nilFunc=>true
 | .pointer none,.pointer none=>true
 | .map none,.map none=>true
 | _,_=>false
theorem eqVal_eq {a b:Value} (h:eqVal a b=true):a=b:=by
 unfold eqVal at h
 split at h <;> first
  | rfl
  | (cases h;done)
  | (obtain ⟨h1,h2⟩:=kand h;rw [of_decide_eq_true h1,of_decide_eq_true h2])
  | (rw [eq_of_beq h])
  | skip
 rename_i s t
 have h:=eq_of_beq h
 have:s.data=t.data:=Array.toList_inj.1 h
 cases s
 cases t
 simp only at this
 rw [this]
def allEq {α:Type} (f:α→α→Bool):List α→List α→Bool
 | [],[]=>true
 | x :: l,y :: m=>f x y && allEq f l m
 | _,_=>false
theorem allEq_eq {α:Type} {f:α→α→Bool} (hf:∀x y,f x y=true→x=y):∀{l m:List α},allEq f l m=true→l=m
 | [],[],_=>rfl
 | x :: l,y :: m,h=>by
  obtain ⟨h1,h2⟩:=kand h
  rw [hf x y h1,allEq_eq hf h2]
 | [],_ :: _,h=>by cases h
 | _ :: _,[],h=>by cases h
def eqAV:Nat→AV→AV→Bool
 | 0,_,_=>false
 | _,.lit a,.lit b=>eqVal a b
 | _,.nat l,.nat m=>allEq Nat.beq l m
 | n+1,.sl k l,.sl k' m=>Nat.beq k k' && allEq (eqAV n) l m
 | n+1,.agg l,.agg m=>allEq (eqAV n) l m
 | n+1,.tup l,.tup m=>allEq (eqAV n) l m
 | n+1,.ptr l,.ptr m=>allEq (eqAV n) l m
 | n+1,.ifc t a,.ifc t' b=>Nat.beq t t' && eqAV n a b
 | n+1,.fn (.func f) l l',.fn (.func g) m m'=>Nat.beq f g && (allEq (eqAV n) l m && allEq (eqAV n) l' m')
 | _,.lnk a b,.lnk a' b'=>Nat.beq a a' && Nat.beq b b'
 | _,_,_=>false
theorem eqAV_eq:∀(n:Nat) {a b:AV},eqAV n a b=true→a=b
 | 0,a,b,h=>by cases h
 | n+1,a,b,h=>by
  have ih:∀x y,eqAV n x y=true→x=y:=fun x y=>eqAV_eq n
  unfold eqAV at h
  split at h
  ·rename_i heq;cases heq
  ·rw [eqVal_eq h]
  ·rw [allEq_eq (fun _ _=>kbeq) h]
  ·rename_i heq;cases heq
   obtain ⟨h1,h2⟩:=kand h
   rw [kbeq h1,allEq_eq ih h2]
  ·rename_i heq;cases heq;rw [allEq_eq ih h]
  ·rename_i heq;cases heq;rw [allEq_eq ih h]
  ·rename_i heq;cases heq;rw [allEq_eq ih h]
  ·rename_i heq;cases heq
   obtain ⟨h1,h2⟩:=kand h
   rw [kbeq h1,ih _ _ h2]
  ·rename_i heq;cases heq
   obtain ⟨h1,h2⟩:=kand h
   obtain ⟨h2,h3⟩:=kand h2
   rw [kbeq h1,allEq_eq ih h2,allEq_eq ih h3]
  ·obtain ⟨h1,h2⟩:=kand h
   rw [kbeq h1,kbeq h2]
  ·cases h
def eqTV:TV→TV→Bool
 | .av a,.av b=>eqAV 40 a b
 | .avl a,.avl b=>eqAV 40 a b
 | .ref t o,.ref t' o'=>Nat.beq t t' && Nat.beq o o'
 | .osl t k o l,.osl t' k' o' l'=>Nat.beq t t' && (Nat.beq k k' && (Nat.beq o o' && Nat.beq l l'))
 | .oref t k o l,.oref t' k' o' l'=>Nat.beq t t' && (Nat.beq k k' && (Nat.beq o o' && Nat.beq l l'))
 | .omap t,.omap t'=>Nat.beq t t'
 | .skip,.skip=>true
 | _,_=>false
theorem eqTV_eq {a b:TV} (h:eqTV a b=true):a=b:=by
 unfold eqTV at h
 split at h
 ·rw [eqAV_eq _ h]
 ·rw [eqAV_eq _ h]
 ·obtain ⟨h1,h2⟩:=kand h;rw [kbeq h1,kbeq h2]
 ·obtain ⟨h1,h2⟩:=kand h;obtain ⟨h2,h3⟩:=kand h2;obtain ⟨h3,h4⟩:=kand h3;rw [kbeq h1,kbeq h2,kbeq h3,kbeq h4]
 ·obtain ⟨h1,h2⟩:=kand h;obtain ⟨h2,h3⟩:=kand h2;obtain ⟨h3,h4⟩:=kand h3;rw [kbeq h1,kbeq h2,kbeq h3,kbeq h4]
 ·rw [kbeq h]
 ·rfl
 ·cases h
def eqOV:OV→OV→Bool
 | .row e k l,.row e' k' m=>Nat.beq e e' && (Nat.beq k k' && allEq (eqAV 40) l m)
 | .limb e l,.limb e' m=>Nat.beq e e' && allEq Nat.beq l m
 | .map kd l,.map kd' m=>lookQ.kdEq kd kd' && allEq (fun p q=>eqVal p.1 q.1 && eqAV 40 p.2 q.2) l m
 | _,_=>false
theorem eqOV_eq {a b:OV} (h:eqOV a b=true):a=b:=by
 unfold eqOV at h
 split at h
 ·obtain ⟨h1,h2⟩:=kand h;obtain ⟨h2,h3⟩:=kand h2;rw [kbeq h1,kbeq h2,allEq_eq (fun _ _=>eqAV_eq 40) h3]
 ·obtain ⟨h1,h2⟩:=kand h;rw [kbeq h1,allEq_eq (fun _ _=>kbeq) h2]
 ·obtain ⟨h1,h2⟩:=kand h
  rw [kdEq_some h1,allEq_eq (fun p q hq=>by
   obtain ⟨q1,q2⟩:=kand hq
   obtain ⟨a,b⟩:=p
   obtain ⟨c,d⟩:=q
   rw [show a=c from eqVal_eq q1,show b=d from eqAV_eq 40 q2]) h2]
 ·cases h
def subK {α:Type} (f:α→α→Bool) (m:List (Nat × Option α)):List (Nat × Option α)→Bool
 | []=>true
 | (k,some v) :: l=>(match lkO m k with|some u=>f v u|none=>false) && subK f m l
 | (_,none) :: l=>subK f m l
theorem subK_ok {α:Type} {f:α→α→Bool} (hf:∀x y,f x y=true→x=y) {m:List (Nat × Option α)}:∀{l:List (Nat × Option α)} {x:Nat} {v:α},subK f m l=true→lkO l x=some v→lkO m x=some v
 | [],x,v,_,h=>by cases h
 | (k,none) :: l,x,v,hs,h=>by
  rw [lkO_cons]at h
  split at h
  ·cases h
  ·exact subK_ok hf (l:=l) hs h
 | (k,some u) :: l,x,v,hs,h=>by
  obtain ⟨h1,h2⟩:=kand hs
  rw [lkO_cons]at h
  split at h
  ·rename_i he
   cases h
   rw [he]
   split at h1
   ·rename_i u' hu
    rw [hu,hf _ _ h1]
   ·cases h1
  ·exact subK_ok hf h2 h
def leK (s t:KS):Bool:=subK eqTV t.tm s.tm && (subK (allEq (eqAV 40)) t.mem s.mem && subK eqOV t.own s.own)
theorem leK_ok {s t:KS} (h:leK s t=true):AS.le s.st t.st:=by
 obtain ⟨h1,h2⟩:=kand h
 obtain ⟨h2,h3⟩:=kand h2
 exact ⟨fun x v hx=>.inl (subK_ok (fun _ _=>eqTV_eq) h1 hx),fun t cs ht=>subK_ok (fun _ _=>allEq_eq fun _ _=>eqAV_eq 40) h2 ht,fun t ov ht=>subK_ok (fun _ _=>eqOV_eq) h3 ht⟩
def readyQ (ops:Array Oper) (m i:Nat):Bool:=match ops[i]? with
 | some o=>!m.testBit i && o.after.toList.all (fun e=>!Region.binds .any e || m.testBit e.on)
 | none=>false
def hasReady (ops:Array Oper) (m:Nat):Bool:=(List.range ops.size).any (readyQ ops m)
def findK (m:Nat):List (Nat × KS)→Option KS
 | []=>none
 | p :: l=>bif Nat.beq p.1 m then some p.2 else findK m l
def expand1 (W:Asks) (ops:Array Oper) (m:Nat) (s:KS):List Nat→List (Nat × KS)→Option (List (Nat × KS))
 | [],next=>some next
 | i :: is,next=>bif readyQ ops m i then (ops[i]?).bind fun o=>(oneX W ops o s).bind fun t=>fKSs t fun t=>match findK (m ||| 2 ^ i) next with
  | some u=>bif leK u t then expand1 W ops m s is next else none
  | none=>fN (m ||| 2 ^ i) fun m'=>expand1 W ops m s is ((m',t) :: next) else expand1 W ops m s is next
def expandL (W:Asks) (ops:Array Oper):List (Nat × KS)→List (Nat × KS)→Option (List (Nat × KS))
 | [],next=>some next
 | p :: l,next=>(expand1 W ops p.1 p.2 (List.range ops.size) next).bind fun next=>expandL W ops l next
def levelsQ (W:Asks) (ops:Array Oper):Nat→List (Nat × KS)→Option KS
 | n,level=>bif level.all (fun p=>!hasReady ops p.1) then (match level with|[p]=>some p.2|_=>none) else match n with
  | 0=>none
  | n+1=>bif level.all (fun p=>hasReady ops p.1) then (expandL W ops level []).bind fun next=>levelsQ W ops n next else none
section
variable {C:Ctx} {W:Asks} {ops:Array Oper} {N:Nat} {w0:Base} {Z0:Zone}
theorem findK_mem:∀{l:List (Nat × KS)} {m:Nat} {s:KS},findK m l=some s→(m,s)∈l
 | p :: l,m,s,h=>by
  unfold findK at h
  cases hb:Nat.beq p.1 m with
  | true=>rw [hb]at h;cases h;rw [←kbeq hb];exact List.mem_cons_self
  | false=>rw [hb]at h;exact List.mem_cons_of_mem _ (findK_mem h)
theorem expand1_ok {m:Nat} {s:KS}:∀(is:List Nat) {next next':List (Nat × KS)},expand1 W ops m s is next=some next'→(∀p∈next,p∈next')∧∀i∈is,readyQ ops m i=true→∃o t u,ops[i]? = some o∧oneX W ops o s=some t∧(m ||| 2 ^ i,u)∈next'∧AS.le u.st t.st
 | [],next,next',h=>by cases h;exact ⟨fun _ hp=>hp,fun i hi=>by cases hi⟩
 | i :: is,next,next',h=>by
  unfold expand1 at h
  cases hr:readyQ ops m i with
  | false =>
   rw [hr]at h
   obtain ⟨h1,h2⟩:=expand1_ok is h
   refine ⟨h1,fun j hj hrj=>?_⟩
   rcases List.mem_cons.1 hj with rfl|hj
   ·rw [hr]at hrj;cases hrj
   ·exact h2 j hj hrj
  | true =>
   rw [hr]at h
   obtain ⟨o,h1,h⟩:=kbind h
   obtain ⟨t,h2,h⟩:=kbind h
   rw [fKSs_eq]at h
   split at h
   ·rename_i u hu
    obtain ⟨h3,h⟩:=kif h
    obtain ⟨h4,h5⟩:=expand1_ok is h
    refine ⟨h4,fun j hj hrj=>?_⟩
    rcases List.mem_cons.1 hj with rfl|hj
    ·exact ⟨o,t,u,h1,h2,h4 _ (findK_mem hu),leK_ok h3⟩
    ·exact h5 j hj hrj
   ·rw [fN_eq]at h
    obtain ⟨h4,h5⟩:=expand1_ok is h
    refine ⟨fun p hp=>h4 p (List.mem_cons_of_mem _ hp),fun j hj hrj=>?_⟩
    rcases List.mem_cons.1 hj with rfl|hj
    ·exact ⟨o,t,t,h1,h2,h4 _ List.mem_cons_self,⟨fun _ _ h=>.inl h,fun _ _ h=>h,fun _ _ h=>h⟩⟩
    ·exact h5 j hj hrj
theorem expandL_ok:∀(l:List (Nat × KS)) {next next':List (Nat × KS)},expandL W ops l next=some next'→(∀p∈next,p∈next')∧∀p∈l,∀i,i<ops.size→readyQ ops p.1 i=true→∃o t u,ops[i]? = some o∧oneX W ops o p.2=some t∧(p.1 ||| 2 ^ i,u)∈next'∧AS.le u.st t.st
 | [],next,next',h=>by cases h;exact ⟨fun _ hp=>hp,fun p hp=>by cases hp⟩
 | q :: l,next,next',h=>by
  obtain ⟨n1,h1,h⟩:=kbind h
  obtain ⟨a1,a2⟩:=expand1_ok _ h1
  obtain ⟨b1,b2⟩:=expandL_ok l h
  refine ⟨fun p hp=>b1 p (a1 p hp),fun p hp i hi hr=>?_⟩
  rcases List.mem_cons.1 hp with rfl|hp
  ·obtain ⟨o,t,u,c1,c2,c3,c4⟩:=a2 i (List.mem_range.2 hi) hr
   exact ⟨o,t,u,c1,c2,b1 _ c3,c4⟩
  ·exact b2 p hp i hi hr
theorem ready_iff {listed:Array Bool} {m:Nat} (hs:listed.size=ops.size) (hm:∀j,listed.getD j false=m.testBit j) (i:Nat):i∈Region.ready .any ops listed ↔ readyQ ops m i=true:=by
 have hd:∀j,j<ops.size→listed.getD j true=m.testBit j:=fun j hj=>by
  rw [←hm j]
  have:j<listed.size:=by omega
  simp [this]
 rw [mem_ready]
 unfold readyQ
 constructor
 ·rintro ⟨h1,o,h2,h3⟩
  rw [h2]
  have hi:i<ops.size:=(Array.getElem?_eq_some_iff.1 h2).1
  rw [hd i hi]at h1
  simp only [h1,Bool.not_false,Bool.true_and,List.all_eq_true,Bool.or_eq_true,Bool.not_eq_true']
  intro e he
  cases hb:Region.binds .any e with
  | false=>exact .inl rfl
  | true=>right;rw [←hm];exact h3 e (by simpa using he) hb
 ·intro h
  cases ho:ops[i]? with
  | none=>rw [ho]at h;cases h
  | some o =>
   rw [ho]at h
   simp only [Bool.and_eq_true,Bool.not_eq_true',List.all_eq_true,Bool.or_eq_true]at h
   have hi:i<ops.size:=(Array.getElem?_eq_some_iff.1 ho).1
   refine ⟨by rw [hd i hi];exact h.1,o,rfl,fun e he hb=>?_⟩
   rcases h.2 e (by simpa using he)with h1|h1
   ·rw [hb]at h1;cases h1
   ·rw [hm];exact h1
theorem wpAny_of_levels (H:AsksOK C W) (hE:C.EL w0) (hz0:∀b o,Z0 b o→b<w0.w.heap.size) (hd:∀(i:Nat) (o:Oper),ops[i]? = some o→∀t,o.dst=some t→w0.np≤t∧t<N∧t<BIG) {sF:KS} {Q:Exit→Act→World→Prop} (hK:∀a w,Sim C.u w0 Z0 N sF.st a w→Q .normal a w) :
  ∀(fuel:Nat) (level:List (Nat × KS)),levelsQ W ops fuel level=some sF→∀p∈level,∀(listed:Array Bool) (a:Act) (w:World),listed.size=ops.size→(∀j,listed.getD j false=p.1.testBit j)→Sim C.u w0 Z0 N p.2.st a w→wpAny C.P .any ops Q fuel listed a w:=by
 have fin:∀(level:List (Nat × KS)),(match level with|[p]=>some p.2|_=>none)=some sF→∀p∈level,p.2=sF:=fun level h p hp=>by
  split at h
  ·cases h
   rw [List.mem_singleton.1 hp]
  ·cases h
 have none_ready:∀(level:List (Nat × KS)),level.all (fun p=>!hasReady ops p.1)=true→∀p∈level,∀(listed:Array Bool),listed.size=ops.size→(∀j,listed.getD j false=p.1.testBit j)→Region.ready .any ops listed=[]:=fun level h p hp listed hs hm=>by
  have h1:=List.all_eq_true.1 h p hp
  simp only [hasReady,Bool.not_eq_true',List.any_eq_false,List.mem_range]at h1
  apply List.eq_nil_iff_forall_not_mem.2
  intro i hi
  have hr:=(ready_iff hs hm i).1 hi
  obtain ⟨_,o,ho,_⟩:=mem_ready.1 hi
  exact h1 i (Array.getElem?_eq_some_iff.1 ho).1 hr
 intro fuel
 induction fuel with
 | zero =>
  intro level h p hp listed a w hs hm S
  unfold levelsQ at h
  cases hc:level.all (fun p=>!hasReady ops p.1)with
  | true =>
   rw [hc]at h
   have hr:=none_ready level hc p hp listed hs hm
   exact ⟨hr,hK a w (by rw [←fin level h p hp];exact S)⟩
  | false=>rw [hc]at h;cases h
 | succ n ih =>
  intro level h p hp listed a w hs hm S
  unfold levelsQ at h
  cases hc:level.all (fun p=>!hasReady ops p.1)with
  | true =>
   rw [hc]at h
   have hr:=none_ready level hc p hp listed hs hm
   exact ⟨fun _=>hK a w (by rw [←fin level h p hp];exact S),fun i hi=>by rw [hr]at hi;cases hi⟩
  | false =>
   rw [hc]at h
   simp only [cond_false]at h
   obtain ⟨h1,h⟩:=kif h
   obtain ⟨next,h2,h⟩:=kbind h
   refine ⟨fun hr=>?_,fun i hi=>?_⟩
   ·have h3:=List.all_eq_true.1 h1 p hp
    simp only [hasReady,List.any_eq_true,List.mem_range]at h3
    obtain ⟨i,_,h4⟩:=h3
    have:=(ready_iff hs hm i).2 h4
    rw [hr]at this
    cases this
   ·have hr:=(ready_iff hs hm i).1 hi
    obtain ⟨_,oi,hoi,_⟩:=mem_ready.1 hi
    have hil:i<ops.size:=(Array.getElem?_eq_some_iff.1 hoi).1
    obtain ⟨o,t,u,g1,g2,g3,g4⟩:=(expandL_ok level h2).2 p hp i hil hr
    rw [hoi]at g1
    cases g1
    obtain ⟨ms,hmv⟩:=oneX_sound (K:=fun σ=>σ=t.st) H g2 rfl
    obtain ⟨σ1,h5,S1⟩:=S.moves ms hmv
    refine wpOp_mono (fun a' w' ⟨σ',e1,S2⟩=>?_) (stepGX_sound S1 hE hz0 hoi (hd i oi hoi) h5)
    subst e1
    refine ih next h _ g3 (listed.setIfInBounds i true) a' w' (by simpa using hs) (fun j=>?_) (S2.mono g4)
    rw [Nat.testBit_or,Nat.testBit_two_pow]
    by_cases e:i=j
    ·subst e
     have:i<listed.size:=by omega
     simp [this]
    ·rw [getD_set_ne false e,hm j]
     simp [e]
end
end
end Go.Proofs.YtcaahphghaddgaaGreatDoor
set_option linter.unusedSimpArgs false
set_option linter.unusedVariables false
namespace Go.Proofs.YtcaahphghaddgaaGreatDoor
open Go.RowKit Lim
noncomputable section
structure KHow where
 n:Nat
 ex:List Nat
def codeX (ex:List Nat) (N:Nat):Code→Bool
 | .skip=>true
 | .region id ops d=>match d with
  | true=>bif memQ id ex then dstB ops N else fineB ops N
  | false=>dstB ops N
 | .seq a b=>codeX ex N a && codeX ex N b
 | .cond _ a b=>codeX ex N a && codeX ex N b
 | .block _ c=>codeX ex N c
 | .loop c=>codeX ex N c
 | .exit _=>true
 | .ret=>true
 | .label _=>true
 | _=>false
def regQ (W:Asks) (h:KHow) (id:Nat) (ops:Array Oper) (d:Bool) (s:KS):Option KS:=match d with
 | false=>fKSs (s.prep h.n false (badOf false ops.toList)) fun s=>runX W ops ops.toList s
 | true=>bif memQ id h.ex then fKSs (s.prep h.n false (badOf false ops.toList)) (fun s=>levelsQ W ops ops.size [(0,s)]) else fKSs (s.prep h.n true (badOf true ops.toList)) fun s=>runD W ops ops.toList s
def loopQ (f:KS→Option (Exit × KS)) (n:Nat):KS→Option (Exit × KS) :=
 Nat.rec (motive:=fun _=>KS→Option (Exit × KS)) (fun _=>none) (fun _ ih s=>(f s).bind fun p=>match p.1 with
  | .normal=>ih p.2
  | e=>some (e,p.2)) n
def runQ (W:Asks) (h:KHow) (fu:Nat):Code→KS→Option (Exit × KS)
 | .skip,s=>some (.normal,s)
 | .region id ops d,s=>(regQ W h id ops d s).map fun s=>(.normal,s)
 | .seq a b,s=>(runQ W h fu a s).bind fun p=>match p.1 with
  | .normal=>runQ W h fu b p.2
  | e=>some (e,p.2)
 | .cond c a b,s=>(boolQ (s.st.get c)).bind fun t=>match t with
  | true=>runQ W h fu a s
  | false=>runQ W h fu b s
 | .block id c,s=>(runQ W h fu c s).map fun p=>match p.1 with
  | .exit i=>bif Nat.beq i id then (.normal,p.2) else (.exit i,p.2)
  | e=>(e,p.2)
 | .loop c,s=>loopQ (runQ W h fu c) fu s
 | .exit id,s=>some (.exit id,s)
 | .ret,s=>some (.ret,s)
 | .label _,s=>some (.normal,s)
 | _,_=>none
section
variable {C:Ctx} {W:Asks} {N:Nat} {w0:Base} {Z0:Zone} {h:KHow} {fu:Nat}
theorem regQ_sound (H:AsksOK C W) (hE:C.EL w0) (hz0:∀b o,Z0 b o→b<w0.w.heap.size) {id:Nat} {ops:Array Oper} {d:Bool} {s s':KS} (hok:codeX h.ex N (.region id ops d)=true) (hge:dstsGe w0.np (.region id ops d)=true) (hr:regQ W h id ops d s=some s') {a:Act} {w:World} (S:Sim C.u w0 Z0 N s.st a w) :
  (Code.region id ops d).wp C.P (fun e a' w'=>e=.normal∧Sim C.u w0 Z0 N s'.st a' w') a w:=by
 cases d with
 | false =>
  unfold regQ at hr
  dsimp only at hr
  rw [fKSs_eq]at hr
  have hx:regX C ⟨h.n,[],[]⟩ id ops false (fun σ=>σ=s'.st) s.st:=by
   show arunX C ops ops.toList (prep h.n false ops (s.st.frzB [])) _
   rw [frzB_nil,←prep_st]
   exact runX_sound H _ hr rfl
  refine wp_mono (regX_sound hE hz0 hok hge hx S) ?_
  rintro e a' w' ⟨rfl,σ',rfl,h2⟩
  exact ⟨rfl,h2⟩
 | true =>
  unfold regQ at hr
  unfold codeX at hok
  dsimp only at hr hok
  cases hm:memQ id h.ex with
  | true =>
   rw [hm]at hr hok
   simp only [cond_true]at hr hok
   rw [fKSs_eq]at hr
   simp only [dstB,Bool.and_eq_true]at hok
   obtain ⟨hbig,hok⟩:=hok
   have hbig:=Nat.le_of_ble_eq_true hbig
   have S1:=S.mono (prep_le h.n false ops s.st)
   rw [←prep_st]at S1
   refine wp_region_any C.hm (wpAny_of_levels (sF:=s') H hE hz0 (fun i o hi t ht=>⟨?_,?_⟩) (fun a w S=>⟨rfl,S⟩) _ _ hr _ (List.mem_singleton.2 rfl) _ _ _ (by simp) (fun j=>by
    rw [Nat.zero_testBit]
    simp only [Array.getD_eq_getD_getElem?,Array.getElem?_replicate]
    split <;> rfl) S1.drew)
   ·have:=Array.all_eq_true_iff_forall_mem.1 hge o (Array.mem_of_getElem? hi)
    rw [ht]at this
    simpa using this
   ·have:=Array.all_eq_true_iff_forall_mem.1 hok o (Array.mem_of_getElem? hi)
    rw [ht]at this
    have this:t<N:=by simpa using this
    exact ⟨this,Nat.lt_of_lt_of_le this hbig⟩
  | false =>
   rw [hm]at hr hok
   simp only [cond_false]at hr hok
   rw [fKSs_eq]at hr
   have hx:awp C ⟨h.n,[],[]⟩ (.region id ops true) (fun e σ=>e=.normal∧σ=s'.st) s.st:=by
    show arun C true ops ops.toList (prep h.n true ops (s.st.frzB [])) _
    rw [frzB_nil,←prep_st]
    exact runD_sound H _ hr ⟨rfl,rfl⟩
   refine wp_mono (awp_sound hE hz0 _ _ _ a w hok hge hx S) ?_
   rintro e a' w' ⟨_,σ',⟨rfl,rfl⟩,h2⟩
   exact ⟨rfl,h2⟩
theorem runQ_sound (H:AsksOK C W) (hE:C.EL w0) (hz0:∀b o,Z0 b o→b<w0.w.heap.size):∀(c:Code) {s:KS} {p:Exit × KS},codeX h.ex N c=true→dstsGe w0.np c=true→runQ W h fu c s=some p→∀(a:Act) (w:World),Sim C.u w0 Z0 N s.st a w →
  c.wp C.P (fun e a' w'=>Exit.plainB e=true∧e=p.1∧Sim C.u w0 Z0 N p.2.st a' w') a w:=by
 intro c
 induction c with
 | skip=>intro s p _ _ hr a w S;cases hr;exact wp_skip ⟨rfl,rfl,S⟩
 | region id ops d =>
  intro s p hok hge hr a w S
  obtain ⟨s',h1,rfl⟩:=Option.map_eq_some_iff.1 hr
  refine wp_mono (regQ_sound H hE hz0 hok hge h1 S) ?_
  rintro e a' w' ⟨rfl,h2⟩
  exact ⟨rfl,rfl,h2⟩
 | seq x y ihx ihy =>
  intro s p hok hge hr a w S
  simp only [codeX,Bool.and_eq_true]at hok
  simp only [dstsGe,Bool.and_eq_true]at hge
  obtain ⟨⟨e1,s1⟩,h1,h2⟩:=kbind hr
  refine wp_seq (wp_mono (ihx hok.1 hge.1 h1 a w S) ?_)
  rintro e a' w' ⟨he,rfl,h3⟩
  cases e with
  | normal=>exact ihy hok.2 hge.2 h2 a' w' h3
  | exit id=>cases h2;exact ⟨rfl,rfl,h3⟩
  | ret=>cases h2;exact ⟨rfl,rfl,h3⟩
  | _=>cases he
 | cond c x y ihx ihy =>
  intro s p hok hge hr a w S
  simp only [codeX,Bool.and_eq_true]at hok
  simp only [dstsGe,Bool.and_eq_true]at hge
  obtain ⟨t,h1,h2⟩:=kbind hr
  have hg:=boolQ_some h1
  obtain ⟨⟨Z,β,κ,S1⟩,hN⟩:=S
  refine wp_cond_split (S1.lit hg) (fun ht=>?_) (fun ht=>?_)
  ·subst ht;exact ihx hok.1 hge.1 h2 a w ⟨⟨Z,β,κ,S1⟩,hN⟩
  ·subst ht;exact ihy hok.2 hge.2 h2 a w ⟨⟨Z,β,κ,S1⟩,hN⟩
 | block id c ih =>
  intro s p hok hge hr a w S
  obtain ⟨⟨e1,s1⟩,h1,rfl⟩:=Option.map_eq_some_iff.1 hr
  refine wp_block (wp_mono (ih hok hge h1 a w S) ?_)
  rintro e a' w' ⟨he,rfl,h3⟩
  cases e with
  | normal=>exact ⟨rfl,rfl,h3⟩
  | exit i =>
   simp only [Exit.inBlock]
   cases hq:Nat.beq i id with
   | true =>
    rw [if_pos (kbeq hq)]
    exact ⟨rfl,by simp only [hq,cond_true],by simp only [hq,cond_true];exact h3⟩
   | false =>
    rw [if_neg (fun e=>by subst e;rw [Nat.beq_refl]at hq;cases hq)]
    exact ⟨rfl,by simp only [hq,cond_false],by simp only [hq,cond_false];exact h3⟩
  | ret=>exact ⟨rfl,rfl,h3⟩
  | _=>cases he
 | loop c ih =>
  intro s p hok hge hr a w S
  refine wp_loop_g (fun (q:Nat × KS) a w=>loopQ (runQ W h fu c) q.1 q.2=some p∧Sim C.u w0 Z0 N q.2.st a w) (fun q=>q.1) (fu,s) ⟨hr,S⟩ fun q a w hI=>?_
  obtain ⟨n,s⟩:=q
  obtain ⟨h1,S⟩:=hI
  cases n with
  | zero=>cases h1
  | succ n =>
   obtain ⟨⟨e1,s1⟩,h2,h3⟩:=kbind h1
   refine wp_mono (ih hok hge h2 a w S) ?_
   rintro e a' w' ⟨he,rfl,h4⟩
   cases e with
   | normal=>exact ⟨(n,s1),⟨h3,h4⟩,Nat.lt_succ_self n⟩
   | exit id=>cases h3;exact ⟨rfl,rfl,h4⟩
   | ret=>cases h3;exact ⟨rfl,rfl,h4⟩
   | _=>cases he
 | exit id=>intro s p _ _ hr a w S;cases hr;exact wp_exit ⟨rfl,rfl,S⟩
 | ret=>intro s p _ _ hr a w S;cases hr;exact wp_ret ⟨rfl,rfl,S⟩
 | label l=>intro s p _ _ hr a w S;cases hr;exact wp_label ⟨rfl,rfl,S⟩
 | _=>intro s p hok;simp [codeX]at hok
end
def startK:Nat→List AV→List (Nat × Option TV)
 | _,[]=>[]
 | k,a :: l=>(k,some (.av a)) :: startK (k+1) l
theorem startK_st (args:List AV):(KS.mk (startK 0 args) [] [] 0 0).st=start args:=by
 have key:∀(args:List AV) (k x:Nat),lkO (startK k args) x=ofT (startL k args) x:=by
  intro args
  induction args with
  | nil=>intro k x;rfl
  | cons a l ih =>
   intro k x
   show lkO ((k,some (.av a)) :: startK (k+1) l) x=_
   rw [lkO_cons,ih]
   rfl
 exact AS.ext3 (fun x=>key args 0 x) (fun _=>rfl) (fun _=>rfl)
def endNs (s:KS) (rs:List ResultVar):List Nat:=(uniqQ (rs.flatMap fun r=>match r with
 | .tmp t=>(match s.st.tm t with|some (.avl a)=>a.links|some (.osl t _ _ _)=>bif Nat.ble BIG t then [t-BIG] else []|_=>[])
 | .cell t _=>(match s.st.tm t with|some (.ref t _)=>(match s.st.mem t with|some cs=>memL cs|none=>[])|_=>[]))).filter fun n=>(lkO s.own (BIG+n)).isSome
def endQ (T:TyTab) (rs:List ResultVar) (tys:List TypeId) (p:Exit × KS):Option AV:=match p.1 with
 | .ret=>(movesQ [.shut (endNs p.2 rs)] p.2).bind fun s=>resQ T s.st rs tys
 | .normal=>(movesQ [.shut (endNs p.2 rs)] p.2).bind fun s=>resQ T s.st rs tys
 | _=>none
 where
 resQ1 (T:TyTab) (σ:AS):ResultVar→TypeId→Option AV
  | .tmp t,ty=>(σ.tm t).bind (σ.argT T ty)
  | .cell t ty,_=>(T ty).bind fun i=>(σ.look (σ.tm t)).bind fun cs=>takeA i cs
 resQs (T:TyTab) (σ:AS):List ResultVar→List TypeId→Option (List AV)
  | [],_=>some []
  | x :: l,tys=>(resQ1 T σ x (tys.headD 0)).bind fun a=>(resQs T σ l tys.tail).map (a :: ·)
 resQ (T:TyTab) (σ:AS) (rs:List ResultVar) (tys:List TypeId):Option AV:=(resQs T σ rs tys).map packA
section
variable {C:Ctx} {W:Asks} {h:KHow} {fu:Nat}
theorem resQs_some {σ:AS}:∀(rs:List ResultVar) (tys:List TypeId) {l:List AV},endQ.resQs C.T σ rs tys=some l→resL C σ rs tys=some l
 | [],tys,l,h=>h
 | x :: rs,tys,l,h=>by
  obtain ⟨a,h1,h2⟩:=kbind h
  obtain ⟨l',h3,rfl⟩:=Option.map_eq_some_iff.1 h2
  have e:resA C σ x (tys.headD 0)=some a:=by
   cases x with
   | tmp t=>exact h1
   | cell t ty =>
    obtain ⟨i,g1,h1⟩:=kbind h1
    obtain ⟨cs,g2,h1⟩:=kbind h1
    simp only [resA,g1,g2]
    exact h1
  simp only [resL,e,resQs_some rs tys.tail h3]
theorem ACalls.of_runQ {f : FuncId} {fn : Func} {c : Code} {args : List AV} {p : Exit × KS} {r : AV} (H : AsksOK C W) (hf : C.P.funcs[f]? = some fn) (hb : fn.body = some c) (hnm : (fn.name == "runtime.NumGoroutine") = false) (hok : codeX h.ex fn.ntmps c = true) (hl : args.length ≤ fn.ntmps)
  (hr:runQ W h fu c ⟨startK 0 args,[],[],0,0⟩=some p) (he:endQ C.T fn.results.toList fn.resultTypes.toList p=some r):ACalls C f args r:=by
 refine ⟨⟨fn,hf,hnm,by rw [hb];rfl⟩,fun w Z vs hE hz hal hrep=>?_⟩
 refine calls_of_wp hf hb ?_
 obtain ⟨l1,l2⟩:=Rep.agg_iff.1 hrep
 have S:Sim C.u ⟨w,fun _=>False,0,fun _=>undef⟩ Z fn.ntmps (start args) { tmps:=vs ++ Array.replicate (fn.ntmps-vs.size) undef,defers:=[] } w:=by
  refine ⟨⟨Z,fun _=>0,fun _=>(0,0),fun _ _ h=>h,fun _ _ h=>.inl h,fun t x hx=>?_,fun t cs hc=>by simp [start,ofL]at hc,fun t t' cs cs' hc=>by simp [start,ofL]at hc,fun t ov hc=>by simp [start,ofL]at hc,fun t t' ov ov' hc=>by simp [start,ofL]at hc,fun t t' cs ov hc=>by simp [start,ofL]at hc,fun hu b o v hc hl=>.inl (hal hu b o v hc hl),Base.Keep.refl _,rfl,fun t cs j n len hc=>by simp [start,ofL]at hc⟩,?_⟩
  ·rw [start_get]at hx
   simp only [Option.map_eq_some_iff]at hx
   obtain ⟨y,hy,rfl⟩:=hx
   have hlt:=(List.getElem?_eq_some_iff.1 hy).1
   refine ⟨by simp;omega,?_⟩
   have hv:(vs ++ Array.replicate (fn.ntmps-vs.size) undef)[t]? = some (vs[t]'(by omega)):=by
    rw [Array.getElem?_append_left (by omega)]
    exact Array.getElem?_eq_getElem (by omega)
   have:(vs ++ Array.replicate (fn.ntmps-vs.size) undef).getD t undef=vs[t]'(by omega):=by
    simp only [Array.getD_eq_getD_getElem?,hv,Option.getD_some]
   rw [this]
   exact l2 t y _ hy (Array.getElem?_eq_getElem (by omega))
  ·exact ⟨by simp;omega,fun t ht=>by cases ht⟩
 rw [←startK_st]at S
 refine wp_mono (runQ_sound (w0:=⟨w,fun _=>False,0,fun _=>undef⟩) H ⟨hE,fun _ _ h=>h⟩ hz c hok (dstsGe_zero c) hr _ _ S) ?_
 rintro e a' w' ⟨_,rfl,S1⟩
 have hret:(p.1=.ret∨p.1=.normal)∧movesP (fun σ=>∃l,resL C σ fn.results.toList fn.resultTypes.toList=some l∧packA l=r) [.shut (endNs p.2 fn.results.toList)] p.2.st:=by
  unfold endQ at he
  split at he
  ·rename_i h0
   obtain ⟨s,h1,h2⟩:=kbind he
   obtain ⟨l,h3,h4⟩:=Option.map_eq_some_iff.1 h2
   exact ⟨.inl h0,movesQ_sound _ h1 ⟨l,resQs_some _ _ h3,h4⟩⟩
  ·rename_i h0
   obtain ⟨s,h1,h2⟩:=kbind he
   obtain ⟨l,h3,h4⟩:=Option.map_eq_some_iff.1 h2
   exact ⟨.inr h0,movesQ_sound _ h1 ⟨l,resQs_some _ _ h3,h4⟩⟩
  ·cases he
 obtain ⟨hex,hmv⟩:=hret
 obtain ⟨σ,hσ,⟨Z',β,κ,S'⟩,_⟩:=S1.moves _ hmv
 have hret:retA C fn r p.1 σ:=⟨hex,hσ⟩
 have hpost:a'.defers=[]∧∃v,(results fn a'.tmps).run C.P w'=.ok v w'∧∃u,Ending.returned v=.returned u∧Below w.heap.size w w'∧Rep w' (grown Z w w') r u:=by
  obtain ⟨v,r1,r2⟩:=retA_sound S' hret
  exact ⟨S'.defers,v,r1,v,rfl,S'.below.below,r2.keep (Keeps.refl _ _) fun b o hz=>((S'.frz (resU σ fn.results.toList)).z1 b o hz).imp id fun ⟨q1,q2⟩=>⟨q1.elim id False.elim,q2⟩⟩
 rcases hex with h0|h0
 ·rw [h0];exact hpost
 ·rw [h0];exact hpost
end
structure KW where
 T:TyTab
 fs:Array Func
 how:FuncId→Option KHow
 me:TypeId→String→AV→Option (FuncId × AV)
 eq:BinOp→TypeId→Operand→Operand→AV→AV→Option Bool
 pr:FuncId→Option (List AV→Option AV)
 fu:Nat
def kask (W:KW) (n:Nat):FuncId→List AV→Option AV :=
 Nat.rec (motive:=fun _=>FuncId→List AV→Option AV) (fun _ _=>none) (fun _ ih f args=>match W.pr f with
  | some p=>p args
  | none=>(W.how f).bind fun h=>(W.fs[f]?).bind fun fn=>fn.body.bind fun c=>bif Nat.ble args.length fn.ntmps then ((runQ ⟨W.T,ih,W.me,W.eq⟩ h W.fu c ⟨startK 0 args,[],[],0,0⟩).bind fun p=>endQ W.T fn.results.toList fn.resultTypes.toList p).bind (fun r=>fAV 40 r some) else none) n
structure KWOK (C:Ctx) (W:KW):Prop where
 T:W.T=C.T
 fs:W.fs=C.P.funcs
 me:∀t name a f a',W.me t name a=some (f,a')→Meth C.P t name a f a'
 eq:∀op ty ox oy a b r,W.eq op ty ox oy a b=some r→EqV C.P op ty ox oy a b r
 how : ∀ f h fn c, W.how f = some h → C.P.funcs[f]? = some fn → fn.body = some c → (fn.name == "runtime.NumGoroutine") = false ∧ codeX h.ex fn.ntmps c = true
 pr:∀f p args r,W.pr f=some p→p args=some r→ACalls C.t f args r
theorem kask_sound {C:Ctx} {W:KW} (H:KWOK C W):∀(n:Nat) (f:FuncId) (args:List AV) (r:AV),kask W n f args=some r→ACalls C.t f args r
 | 0,f,args,r,h=>by cases h
 | n+1,f,args,r,h=>by
  have h:(match W.pr f with
  | some p=>p args
  | none=>(W.how f).bind fun h=>(W.fs[f]?).bind fun fn=>fn.body.bind fun c=>bif Nat.ble args.length fn.ntmps then ((runQ ⟨W.T,kask W n,W.me,W.eq⟩ h W.fu c ⟨startK 0 args,[],[],0,0⟩).bind fun p=>endQ W.T fn.results.toList fn.resultTypes.toList p).bind (fun r=>fAV 40 r some) else none)=some r:=h
  split at h
  ·rename_i p hp;exact H.pr f p args r hp h
  ·obtain ⟨hh,h1,h⟩:=kbind h
   obtain ⟨fn,h2,h⟩:=kbind h
   obtain ⟨c,h3,h⟩:=kbind h
   obtain ⟨h4,h⟩:=kif h
   obtain ⟨r0,h,h9⟩:=kbind h
   rw [fAV_eq]at h9
   cases h9
   obtain ⟨p,h5,h6⟩:=kbind h
   rw [H.fs]at h2
   rw [H.T]at h6
   obtain ⟨h7,h8⟩:=H.how f hh fn c h1 h2 h3
   exact ACalls.of_runQ (C:=C.t) (W:=⟨W.T,kask W n,W.me,W.eq⟩) ⟨H.T,kask_sound H n,H.me,H.eq⟩ h2 h3 h7 h8 (Nat.le_of_ble_eq_true h4) h5 h6
end
end Go.Proofs.YtcaahphghaddgaaGreatDoor
set_option linter.unusedSimpArgs false
set_option linter.unusedVariables false
namespace Go.Proofs.YtcaahphghaddgaaGreatDoor
open Go.RowKit Lim
noncomputable section
inductive KTree (α:Type) where
 | nil
 | node (l:KTree α) (k:Nat) (v:α) (r:KTree α)
def KTree.get {α:Type}:KTree α→Nat→Option α
 | .nil,_=>none
 | .node l k v r,x=>bif Nat.beq x k then some v else bif Nat.blt x k then l.get x else r.get x
def KTree.all {α:Type} (p:Nat→α→Bool):KTree α→Bool
 | .nil=>true
 | .node l k v r=>p k v && (l.all p && r.all p)
theorem KTree.all_get {α:Type} {p:Nat→α→Bool}:∀{t:KTree α} {x:Nat} {v:α},t.all p=true→t.get x=some v→p x v=true
 | .nil,_,_,_,h=>by cases h
 | .node l k u r,x,v,ha,h=>by
  obtain ⟨h1,h2⟩:=kand ha
  obtain ⟨h2,h3⟩:=kand h2
  unfold KTree.get at h
  cases hb:Nat.beq x k with
  | true =>
   rw [hb]at h
   cases h
   rw [kbeq hb];exact h1
  | false =>
   rw [hb]at h
   simp only [cond_false]at h
   cases hl:Nat.blt x k with
   | true=>rw [hl]at h;exact KTree.all_get h2 h
   | false=>rw [hl]at h;exact KTree.all_get h3 h
def fnX (P:Program) (f:Nat) (h:KHow):Bool:=match P.funcs[f]? with
 | some fn => !(fn.name == "runtime.NumGoroutine") && (match fn.body with | some c => codeX h.ex fn.ntmps c | none => true)
 | none=>true
theorem fnX_of {P : Program} {f : Nat} {h : KHow} {fn : Func} {c : Code} (h1 : fnX P f h = true) (h2 : P.funcs[f]? = some fn) (h3 : fn.body = some c) : (fn.name == "runtime.NumGoroutine") = false ∧ codeX h.ex fn.ntmps c = true := by
 unfold fnX at h1
 rw [h2]at h1
 simp only [h3,Bool.and_eq_true,Bool.not_eq_true']at h1
 exact h1
end
end Go.Proofs.YtcaahphghaddgaaGreatDoor
set_option linter.unusedSimpArgs false
set_option linter.unusedVariables false
namespace Go.Proofs.YtcaahphghaddgaaGreatDoor
open Go.RowKit Lim
noncomputable section
def isConstQ:Operand→Bool
 | .const _=>true
 | _=>false
def ifEqQ (ox oy:Operand) (a b:AV):Option Bool:=match a,b with
 | .lit .nilIface,.lit .nilIface=>bif isConstQ ox || isConstQ oy then some true else none
 | .ifc _ _,.lit .nilIface=>some false
 | .lit .nilIface,.ifc _ _=>some false
 | _,_=>none
def flipQ (op:BinOp) (r:Bool):Option Bool:=match op with
 | .eql=>some r
 | .neq=>some (!r)
 | _=>none
def litEq (k:TK) (a b:AV):Option Bool:=match k,a,b with
 | .int q,.lit (.int q1 x),.lit (.int q2 y)=>bif decide (q=q1) && decide (q=q2) then some (x == y) else none
 | .bool,.lit (.bool x),.lit (.bool y)=>some (x == y)
 | .str,.lit (.string x),.lit (.string y)=>some (x.data.toList == y.data.toList)
 | _,_,_=>none
def fieldsEq (T:TyTab) (xs ys:List AV):List (Nat × Nat × TypeId)→Option Bool
 | []=>some true
 | (o,_,t) :: l=>(T t).bind fun i=>(takeA i (xs.drop o)).bind fun a=>(takeA i (ys.drop o)).bind fun b=>(litEq i.kind a b).bind fun r=>match r with
  | true=>fieldsEq T xs ys l
  | false=>some false
def strEqQ (T:TyTab) (ty:TypeId) (a b:AV):Option Bool:=match T ty,a,b with
 | some ⟨.strct fs,_,_⟩,.agg xs,.agg ys=>fieldsEq T xs ys fs
 | _,_,_=>none
section
variable {P:Program} {T:TyTab} {w:World} {Z:Zone}
theorem eqIn_nil_held (d:Nat) (t u:TypeId) (x:Value) (h:P.underlying t=some (.interface (P.methodsAt t))):(Op.equalIn (d+1) t .nilIface (.iface u x)).run P w=.ok false w:=by
 simp [Op.equalIn,run_underlying h]
theorem eq_nil_held (t u:TypeId) (x:Value) (h:P.underlying t=some (.interface (P.methodsAt t))):(Op.equal t .nilIface (.iface u x)).run P w=.ok false w:=eqIn_nil_held 9999 t u x h
theorem eql_nil_held (t u:TypeId) (x:Value) (h:P.underlying t=some (.interface (P.methodsAt t))):(binOp .eql t .nilIface (.iface u x)).run P w=.ok (.bool false) w:=by
 simp only [binOp]
 simp [eq_nil_held t u x h]
theorem neq_nil_held (t u:TypeId) (x:Value) (h:P.underlying t=some (.interface (P.methodsAt t))):(binOp .neq t .nilIface (.iface u x)).run P w=.ok (.bool true) w:=by
 simp only [binOp]
 simp [eq_nil_held t u x h]
theorem ifEq_ok {ty:TypeId} (h:P.underlying ty=some (.interface (P.methodsAt ty))) {op:BinOp} {ox oy:Operand} {a b:AV} {r r':Bool} (h1:ifEqQ ox oy a b=some r) (h2:flipQ op r=some r'):EqV P op ty ox oy a b r':=by
 intro w Z va vb ha hb
 unfold ifEqQ at h1
 split at h1
 ·obtain ⟨h3,h4⟩:=kif h1
  cases h4
  rw [ha.lit_eq,hb.lit_eq]
  have hg:eqGuard op ty ox oy .nilIface .nilIface=pure ():=by
   cases ox <;> first|(simp only [eqGuard_nil_constL];done)|skip
   all_goals (cases oy <;> first|(simp only [eqGuard_nil_constR];done)|cases h3)
  rw [hg]
  cases op <;> first|cases h2|skip
  ·simp [run_eql_nil_nil w ty h]
  ·simp [run_neq_nil_nil w ty h]
 ·cases h1
  cases ha with
  | ifc hr =>
   rw [hb.lit_eq]
   have hg:∀t u,eqGuard op ty ox oy (.iface t u) .nilIface=pure ():=fun t u=>by simp only [eqGuard_at_iface]
   rw [hg]
   cases op <;> first|cases h2|skip
   ·simp [run_eql_held_nil w ty _ _ h]
   ·simp [run_neq_held_nil w ty _ _ h]
 ·cases h1
  cases hb with
  | ifc hr =>
   rw [ha.lit_eq,eqGuard_nil_iface]
   cases op <;> first|cases h2|skip
   ·simp [eql_nil_held _ _ _ h]
   ·simp [neq_nil_held _ _ _ h]
 ·cases h1
theorem litEq_ok {ty:TypeId} {i:TI} (h:TIOK P ty i) {a b:AV} {r:Bool} (h1:litEq i.kind a b=some r) {va vb:Value} (ha:Rep w Z a va) (hb:Rep w Z b vb) (d:Nat):(Op.equalIn (d+1) ty va vb).run P w=.ok r w:=by
 have hu:=h.und
 unfold litEq at h1
 split at h1
 ·rename_i hk
  rw [hk]at hu
  obtain ⟨h2,h3⟩:=kif h1
  obtain ⟨h4,h5⟩:=kand h2
  have h4:=of_decide_eq_true h4
  have h5:=of_decide_eq_true h5
  subst h4
  subst h5
  cases h3
  rw [ha.lit_eq,hb.lit_eq]
  exact run_equalIn_int w d ty _ _ _ _ hu
 ·rename_i hk
  rw [hk]at hu
  cases h1
  rw [ha.lit_eq,hb.lit_eq]
  exact run_equalIn_bool' w d ty _ _ hu
 ·rename_i hk
  rw [hk]at hu
  cases h1
  rw [ha.lit_eq,hb.lit_eq,←toList_ba,←toList_ba]
  exact run_equalIn_string w d ty _ _ hu
 ·cases h1
theorem fields_ok {C : Ctx} {xs ys : List AV} {vx vy : Array Value} (hx : Rep w Z (.agg xs) (.agg vx)) (hy : Rep w Z (.agg ys) (.agg vy)) (d : Nat) : ∀ (fs : List (Nat × Nat × TypeId)) (fds : List Field) {r : Bool}, fs.length = fds.length → (∀ (j : Nat) (o n : Nat) (t : TypeId), fs[j]? = some (o, n, t) → ∃ fd : Field, fds[j]? = some fd ∧ fd.offset = o ∧ fd.type = t) → (fds.all fun f => f.name != "_") = true → fieldsEq C.T xs ys fs = some r → (Op.eqFields (d + 1) vx vy fds).run C.P w = .ok r w
 | [],[],r,_,_,_,h=>by cases h;simp [Op.eqFields]
 | [],_ :: _,_,hl,_,_,_=>by simp at hl
 | _ :: _,[],_,hl,_,_,_=>by simp at hl
 | (o,n,t) :: fs,fd :: fds,r,hl,hf,hn,h=>by
  obtain ⟨fd',q1,q2,q3⟩:=hf 0 o n t rfl
  cases q1
  obtain ⟨i,h1,h⟩:=kbind h
  obtain ⟨a,h2,h⟩:=kbind h
  obtain ⟨b,h3,h⟩:=kbind h
  obtain ⟨rr,h4,h⟩:=kbind h
  simp only [List.all_cons,Bool.and_eq_true,bne_iff_ne]at hn
  have hi:=C.hT _ _ h1
  obtain ⟨u,g1,g2⟩:=takeA_part (C:=C) (w:=w) (Z:=Z) hi hx (o:=o) h2
  obtain ⟨v,g3,g4⟩:=takeA_part (C:=C) (w:=w) (Z:=Z) hi hy (o:=o) h3
  have g5:=litEq_ok hi h4 g2 g4 d
  unfold Op.eqFields
  rw [if_pos hn.1,q2,q3]
  simp only [Sem.run_bind,g1,Result.andThen_ok,g3,g5]
  cases rr with
  | false=>cases h;simp
  | true =>
   simp only [Bool.not_true,Bool.false_eq_true,if_false]
   exact fields_ok hx hy d fs fds (by simpa using hl) (fun j o n t hj=>hf (j+1) o n t hj) hn.2 h
def eqTyB (P:Program) (ty:TypeId):Bool:=(match P.underlying ty with
 | some (.struct fds) => fds.toList.all (fun f => f.name != "_")
 | _=>false) && (!P.stoodInHeld ty && !P.eqGuardType P.depth ty)
def ifTyB (P:Program) (ty:TypeId):Bool:=match P.underlying ty with
 | some (.interface _)=>true
 | _=>false
theorem strEq_ok {C:Ctx} {ty:TypeId} (h:eqTyB C.P ty=true) {op:BinOp} {ox oy:Operand} {a b:AV} {r r':Bool} (h1:strEqQ C.T ty a b=some r) (h2:flipQ op r=some r'):EqV C.P op ty ox oy a b r':=by
 intro w Z va vb ha hb
 unfold strEqQ at h1
 split at h1
 ·rename_i fs z b xs ys h3
  obtain ⟨vx,rfl,hx⟩:∃vs,va=.agg vs∧Rep w Z (.agg xs) (.agg vs):=by cases ha with|agg hl hr=>exact ⟨_,rfl,.agg hl hr⟩
  obtain ⟨vy,rfl,hy⟩:∃vs,vb=.agg vs∧Rep w Z (.agg ys) (.agg vs):=by cases hb with|agg hl hr=>exact ⟨_,rfl,.agg hl hr⟩
  obtain ⟨k1,k2⟩:=kand h
  obtain ⟨k2,k3⟩:=kand k2
  obtain ⟨fds,u1,u2,u3⟩:=(C.hT _ _ h3).und
  have hfo:C.P.fieldsOf ty=fds:=by unfold Program.fieldsOf;rw [u1]
  rw [u1]at k1
  have hf:=fields_ok hx hy 9998 fs fds.toList (by simp [u2]) (fun j o n t hj=>by
   obtain ⟨fd,g1,g2,g3,_⟩:=u3 j o n t hj
   exact ⟨fd,by simpa using g1,g2,g3⟩) k1 h1
  have he:(Op.equalIn 10000 ty (.agg vx) (.agg vy)).run C.P w=.ok r w:=by
   rw [run_equalIn_struct w 9999 ty vx vy (by rw [hfo];exact u1) (by simpa using k2),hfo]
   exact hf
  have hg:=run_eqGuard_agg (P:=C.P) w op ty ox oy vx vy (by simpa using k3)
  rw [Sem.run_bind,hg,Result.andThen_ok]
  cases op <;> first|cases h2|skip
  ·rw [run_eql_struct,he];rfl
  ·rw [run_neq_struct,he];rfl
 ·cases h1
end
def eqTab (T:TyTab) (ifs sts:List Nat) (op:BinOp) (ty:TypeId) (ox oy:Operand) (a b:AV):Option Bool :=
 bif memQ ty ifs then (ifEqQ ox oy a b).bind (flipQ op) else bif memQ ty sts then (strEqQ T ty a b).bind (flipQ op) else none
theorem memQ_all {p:Nat→Bool}:∀{l:List Nat} {x:Nat},l.all p=true→memQ x l=true→p x=true
 | [],_,_,h=>by cases h
 | y :: l,x,ha,h=>by
  simp only [List.all_cons,Bool.and_eq_true]at ha
  have h:(Nat.beq x y || memQ x l)=true:=h
  cases hb:Nat.beq x y with
  | true=>rw [kbeq hb];exact ha.1
  | false=>rw [hb,Bool.false_or]at h;exact memQ_all ha.2 h
theorem eqTab_ok {C:Ctx} {ifs sts:List Nat} (h1:ifs.all (ifTyB C.P)=true) (h2:sts.all (eqTyB C.P)=true) {op:BinOp} {ty:TypeId} {ox oy:Operand} {a b:AV} {r:Bool} (h:eqTab C.T ifs sts op ty ox oy a b=some r):EqV C.P op ty ox oy a b r:=by
 unfold eqTab at h
 cases hi:memQ ty ifs with
 | true =>
  rw [hi]at h
  obtain ⟨r0,h3,h4⟩:=kbind h
  have:=memQ_all h1 hi
  unfold ifTyB at this
  split at this
  ·rename_i ms hu
   have hm:C.P.methodsAt ty=ms:=by unfold Program.methodsAt;rw [hu]
   exact ifEq_ok (by rw [hm];exact hu) h3 h4
  ·cases this
 | false =>
  rw [hi]at h
  obtain ⟨h3,h⟩:=kif h
  obtain ⟨r0,h4,h5⟩:=kbind h
  exact strEq_ok (memQ_all h2 h3) h4 h5
end
end Go.Proofs.YtcaahphghaddgaaGreatDoor
namespace Go.Proofs.YtcaahphghaddgaaGreatDoor
open Go.RowKit Lim
def tabKT:KTree TI:=.node (.node (.node (.node (.node (.node (.node (.node .nil 1 ⟨.scal,[.lit .nilFunc],8⟩ .nil) 2 ⟨.int .i64,[.lit (.int .i64 0)],8⟩ (.node .nil 3 ⟨.int .i64,[.lit (.int .i64 0)],8⟩ .nil)) 4 ⟨.bool,[.lit (.bool false)],1⟩ (.node (.node .nil 5 ⟨.int .u8,[.lit (.int .u8 0)],1⟩ .nil) 6 ⟨.int .u8,[.lit (.int .u8 0)],1⟩ (.node .nil 7 ⟨.strct [(0,1,2),(1,1,3),(2,1,4),(3,1,6)],[.lit (.int .i64 0),.lit (.int .i64 0),.lit (.bool false),.lit (.int .u8 0)],24⟩ .nil))) 8 ⟨.strct [(0,1,2),(1,1,3),(2,1,4),(3,1,6)],[.lit (.int .i64 0),.lit (.int .i64 0),.lit (.bool false),.lit (.int .u8 0)],24⟩ (.node (.node (.node .nil 9 ⟨.str,[.lit (.string ⟨#[]⟩)],16⟩ .nil) 10 ⟨.str,[.lit (.string ⟨#[]⟩)],16⟩ (.node .nil 11 ⟨.str,[.lit (.string ⟨#[]⟩)],16⟩ .nil)) 12 ⟨.int .u64,[.lit (.int .u64 0)],8⟩ (.node (.node .nil 13 ⟨.strct [(0,1,9),(1,1,12)],[.lit (.string ⟨#[]⟩),.lit (.int .u64 0)],24⟩ .nil) 14 ⟨.strct [(0,1,9),(1,1,12)],[.lit (.string ⟨#[]⟩),.lit (.int .u64 0)],24⟩ (.node .nil 15 ⟨.scal,[.lit (.pointer none)],8⟩ .nil)))) 16 ⟨.scal,[.lit (.pointer none)],8⟩ (.node (.node (.node (.node .nil 17 ⟨.scal,[.lit (.pointer none)],8⟩ .nil) 18 ⟨.strct [(0,1,17)],[.lit (.pointer none)],8⟩ (.node .nil 19 ⟨.strct [(0,1,17)],[.lit (.pointer none)],8⟩ .nil)) 20 ⟨.scal,[.lit .nilIface],16⟩ (.node (.node .nil 21 ⟨.int .i32,[.lit (.int .i32 0)],4⟩ .nil) 22 ⟨.slc 78 5 false,[.lit (.slice none 0 0)],24⟩ (.node .nil 23 ⟨.strct [(0,1,3),(1,1,22)],[.lit (.int .i64 0),.lit (.slice none 0 0)],32⟩ .nil))) 24 ⟨.strct [(0,1,3),(1,1,22)],[.lit (.int .i64 0),.lit (.slice none 0 0)],32⟩ (.node (.node (.node .nil 25 ⟨.int .i64,[.lit (.int .i64 0)],8⟩ .nil) 27 ⟨.scal,[.lit .nilFunc],8⟩ (.node .nil 28 ⟨.scal,[.lit .nilFunc],8⟩ .nil)) 29 ⟨.scal,[.lit .nilFunc],8⟩ (.node (.node .nil 30 ⟨.scal,[.lit .nilFunc],8⟩ .nil) 31 ⟨.slc 58 9 false,[.lit (.slice none 0 0)],24⟩ .nil)))) 32 ⟨.scal,[.lit .nilFunc],8⟩ (.node (.node (.node (.node (.node .nil 33 ⟨.scal,[.lit .nilFunc],8⟩ .nil) 34 ⟨.slc 102 2 false,[.lit (.slice none 0 0)],24⟩ (.node .nil 35 ⟨.slc 3 1 false,[.lit (.slice none 0 0)],24⟩ .nil)) 36 ⟨.slc 88 3 false,[.lit (.slice none 0 0)],24⟩ (.node (.node .nil 37 ⟨.strct [(0,1,35),(1,1,36),(2,1,35)],[.lit (.slice none 0 0),.lit (.slice none 0 0),.lit (.slice none 0 0)],72⟩ .nil) 38 ⟨.strct [(0,1,35),(1,1,36),(2,1,35)],[.lit (.slice none 0 0),.lit (.slice none 0 0),.lit (.slice none 0 0)],72⟩ (.node .nil 40 ⟨.scal,[.lit .nilFunc],8⟩ .nil))) 41 ⟨.scal,[.lit .nilFunc],8⟩ (.node (.node (.node .nil 42 ⟨.scal,[.lit .nilFunc],8⟩ .nil) 44 ⟨.scal,[.lit .nilFunc],8⟩ (.node .nil 45 ⟨.scal,[.lit .nilFunc],8⟩ .nil)) 46 ⟨.scal,[.lit .nilFunc],8⟩ (.node (.node .nil 48 ⟨.scal,[.lit .nilFunc],8⟩ .nil) 49 ⟨.scal,[.lit .nilFunc],8⟩ (.node .nil 50 ⟨.scal,[.lit .nilFunc],8⟩ .nil)))) 51 ⟨.scal,[.lit .nilFunc],8⟩ (.node (.node (.node (.node .nil 52 ⟨.scal,[.lit .nilFunc],8⟩ .nil) 53 ⟨.int .u32,[.lit (.int .u32 0)],4⟩ (.node .nil 54 ⟨.slc 35 1 false,[.lit (.slice none 0 0)],24⟩ .nil)) 55 ⟨.strct [(0,1,54)],[.lit (.slice none 0 0)],24⟩ (.node (.node .nil 56 ⟨.strct [(0,1,54)],[.lit (.slice none 0 0)],24⟩ .nil) 57 ⟨.strct [(0,1,3),(1,1,9),(2,1,3),(3,1,3),(4,1,3),(5,1,3),(6,1,3),(7,1,3),(8,1,56)],[.lit (.int .i64 0),.lit (.string ⟨#[]⟩),.lit (.int .i64 0),.lit (.int .i64 0),.lit (.int .i64 0),.lit (.int .i64 0),.lit (.int .i64 0),.lit (.int .i64 0),.lit (.slice none 0 0)],96⟩ (.node .nil 58 ⟨.strct [(0,1,3),(1,1,9),(2,1,3),(3,1,3),(4,1,3),(5,1,3),(6,1,3),(7,1,3),(8,1,56)],[.lit (.int .i64 0),.lit (.string ⟨#[]⟩),.lit (.int .i64 0),.lit (.int .i64 0),.lit (.int .i64 0),.lit (.int .i64 0),.lit (.int .i64 0),.lit (.int .i64 0),.lit (.slice none 0 0)],96⟩ .nil))) 59 ⟨.scal,[.lit .nilFunc],8⟩ (.node (.node (.node .nil 60 ⟨.int .u64,[.lit (.int .u64 0)],8⟩ .nil) 61 ⟨.scal,[.lit .nilFunc],8⟩ (.node .nil 62 ⟨.scal,[.lit (.pointer none)],8⟩ .nil)) 63 ⟨.slc 5 1 false,[.lit (.slice none 0 0)],24⟩ (.node (.node .nil 64 ⟨.strct [(0,1,62),(1,1,63)],[.lit (.pointer none),.lit (.slice none 0 0)],32⟩ .nil) 65 ⟨.strct [(0,1,62),(1,1,63)],[.lit (.pointer none),.lit (.slice none 0 0)],32⟩ .nil))))) 66 ⟨.scal,[.lit .nilIface],16⟩ (.node (.node (.node (.node (.node (.node .nil 67 ⟨.scal,[.lit .nilIface],16⟩ .nil) 69 ⟨.scal,[.lit .nilFunc],8⟩ (.node .nil 70 ⟨.scal,[.lit .nilFunc],8⟩ .nil)) 71 ⟨.slc 74 1 false,[.lit (.slice none 0 0)],24⟩ (.node (.node .nil 72 ⟨.scal,[.lit .nilFunc],8⟩ .nil) 73 ⟨.scal,[.lit .nilIface],16⟩ (.node .nil 74 ⟨.scal,[.lit .nilIface],16⟩ .nil))) 75 ⟨.scal,[.lit .nilFunc],8⟩ (.node (.node (.node .nil 76 ⟨.scal,[.lit .nilFunc],8⟩ .nil) 77 ⟨.strct [(0,1,3),(1,1,3),(2,1,3),(3,1,3),(4,1,9)],[.lit (.int .i64 0),.lit (.int .i64 0),.lit (.int .i64 0),.lit (.int .i64 0),.lit (.string ⟨#[]⟩)],48⟩ (.node .nil 78 ⟨.strct [(0,1,3),(1,1,3),(2,1,3),(3,1,3),(4,1,9)],[.lit (.int .i64 0),.lit (.int .i64 0),.lit (.int .i64 0),.lit (.int .i64 0),.lit (.string ⟨#[]⟩)],48⟩ .nil)) 80 ⟨.scal,[.lit .nilFunc],8⟩ (.node (.node .nil 82 ⟨.scal,[.lit .nilFunc],8⟩ .nil) 83 ⟨.scal,[.lit .nilFunc],8⟩ (.node .nil 84 ⟨.scal,[.lit .nilFunc],8⟩ .nil)))) 85 ⟨.scal,[.lit .nilFunc],8⟩ (.node (.node (.node (.node .nil 86 ⟨.scal,[.lit .nilFunc],8⟩ .nil) 87 ⟨.strct [(0,1,35),(1,1,3),(2,1,3)],[.lit (.slice none 0 0),.lit (.int .i64 0),.lit (.int .i64 0)],40⟩ (.node .nil 88 ⟨.strct [(0,1,35),(1,1,3),(2,1,3)],[.lit (.slice none 0 0),.lit (.int .i64 0),.lit (.int .i64 0)],40⟩ .nil)) 89 ⟨.scal,[.lit .nilFunc],8⟩ (.node (.node .nil 90 ⟨.scal,[.lit .nilFunc],8⟩ .nil) 91 ⟨.scal,[.lit .nilFunc],8⟩ (.node .nil 92 ⟨.strct [(0,2,24),(2,1,31),(3,1,3),(4,1,3)],[.lit (.int .i64 0),.lit (.slice none 0 0),.lit (.slice none 0 0),.lit (.int .i64 0),.lit (.int .i64 0)],72⟩ .nil))) 93 ⟨.strct [(0,2,24),(2,1,31),(3,1,3),(4,1,3)],[.lit (.int .i64 0),.lit (.slice none 0 0),.lit (.slice none 0 0),.lit (.int .i64 0),.lit (.int .i64 0)],72⟩ (.node (.node (.node .nil 94 ⟨.scal,[.lit .nilFunc],8⟩ .nil) 95 ⟨.scal,[.lit .nilFunc],8⟩ (.node .nil 96 ⟨.scal,[.lit .nilFunc],8⟩ .nil)) 97 ⟨.scal,[.lit .nilFunc],8⟩ (.node (.node .nil 98 ⟨.scal,[.lit .nilFunc],8⟩ .nil) 99 ⟨.scal,[.lit .nilFunc],8⟩ .nil)))) 100 ⟨.scal,[.lit .nilFunc],8⟩ (.node (.node (.node (.node (.node .nil 101 ⟨.strct [(0,1,3),(1,1,3)],[.lit (.int .i64 0),.lit (.int .i64 0)],16⟩ .nil) 102 ⟨.strct [(0,1,3),(1,1,3)],[.lit (.int .i64 0),.lit (.int .i64 0)],16⟩ (.node .nil 104 ⟨.scal,[.lit .nilFunc],8⟩ .nil)) 106 ⟨.scal,[.lit .nilFunc],8⟩ (.node (.node .nil 108 ⟨.scal,[.lit .nilFunc],8⟩ .nil) 110 ⟨.scal,[.lit .nilFunc],8⟩ (.node .nil 111 ⟨.scal,[.lit .nilFunc],8⟩ .nil))) 112 ⟨.scal,[.lit .nilFunc],8⟩ (.node (.node (.node .nil 113 ⟨.scal,[.lit .nilFunc],8⟩ .nil) 114 ⟨.scal,[.lit .nilFunc],8⟩ (.node .nil 115 ⟨.scal,[.lit .nilFunc],8⟩ .nil)) 116 ⟨.slc 9 1 false,[.lit (.slice none 0 0)],24⟩ (.node (.node .nil 117 ⟨.scal,[.lit .nilFunc],8⟩ .nil) 118 ⟨.scal,[.lit (.pointer none)],8⟩ .nil))) 119 ⟨.scal,[.lit .nilFunc],8⟩ (.node (.node (.node (.node .nil 120 ⟨.slc 53 1 true,[.lit (.slice none 0 0)],24⟩ .nil) 121 ⟨.slc 53 1 true,[.lit (.slice none 0 0)],24⟩ (.node .nil 122 ⟨.scal,[.lit .nilFunc],8⟩ .nil)) 123 ⟨.int .u64,[.lit (.int .u64 0)],8⟩ (.node (.node .nil 124 ⟨.strct [(0,1,3),(1,1,3)],[.lit (.int .i64 0),.lit (.int .i64 0)],16⟩ .nil) 125 ⟨.strct [(0,1,3),(1,1,3)],[.lit (.int .i64 0),.lit (.int .i64 0)],16⟩ (.node .nil 126 ⟨.scal,[.lit .nilFunc],8⟩ .nil))) 127 ⟨.scal,[.lit .nilFunc],8⟩ (.node (.node (.node .nil 128 ⟨.strct [(0,2,125),(2,1,127)],[.lit (.int .i64 0),.lit (.int .i64 0),.lit .nilFunc],24⟩ .nil) 129 ⟨.strct [(0,2,125),(2,1,127)],[.lit (.int .i64 0),.lit (.int .i64 0),.lit .nilFunc],24⟩ (.node .nil 130 ⟨.strct [(0,3,129),(3,1,9)],[.lit (.int .i64 0),.lit (.int .i64 0),.lit .nilFunc,.lit (.string ⟨#[]⟩)],40⟩ .nil)) 131 ⟨.strct [(0,3,129),(3,1,9)],[.lit (.int .i64 0),.lit (.int .i64 0),.lit .nilFunc,.lit (.string ⟨#[]⟩)],40⟩ (.node (.node .nil 132 ⟨.strct [(0,3,129)],[.lit (.int .i64 0),.lit (.int .i64 0),.lit .nilFunc],24⟩ .nil) 133 ⟨.strct [(0,3,129)],[.lit (.int .i64 0),.lit (.int .i64 0),.lit .nilFunc],24⟩ .nil)))))) 134 ⟨.strct [(0,3,129)],[.lit (.int .i64 0),.lit (.int .i64 0),.lit .nilFunc],24⟩ (.node (.node (.node (.node (.node (.node (.node .nil 135 ⟨.strct [(0,3,129)],[.lit (.int .i64 0),.lit (.int .i64 0),.lit .nilFunc],24⟩ .nil) 136 ⟨.strct [(0,3,129),(3,1,3)],[.lit (.int .i64 0),.lit (.int .i64 0),.lit .nilFunc,.lit (.int .i64 0)],32⟩ (.node .nil 137 ⟨.strct [(0,3,129),(3,1,3)],[.lit (.int .i64 0),.lit (.int .i64 0),.lit .nilFunc,.lit (.int .i64 0)],32⟩ .nil)) 138 ⟨.strct [(0,2,125),(2,1,3)],[.lit (.int .i64 0),.lit (.int .i64 0),.lit (.int .i64 0)],24⟩ (.node (.node .nil 139 ⟨.strct [(0,2,125),(2,1,3)],[.lit (.int .i64 0),.lit (.int .i64 0),.lit (.int .i64 0)],24⟩ .nil) 140 ⟨.strct [(0,1,3)],[.lit (.int .i64 0)],8⟩ (.node .nil 141 ⟨.strct [(0,1,3)],[.lit (.int .i64 0)],8⟩ .nil))) 142 ⟨.strct [(0,1,3)],[.lit (.int .i64 0)],8⟩ (.node (.node (.node .nil 143 ⟨.strct [],[],0⟩ .nil) 144 ⟨.strct [],[],0⟩ (.node .nil 145 ⟨.scal,[.lit .nilFunc],8⟩ .nil)) 146 ⟨.scal,[.lit .nilFunc],8⟩ (.node (.node .nil 147 ⟨.scal,[.lit .nilFunc],8⟩ .nil) 148 ⟨.scal,[.lit .nilFunc],8⟩ (.node .nil 149 ⟨.scal,[.lit .nilFunc],8⟩ .nil)))) 150 ⟨.scal,[.lit .nilFunc],8⟩ (.node (.node (.node (.node .nil 151 ⟨.scal,[.lit .nilFunc],8⟩ .nil) 152 ⟨.scal,[.lit .nilFunc],8⟩ (.node .nil 153 ⟨.scal,[.lit .nilFunc],8⟩ .nil)) 154 ⟨.scal,[.lit .nilFunc],8⟩ (.node (.node .nil 155 ⟨.scal,[.lit .nilFunc],8⟩ .nil) 156 ⟨.scal,[.lit .nilFunc],8⟩ (.node .nil 158 ⟨.scal,[.lit .nilFunc],8⟩ .nil))) 159 ⟨.scal,[.lit .nilFunc],8⟩ (.node (.node (.node .nil 160 ⟨.scal,[.lit .nilFunc],8⟩ .nil) 161 ⟨.scal,[.lit .nilFunc],8⟩ (.node .nil 162 ⟨.scal,[.lit .nilFunc],8⟩ .nil)) 164 ⟨.scal,[.lit .nilFunc],8⟩ (.node (.node .nil 165 ⟨.scal,[.lit .nilFunc],8⟩ .nil) 166 ⟨.scal,[.lit .nilFunc],8⟩ .nil)))) 168 ⟨.scal,[.lit .nilFunc],8⟩ (.node (.node (.node (.node (.node .nil 169 ⟨.arr 5 9 1,[.lit (.string ⟨#[]⟩),.lit (.string ⟨#[]⟩),.lit (.string ⟨#[]⟩),.lit (.string ⟨#[]⟩),.lit (.string ⟨#[]⟩)],80⟩ .nil) 171 ⟨.scal,[.lit .nilFunc],8⟩ (.node .nil 172 ⟨.scal,[.lit .nilFunc],8⟩ .nil)) 173 ⟨.map 3 4,[.lit (.map none)],8⟩ (.node (.node .nil 174 ⟨.scal,[.lit .nilFunc],8⟩ .nil) 175 ⟨.scal,[.lit .nilFunc],8⟩ (.node .nil 176 ⟨.scal,[.lit .nilFunc],8⟩ .nil))) 177 ⟨.scal,[.lit .nilFunc],8⟩ (.node (.node (.node .nil 178 ⟨.scal,[.lit .nilFunc],8⟩ .nil) 179 ⟨.scal,[.lit .nilFunc],8⟩ (.node .nil 181 ⟨.scal,[.lit .nilFunc],8⟩ .nil)) 182 ⟨.scal,[.lit .nilFunc],8⟩ (.node (.node .nil 183 ⟨.scal,[.lit .nilFunc],8⟩ .nil) 184 ⟨.scal,[.lit .nilFunc],8⟩ (.node .nil 185 ⟨.scal,[.lit .nilFunc],8⟩ .nil)))) 186 ⟨.scal,[.lit .nilFunc],8⟩ (.node (.node (.node (.node .nil 187 ⟨.scal,[.lit .nilFunc],8⟩ .nil) 188 ⟨.scal,[.lit .nilFunc],8⟩ (.node .nil 189 ⟨.scal,[.lit .nilFunc],8⟩ .nil)) 190 ⟨.scal,[.lit .nilFunc],8⟩ (.node (.node .nil 191 ⟨.scal,[.lit .nilFunc],8⟩ .nil) 192 ⟨.scal,[.lit .nilFunc],8⟩ (.node .nil 193 ⟨.arr 24 5 1,[.lit (.int .u8 0),.lit (.int .u8 0),.lit (.int .u8 0),.lit (.int .u8 0),.lit (.int .u8 0),.lit (.int .u8 0),.lit (.int .u8 0),.lit (.int .u8 0),.lit (.int .u8 0),.lit (.int .u8 0),.lit (.int .u8 0),.lit (.int .u8 0),.lit (.int .u8 0),.lit (.int .u8 0),.lit (.int .u8 0),.lit (.int .u8 0),.lit (.int .u8 0),.lit (.int .u8 0),.lit (.int .u8 0),.lit (.int .u8 0),.lit (.int .u8 0),.lit (.int .u8 0),.lit (.int .u8 0),.lit (.int .u8 0)],24⟩ .nil))) 194 ⟨.scal,[.lit .nilFunc],8⟩ (.node (.node (.node .nil 195 ⟨.scal,[.lit .nilFunc],8⟩ .nil) 197 ⟨.scal,[.lit .nilFunc],8⟩ (.node .nil 198 ⟨.scal,[.lit .nilFunc],8⟩ .nil)) 199 ⟨.scal,[.lit .nilFunc],8⟩ (.node (.node .nil 200 ⟨.scal,[.lit .nilFunc],8⟩ .nil) 202 ⟨.scal,[.lit .nilFunc],8⟩ .nil))))) 203 ⟨.scal,[.lit .nilFunc],8⟩ (.node (.node (.node (.node (.node (.node .nil 205 ⟨.scal,[.lit .nilFunc],8⟩ .nil) 206 ⟨.int .i64,[.lit (.int .i64 0)],8⟩ (.node .nil 208 ⟨.scal,[.lit .nilFunc],8⟩ .nil)) 209 ⟨.scal,[.lit (.pointer none)],8⟩ (.node (.node .nil 210 ⟨.scal,[.lit .nilFunc],8⟩ .nil) 211 ⟨.scal,[.lit .nilFunc],8⟩ (.node .nil 212 ⟨.arr 20 123 1,[.lit (.int .u64 0),.lit (.int .u64 0),.lit (.int .u64 0),.lit (.int .u64 0),.lit (.int .u64 0),.lit (.int .u64 0),.lit (.int .u64 0),.lit (.int .u64 0),.lit (.int .u64 0),.lit (.int .u64 0),.lit (.int .u64 0),.lit (.int .u64 0),.lit (.int .u64 0),.lit (.int .u64 0),.lit (.int .u64 0),.lit (.int .u64 0),.lit (.int .u64 0),.lit (.int .u64 0),.lit (.int .u64 0),.lit (.int .u64 0)],160⟩ .nil))) 214 ⟨.scal,[.lit .nilFunc],8⟩ (.node (.node (.node .nil 215 ⟨.int .i64,[.lit (.int .i64 0)],8⟩ .nil) 217 ⟨.scal,[.lit .nilFunc],8⟩ (.node .nil 218 ⟨.scal,[.lit .nilFunc],8⟩ .nil)) 219 ⟨.scal,[.lit .nilFunc],8⟩ (.node (.node .nil 221 ⟨.scal,[.lit .nilFunc],8⟩ .nil) 222 ⟨.scal,[.lit .nilFunc],8⟩ (.node .nil 224 ⟨.scal,[.lit .nilFunc],8⟩ .nil)))) 225 ⟨.scal,[.lit .nilFunc],8⟩ (.node (.node (.node (.node .nil 226 ⟨.strct [(0,1,9),(1,1,9),(2,1,67)],[.lit (.string ⟨#[]⟩),.lit (.string ⟨#[]⟩),.lit .nilIface],48⟩ .nil) 227 ⟨.strct [(0,1,9),(1,1,9),(2,1,67)],[.lit (.string ⟨#[]⟩),.lit (.string ⟨#[]⟩),.lit .nilIface],48⟩ (.node .nil 228 ⟨.scal,[.lit .nilFunc],8⟩ .nil)) 229 ⟨.int .u64,[.lit (.int .u64 0)],8⟩ (.node (.node .nil 230 ⟨.scal,[.lit .nilFunc],8⟩ .nil) 231 ⟨.scal,[.lit .nilFunc],8⟩ (.node .nil 232 ⟨.scal,[.lit .nilFunc],8⟩ .nil))) 233 ⟨.scal,[.lit (.pointer none)],8⟩ (.node (.node (.node .nil 234 ⟨.scal,[.lit .nilFunc],8⟩ .nil) 236 ⟨.strct [(0,1,5),(1,1,5)],[.lit (.int .u8 0),.lit (.int .u8 0)],2⟩ (.node .nil 237 ⟨.strct [(0,1,5),(1,1,5)],[.lit (.int .u8 0),.lit (.int .u8 0)],2⟩ .nil)) 238 ⟨.arr 16 237 2,[.lit (.int .u8 0),.lit (.int .u8 0),.lit (.int .u8 0),.lit (.int .u8 0),.lit (.int .u8 0),.lit (.int .u8 0),.lit (.int .u8 0),.lit (.int .u8 0),.lit (.int .u8 0),.lit (.int .u8 0),.lit (.int .u8 0),.lit (.int .u8 0),.lit (.int .u8 0),.lit (.int .u8 0),.lit (.int .u8 0),.lit (.int .u8 0),.lit (.int .u8 0),.lit (.int .u8 0),.lit (.int .u8 0),.lit (.int .u8 0),.lit (.int .u8 0),.lit (.int .u8 0),.lit (.int .u8 0),.lit (.int .u8 0),.lit (.int .u8 0),.lit (.int .u8 0),.lit (.int .u8 0),.lit (.int .u8 0),.lit (.int .u8 0),.lit (.int .u8 0),.lit (.int .u8 0),.lit (.int .u8 0)],32⟩ (.node (.node .nil 239 ⟨.scal,[.lit .nilFunc],8⟩ .nil) 240 ⟨.scal,[.lit (.pointer none)],8⟩ .nil)))) 241 ⟨.strct [(0,1,9)],[.lit (.string ⟨#[]⟩)],16⟩ (.node (.node (.node (.node (.node .nil 242 ⟨.strct [(0,1,9)],[.lit (.string ⟨#[]⟩)],16⟩ .nil) 243 ⟨.arr 32 5 1,[.lit (.int .u8 0),.lit (.int .u8 0),.lit (.int .u8 0),.lit (.int .u8 0),.lit (.int .u8 0),.lit (.int .u8 0),.lit (.int .u8 0),.lit (.int .u8 0),.lit (.int .u8 0),.lit (.int .u8 0),.lit (.int .u8 0),.lit (.int .u8 0),.lit (.int .u8 0),.lit (.int .u8 0),.lit (.int .u8 0),.lit (.int .u8 0),.lit (.int .u8 0),.lit (.int .u8 0),.lit (.int .u8 0),.lit (.int .u8 0),.lit (.int .u8 0),.lit (.int .u8 0),.lit (.int .u8 0),.lit (.int .u8 0),.lit (.int .u8 0),.lit (.int .u8 0),.lit (.int .u8 0),.lit (.int .u8 0),.lit (.int .u8 0),.lit (.int .u8 0),.lit (.int .u8 0),.lit (.int .u8 0)],32⟩ (.node .nil 244 ⟨.arr 64 5 1,[.lit (.int .u8 0),.lit (.int .u8 0),.lit (.int .u8 0),.lit (.int .u8 0),.lit (.int .u8 0),.lit (.int .u8 0),.lit (.int .u8 0),.lit (.int .u8 0),.lit (.int .u8 0),.lit (.int .u8 0),.lit (.int .u8 0),.lit (.int .u8 0),.lit (.int .u8 0),.lit (.int .u8 0),.lit (.int .u8 0),.lit (.int .u8 0),.lit (.int .u8 0),.lit (.int .u8 0),.lit (.int .u8 0),.lit (.int .u8 0),.lit (.int .u8 0),.lit (.int .u8 0),.lit (.int .u8 0),.lit (.int .u8 0),.lit (.int .u8 0),.lit (.int .u8 0),.lit (.int .u8 0),.lit (.int .u8 0),.lit (.int .u8 0),.lit (.int .u8 0),.lit (.int .u8 0),.lit (.int .u8 0),.lit (.int .u8 0),.lit (.int .u8 0),.lit (.int .u8 0),.lit (.int .u8 0),.lit (.int .u8 0),.lit (.int .u8 0),.lit (.int .u8 0),.lit (.int .u8 0),.lit (.int .u8 0),.lit (.int .u8 0),.lit (.int .u8 0),.lit (.int .u8 0),.lit (.int .u8 0),.lit (.int .u8 0),.lit (.int .u8 0),.lit (.int .u8 0),.lit (.int .u8 0),.lit (.int .u8 0),.lit (.int .u8 0),.lit (.int .u8 0),.lit (.int .u8 0),.lit (.int .u8 0),.lit (.int .u8 0),.lit (.int .u8 0),.lit (.int .u8 0),.lit (.int .u8 0),.lit (.int .u8 0),.lit (.int .u8 0),.lit (.int .u8 0),.lit (.int .u8 0),.lit (.int .u8 0),.lit (.int .u8 0)],64⟩ .nil)) 245 ⟨.scal,[.lit (.pointer none)],8⟩ (.node (.node .nil 246 ⟨.scal,[.lit .nilFunc],8⟩ .nil) 247 ⟨.strct [(0,1,17),(1,1,17),(2,1,17),(3,1,9)],[.lit (.pointer none),.lit (.pointer none),.lit (.pointer none),.lit (.string ⟨#[]⟩)],40⟩ (.node .nil 248 ⟨.strct [(0,1,17),(1,1,17),(2,1,17),(3,1,9)],[.lit (.pointer none),.lit (.pointer none),.lit (.pointer none),.lit (.string ⟨#[]⟩)],40⟩ .nil))) 249 ⟨.arr 0 16 1,[],0⟩ (.node (.node (.node .nil 252 ⟨.scal,[.lit .nilFunc],8⟩ .nil) 253 ⟨.int .u8,[.lit (.int .u8 0)],1⟩ (.node .nil 254 ⟨.int .u8,[.lit (.int .u8 0)],1⟩ .nil)) 255 ⟨.scal,[.lit .nilFunc],8⟩ (.node (.node .nil 256 ⟨.int .i32,[.lit (.int .i32 0)],4⟩ .nil) 257 ⟨.int .i32,[.lit (.int .i32 0)],4⟩ .nil))) 258 ⟨.strct [(0,1,12),(1,1,12),(2,1,53),(3,1,253),(4,1,5),(5,1,5),(6,1,254),(7,1,255),(8,1,118),(9,1,256),(10,1,257)],[.lit (.int .u64 0),.lit (.int .u64 0),.lit (.int .u32 0),.lit (.int .u8 0),.lit (.int .u8 0),.lit (.int .u8 0),.lit (.int .u8 0),.lit .nilFunc,.lit (.pointer none),.lit (.int .i32 0),.lit (.int .i32 0)],48⟩ (.node (.node (.node (.node .nil 259 ⟨.strct [(0,1,12),(1,1,12),(2,1,53),(3,1,253),(4,1,5),(5,1,5),(6,1,254),(7,1,255),(8,1,118),(9,1,256),(10,1,257)],[.lit (.int .u64 0),.lit (.int .u64 0),.lit (.int .u32 0),.lit (.int .u8 0),.lit (.int .u8 0),.lit (.int .u8 0),.lit (.int .u8 0),.lit .nilFunc,.lit (.pointer none),.lit (.int .i32 0),.lit (.int .i32 0)],48⟩ .nil) 260 ⟨.scal,[.lit .nilFunc],8⟩ (.node .nil 261 ⟨.scal,[.lit .nilFunc],8⟩ .nil)) 262 ⟨.map 3 3,[.lit (.map none)],8⟩ (.node (.node .nil 263 ⟨.scal,[.lit .nilFunc],8⟩ .nil) 264 ⟨.scal,[.lit .nilFunc],8⟩ (.node .nil 265 ⟨.scal,[.lit .nilFunc],8⟩ .nil))) 266 ⟨.scal,[.lit .nilFunc],8⟩ (.node (.node (.node .nil 267 ⟨.scal,[.lit .nilFunc],8⟩ .nil) 268 ⟨.scal,[.lit .nilFunc],8⟩ (.node .nil 269 ⟨.scal,[.lit .nilFunc],8⟩ .nil)) 270 ⟨.scal,[.lit .nilFunc],8⟩ (.node (.node .nil 271 ⟨.scal,[.lit .nilFunc],8⟩ .nil) 272 ⟨.scal,[.lit .nilFunc],8⟩ .nil))))))
theorem tabKT_ok:tabKT.all (tiB Tryz.prog)=true:=by kernel_rfl
def howKT:KTree KHow:=.node (.node (.node (.node (.node (.node (.node (.node .nil 2 ⟨0,[]⟩ .nil) 3 ⟨7,[]⟩ (.node .nil 4 ⟨5,[]⟩ .nil)) 5 ⟨13,[]⟩ (.node (.node .nil 6 ⟨52,[]⟩ .nil) 7 ⟨62,[1]⟩ (.node .nil 8 ⟨17,[]⟩ .nil))) 9 ⟨106,[]⟩ (.node (.node (.node .nil 10 ⟨24,[]⟩ .nil) 11 ⟨63,[]⟩ (.node .nil 12 ⟨38,[]⟩ .nil)) 13 ⟨25,[]⟩ (.node (.node .nil 14 ⟨101,[]⟩ .nil) 15 ⟨51,[]⟩ .nil))) 16 ⟨51,[]⟩ (.node (.node (.node (.node .nil 17 ⟨122,[18]⟩ .nil) 18 ⟨183,[14]⟩ (.node .nil 19 ⟨79,[]⟩ .nil)) 20 ⟨68,[]⟩ (.node (.node .nil 21 ⟨37,[6]⟩ .nil) 22 ⟨29,[]⟩ (.node .nil 23 ⟨59,[]⟩ .nil))) 24 ⟨62,[]⟩ (.node (.node (.node .nil 25 ⟨65,[]⟩ .nil) 26 ⟨56,[]⟩ (.node .nil 27 ⟨29,[]⟩ .nil)) 28 ⟨56,[]⟩ (.node (.node .nil 29 ⟨25,[]⟩ .nil) 30 ⟨16,[]⟩ .nil)))) 31 ⟨6,[]⟩ (.node (.node (.node (.node (.node .nil 32 ⟨14,[]⟩ .nil) 33 ⟨25,[]⟩ (.node .nil 34 ⟨3,[]⟩ .nil)) 35 ⟨3,[]⟩ (.node (.node .nil 36 ⟨18,[]⟩ .nil) 37 ⟨19,[]⟩ (.node .nil 38 ⟨129,[]⟩ .nil))) 39 ⟨7,[]⟩ (.node (.node (.node .nil 40 ⟨97,[]⟩ .nil) 41 ⟨3,[]⟩ (.node .nil 42 ⟨3,[]⟩ .nil)) 43 ⟨10,[]⟩ (.node (.node .nil 44 ⟨43,[]⟩ .nil) 45 ⟨33,[]⟩ .nil))) 46 ⟨4,[]⟩ (.node (.node (.node (.node .nil 47 ⟨72,[]⟩ .nil) 48 ⟨7,[]⟩ (.node .nil 49 ⟨33,[]⟩ .nil)) 50 ⟨19,[]⟩ (.node (.node .nil 51 ⟨11,[]⟩ .nil) 52 ⟨53,[]⟩ (.node .nil 53 ⟨33,[]⟩ .nil))) 54 ⟨10,[]⟩ (.node (.node (.node .nil 55 ⟨7,[]⟩ .nil) 56 ⟨26,[]⟩ (.node .nil 57 ⟨89,[]⟩ .nil)) 58 ⟨38,[]⟩ (.node (.node .nil 59 ⟨4,[]⟩ .nil) 60 ⟨37,[]⟩ .nil))))) 61 ⟨39,[]⟩ (.node (.node (.node (.node (.node (.node .nil 62 ⟨24,[]⟩ .nil) 63 ⟨4,[]⟩ (.node .nil 64 ⟨19,[]⟩ .nil)) 66 ⟨3,[]⟩ (.node (.node .nil 67 ⟨67,[]⟩ .nil) 68 ⟨39,[]⟩ (.node .nil 69 ⟨3,[]⟩ .nil))) 70 ⟨4,[]⟩ (.node (.node (.node .nil 71 ⟨5,[]⟩ .nil) 72 ⟨3,[]⟩ (.node .nil 73 ⟨3,[]⟩ .nil)) 74 ⟨3,[]⟩ (.node (.node .nil 75 ⟨4,[]⟩ .nil) 76 ⟨43,[]⟩ .nil))) 77 ⟨29,[]⟩ (.node (.node (.node (.node .nil 78 ⟨64,[]⟩ .nil) 79 ⟨46,[]⟩ (.node .nil 80 ⟨3,[]⟩ .nil)) 81 ⟨20,[]⟩ (.node (.node .nil 82 ⟨38,[]⟩ .nil) 83 ⟨4,[]⟩ (.node .nil 84 ⟨5,[]⟩ .nil))) 85 ⟨5,[]⟩ (.node (.node (.node .nil 86 ⟨26,[]⟩ .nil) 87 ⟨16,[]⟩ (.node .nil 88 ⟨23,[]⟩ .nil)) 89 ⟨70,[]⟩ (.node (.node .nil 90 ⟨10,[]⟩ .nil) 91 ⟨18,[]⟩ .nil)))) 92 ⟨13,[]⟩ (.node (.node (.node (.node (.node .nil 93 ⟨5,[]⟩ .nil) 94 ⟨38,[]⟩ (.node .nil 95 ⟨22,[]⟩ .nil)) 96 ⟨17,[]⟩ (.node (.node .nil 97 ⟨4,[]⟩ .nil) 98 ⟨20,[]⟩ (.node .nil 99 ⟨50,[]⟩ .nil))) 101 ⟨3,[]⟩ (.node (.node (.node .nil 102 ⟨22,[]⟩ .nil) 103 ⟨17,[]⟩ (.node .nil 104 ⟨18,[]⟩ .nil)) 105 ⟨5,[]⟩ (.node (.node .nil 106 ⟨24,[]⟩ .nil) 107 ⟨32,[]⟩ .nil))) 108 ⟨37,[]⟩ (.node (.node (.node (.node .nil 109 ⟨17,[]⟩ .nil) 110 ⟨17,[]⟩ (.node .nil 111 ⟨50,[]⟩ .nil)) 112 ⟨49,[6]⟩ (.node (.node .nil 113 ⟨5,[]⟩ .nil) 114 ⟨140,[]⟩ (.node .nil 115 ⟨42,[]⟩ .nil))) 116 ⟨44,[]⟩ (.node (.node (.node .nil 117 ⟨13,[]⟩ .nil) 118 ⟨35,[]⟩ (.node .nil 119 ⟨5,[]⟩ .nil)) 120 ⟨5,[]⟩ (.node (.node .nil 121 ⟨5,[]⟩ .nil) 122 ⟨5,[]⟩ .nil)))))) 123 ⟨5,[]⟩ (.node (.node (.node (.node (.node (.node (.node .nil 124 ⟨15,[]⟩ .nil) 125 ⟨20,[]⟩ (.node .nil 126 ⟨45,[6,11]⟩ .nil)) 127 ⟨12,[]⟩ (.node (.node .nil 128 ⟨5,[]⟩ .nil) 129 ⟨5,[]⟩ (.node .nil 131 ⟨3,[]⟩ .nil))) 132 ⟨78,[]⟩ (.node (.node (.node .nil 133 ⟨44,[]⟩ .nil) 134 ⟨25,[]⟩ (.node .nil 135 ⟨5,[]⟩ .nil)) 136 ⟨3,[]⟩ (.node (.node .nil 137 ⟨40,[]⟩ .nil) 138 ⟨33,[]⟩ .nil))) 139 ⟨67,[]⟩ (.node (.node (.node (.node .nil 140 ⟨35,[]⟩ .nil) 141 ⟨5,[]⟩ (.node .nil 142 ⟨4,[]⟩ .nil)) 143 ⟨162,[7,8,9,10,17,18,23]⟩ (.node (.node .nil 144 ⟨95,[]⟩ .nil) 146 ⟨126,[]⟩ (.node .nil 147 ⟨3,[]⟩ .nil))) 148 ⟨3,[]⟩ (.node (.node (.node .nil 150 ⟨31,[]⟩ .nil) 151 ⟨7,[]⟩ (.node .nil 152 ⟨11,[]⟩ .nil)) 154 ⟨15,[]⟩ (.node (.node .nil 155 ⟨70,[]⟩ .nil) 156 ⟨5,[1]⟩ .nil)))) 157 ⟨5,[1]⟩ (.node (.node (.node (.node (.node .nil 158 ⟨7,[]⟩ .nil) 159 ⟨7,[]⟩ (.node .nil 160 ⟨3,[]⟩ .nil)) 161 ⟨15,[]⟩ (.node (.node .nil 162 ⟨4,[]⟩ .nil) 163 ⟨3,[]⟩ (.node .nil 164 ⟨3,[]⟩ .nil))) 165 ⟨35,[6]⟩ (.node (.node (.node .nil 166 ⟨34,[10]⟩ .nil) 167 ⟨46,[10]⟩ (.node .nil 168 ⟨61,[]⟩ .nil)) 169 ⟨16,[3]⟩ (.node (.node .nil 170 ⟨125,[11,17,23]⟩ .nil) 171 ⟨71,[1,8]⟩ .nil))) 172 ⟨145,[1,8,10,18,21]⟩ (.node (.node (.node (.node .nil 173 ⟨9,[]⟩ .nil) 174 ⟨99,[]⟩ (.node .nil 175 ⟨170,[]⟩ .nil)) 176 ⟨7,[]⟩ (.node (.node .nil 177 ⟨3,[]⟩ .nil) 178 ⟨5,[]⟩ (.node .nil 179 ⟨5,[]⟩ .nil))) 180 ⟨59,[6]⟩ (.node (.node (.node .nil 181 ⟨3,[]⟩ .nil) 182 ⟨3,[]⟩ (.node .nil 183 ⟨9,[]⟩ .nil)) 184 ⟨13,[]⟩ (.node (.node .nil 185 ⟨3,[]⟩ .nil) 186 ⟨92,[]⟩ .nil))))) 187 ⟨23,[]⟩ (.node (.node (.node (.node (.node (.node .nil 204 ⟨5,[]⟩ .nil) 205 ⟨5,[]⟩ (.node .nil 206 ⟨26,[]⟩ .nil)) 207 ⟨5,[]⟩ (.node (.node .nil 208 ⟨5,[]⟩ .nil) 209 ⟨5,[]⟩ (.node .nil 210 ⟨5,[]⟩ .nil))) 211 ⟨12,[]⟩ (.node (.node (.node .nil 212 ⟨7,[]⟩ .nil) 213 ⟨3,[]⟩ (.node .nil 214 ⟨3,[]⟩ .nil)) 215 ⟨3,[]⟩ (.node (.node .nil 216 ⟨3,[]⟩ .nil) 217 ⟨11,[]⟩ .nil))) 218 ⟨3,[]⟩ (.node (.node (.node (.node .nil 219 ⟨6,[]⟩ .nil) 220 ⟨13,[]⟩ (.node .nil 221 ⟨5,[]⟩ .nil)) 222 ⟨3,[]⟩ (.node (.node .nil 223 ⟨7,[]⟩ .nil) 224 ⟨5,[]⟩ (.node .nil 225 ⟨5,[]⟩ .nil))) 226 ⟨7,[]⟩ (.node (.node (.node .nil 227 ⟨5,[]⟩ .nil) 228 ⟨3,[]⟩ (.node .nil 229 ⟨10,[]⟩ .nil)) 230 ⟨5,[]⟩ (.node (.node .nil 231 ⟨3,[]⟩ .nil) 232 ⟨5,[]⟩ .nil)))) 233 ⟨4,[]⟩ (.node (.node (.node (.node (.node .nil 234 ⟨5,[]⟩ .nil) 235 ⟨7,[]⟩ (.node .nil 236 ⟨5,[]⟩ .nil)) 237 ⟨3,[]⟩ (.node (.node .nil 238 ⟨18,[]⟩ .nil) 239 ⟨4,[]⟩ (.node .nil 240 ⟨5,[]⟩ .nil))) 241 ⟨3,[]⟩ (.node (.node (.node .nil 242 ⟨5,[]⟩ .nil) 243 ⟨3,[]⟩ (.node .nil 244 ⟨16,[]⟩ .nil)) 245 ⟨29,[]⟩ (.node (.node .nil 246 ⟨4,[]⟩ .nil) 247 ⟨3,[]⟩ .nil))) 248 ⟨114,[]⟩ (.node (.node (.node (.node .nil 249 ⟨31,[6]⟩ .nil) 250 ⟨31,[10]⟩ (.node .nil 251 ⟨44,[10]⟩ .nil)) 252 ⟨55,[]⟩ (.node (.node .nil 253 ⟨14,[3]⟩ .nil) 254 ⟨117,[11,17,23]⟩ .nil)) 255 ⟨5,[]⟩ (.node (.node (.node .nil 257 ⟨135,[1,8,10,18,21]⟩ .nil) 258 ⟨53,[3,6]⟩ (.node .nil 259 ⟨7,[]⟩ .nil)) 260 ⟨11,[]⟩ (.node (.node .nil 261 ⟨19,[]⟩ .nil) 275 ⟨0,[]⟩ .nil))))))
theorem howKT_ok:howKT.all (fnX Tryz.prog)=true:=by kernel_rfl
def methKL : List MeRow := [⟨131, "examboard/blueprint.broken", 207, some (4, 0, 3)⟩, ⟨131, "examboard/blueprint.check", 212, none⟩, ⟨131, "examboard/blueprint.exceeded", 208, some (4, 0, 3)⟩, ⟨131, "examboard/blueprint.line", 213, none⟩, ⟨131, "examboard/blueprint.rows", 209, some (4, 0, 3)⟩, ⟨133, "examboard/blueprint.broken", 207, some (3, 0, 3)⟩, ⟨133, "examboard/blueprint.check", 206, some (3, 0, 2)⟩, ⟨133, "examboard/blueprint.exceeded", 208, some (3, 0, 3)⟩, ⟨133, "examboard/blueprint.line", 214, none⟩, ⟨133, "examboard/blueprint.rows", 209, some (3, 0, 3)⟩, ⟨134, "examboard/blueprint.broken", 207, some (3, 0, 3)⟩, ⟨134, "examboard/blueprint.check", 206, some (3, 0, 2)⟩, ⟨134, "examboard/blueprint.exceeded", 208, some (3, 0, 3)⟩, ⟨134, "examboard/blueprint.line", 215, none⟩, ⟨134, "examboard/blueprint.rows", 209, some (3, 0, 3)⟩, ⟨135, "examboard/blueprint.broken", 207, some (3, 0, 3)⟩, ⟨135, "examboard/blueprint.check", 206, some (3, 0, 2)⟩, ⟨135, "examboard/blueprint.exceeded", 208, some (3, 0, 3)⟩, ⟨135, "examboard/blueprint.line", 216, none⟩, ⟨135, "examboard/blueprint.rows", 209, some (3, 0, 3)⟩, ⟨137, "examboard/blueprint.broken", 207, some (4, 0, 3)⟩, ⟨137, "examboard/blueprint.check", 217, none⟩, ⟨137, "examboard/blueprint.exceeded", 208, some (4, 0, 3)⟩, ⟨137, "examboard/blueprint.line", 218, none⟩, ⟨137, "examboard/blueprint.rows", 209, some (4, 0, 3)⟩, ⟨139, "examboard/blueprint.broken", 219, none⟩, ⟨139, "examboard/blueprint.check", 220, none⟩, ⟨139, "examboard/blueprint.exceeded", 221, none⟩, ⟨139, "examboard/blueprint.line", 222, none⟩, ⟨139, "examboard/blueprint.rows", 223, none⟩, ⟨141, "examboard/blueprint.broken", 225, none⟩, ⟨141, "examboard/blueprint.check", 226, none⟩, ⟨141, "examboard/blueprint.exceeded", 227, none⟩, ⟨141, "examboard/blueprint.line", 228, none⟩, ⟨141, "examboard/blueprint.rows", 229, none⟩, ⟨142, "examboard/blueprint.broken", 234, none⟩, ⟨142, "examboard/blueprint.check", 235, none⟩, ⟨142, "examboard/blueprint.exceeded", 236, none⟩, ⟨142, "examboard/blueprint.line", 237, none⟩, ⟨142, "examboard/blueprint.rows", 238, none⟩, ⟨144, "examboard/blueprint.broken", 240, none⟩, ⟨144, "examboard/blueprint.check", 241, none⟩, ⟨144, "examboard/blueprint.exceeded", 242, none⟩, ⟨144, "examboard/blueprint.line", 243, none⟩, ⟨144, "examboard/blueprint.rows", 244, none⟩]
theorem methKL_ok:∀p∈methKL,MeE Tryz.prog p:=List.forall_mem_cons.2 ⟨meP4 (fun _ _ _ _ _=>by kernel_rfl),List.forall_mem_cons.2 ⟨meW (fun _ _ _=>by kernel_rfl),List.forall_mem_cons.2 ⟨meP4 (fun _ _ _ _ _=>by kernel_rfl),List.forall_mem_cons.2 ⟨meW (fun _ _ _=>by kernel_rfl),List.forall_mem_cons.2 ⟨meP4 (fun _ _ _ _ _=>by kernel_rfl),List.forall_mem_cons.2 ⟨meP3 (fun _ _ _ _=>by kernel_rfl),List.forall_mem_cons.2 ⟨meP3 (fun _ _ _ _=>by kernel_rfl),List.forall_mem_cons.2 ⟨meP3 (fun _ _ _ _=>by kernel_rfl),List.forall_mem_cons.2 ⟨meW (fun _ _ _=>by kernel_rfl),List.forall_mem_cons.2 ⟨meP3 (fun _ _ _ _=>by kernel_rfl),List.forall_mem_cons.2 ⟨meP3 (fun _ _ _ _=>by kernel_rfl),List.forall_mem_cons.2 ⟨meP3 (fun _ _ _ _=>by kernel_rfl),List.forall_mem_cons.2 ⟨meP3 (fun _ _ _ _=>by kernel_rfl),List.forall_mem_cons.2 ⟨meW (fun _ _ _=>by kernel_rfl),List.forall_mem_cons.2 ⟨meP3 (fun _ _ _ _=>by kernel_rfl),List.forall_mem_cons.2 ⟨meP3 (fun _ _ _ _=>by kernel_rfl),List.forall_mem_cons.2 ⟨meP3 (fun _ _ _ _=>by kernel_rfl),List.forall_mem_cons.2 ⟨meP3 (fun _ _ _ _=>by kernel_rfl),List.forall_mem_cons.2 ⟨meW (fun _ _ _=>by kernel_rfl),List.forall_mem_cons.2 ⟨meP3 (fun _ _ _ _=>by kernel_rfl),List.forall_mem_cons.2 ⟨meP4 (fun _ _ _ _ _=>by kernel_rfl),List.forall_mem_cons.2 ⟨meW (fun _ _ _=>by kernel_rfl),List.forall_mem_cons.2 ⟨meP4 (fun _ _ _ _ _=>by kernel_rfl),List.forall_mem_cons.2 ⟨meW (fun _ _ _=>by kernel_rfl),List.forall_mem_cons.2 ⟨meP4 (fun _ _ _ _ _=>by kernel_rfl),List.forall_mem_cons.2 ⟨meW (fun _ _ _=>by kernel_rfl),List.forall_mem_cons.2 ⟨meW (fun _ _ _=>by kernel_rfl),List.forall_mem_cons.2 ⟨meW (fun _ _ _=>by kernel_rfl),List.forall_mem_cons.2 ⟨meW (fun _ _ _=>by kernel_rfl),List.forall_mem_cons.2 ⟨meW (fun _ _ _=>by kernel_rfl),List.forall_mem_cons.2 ⟨meW (fun _ _ _=>by kernel_rfl),List.forall_mem_cons.2 ⟨meW (fun _ _ _=>by kernel_rfl),List.forall_mem_cons.2 ⟨meW (fun _ _ _=>by kernel_rfl),List.forall_mem_cons.2 ⟨meW (fun _ _ _=>by kernel_rfl),List.forall_mem_cons.2 ⟨meW (fun _ _ _=>by kernel_rfl),List.forall_mem_cons.2 ⟨meW (fun _ _ _=>by kernel_rfl),List.forall_mem_cons.2 ⟨meW (fun _ _ _=>by kernel_rfl),List.forall_mem_cons.2 ⟨meW (fun _ _ _=>by kernel_rfl),List.forall_mem_cons.2 ⟨meW (fun _ _ _=>by kernel_rfl),List.forall_mem_cons.2 ⟨meW (fun _ _ _=>by kernel_rfl),List.forall_mem_cons.2 ⟨meW (fun _ _ _=>by kernel_rfl),List.forall_mem_cons.2 ⟨meW (fun _ _ _=>by kernel_rfl),List.forall_mem_cons.2 ⟨meW (fun _ _ _=>by kernel_rfl),List.forall_mem_cons.2 ⟨meW (fun _ _ _=>by kernel_rfl),List.forall_mem_cons.2 ⟨meW (fun _ _ _=>by kernel_rfl),fun _ h=>absurd h List.not_mem_nil⟩⟩⟩⟩⟩⟩⟩⟩⟩⟩⟩⟩⟩⟩⟩⟩⟩⟩⟩⟩⟩⟩⟩⟩⟩⟩⟩⟩⟩⟩⟩⟩⟩⟩⟩⟩⟩⟩⟩⟩⟩⟩⟩⟩⟩
def ifKL:List Nat:=[20,66,67,73,74]
theorem ifKL_ok:ifKL.all (ifTyB Tryz.prog)=true:=by kernel_rfl
def stKL:List Nat:=[7,8,77,78,101,102,124,125,140,141,142,236,237,241,242]
theorem stKL_ok:stKL.all (eqTyB Tryz.prog)=true:=by kernel_rfl
end Go.Proofs.YtcaahphghaddgaaGreatDoor
set_option linter.unusedSimpArgs false
set_option linter.unusedVariables false
namespace Go.Proofs.YtcaahphghaddgaaGreatDoor
open Go.RowKit Lim
noncomputable section
section
variable {w:World} {Z:Zone}
theorem krow_rep {α:Type} (f:α→Value) (h1:∀x,(f x).oneCell'=true) (l:List α) {b off c:Nat} (hb:b<w.heap.size) (hc:l.length≤c) (hcell:∀j (hj:j<l.length),w.cell? ⟨b,off+j,none⟩=some (f l[j])∧Z b (off+j)):Rep w Z (.sl 1 (l.map fun x=>AV.lit (f x))) (.slice (some ⟨b,off,none⟩) l.length c):=by
 have:Rep w Z (.sl 1 (l.map fun x=>AV.lit (f x))) (.slice (some ⟨b,off,none⟩) (l.map fun x=>AV.lit (f x)).length c):=by
  refine .sl (fun i _=>if h:i<l.length then f l[i] else undef) hb (by simpa using hc) (fun i hi=>by simp [AV.cells]) (fun i j hi hj=>?_) (fun i hi j hj=>?_)
  ·have hi':i<l.length:=by simpa using hi
   have:j=0:=by omega
   subst this
   simp only [hi',dif_pos,Nat.mul_one,Nat.add_zero]
   exact hcell i hi'
  ·have hi':i<l.length:=by simpa using hi
   have hj':j=0:=by simp [AV.cells]at hj;exact hj
   subst hj'
   simp only [hi',dif_pos]
   simp only [List.getElem_map,AV.cells,List.getElem_cons_zero]
   exact .lit (h1 _)
 simpa using this
end
def consK (b:UInt8):List (List UInt8)→List (List UInt8)
 | []=>[[b]]
 | x :: r=>(b :: x) :: r
def splK (c:UInt8):List UInt8→List (List UInt8)
 | []=>[[]]
 | b :: l=>bif b == c then [] :: splK c l else consK b (splK c l)
theorem splK_ne (c:UInt8):∀s,splK c s≠[]
 | []=>by simp [splK]
 | b :: l=>by
  unfold splK
  cases b == c with
  | true=>simp
  | false=>cases h:splK c l <;> simp [consK]
theorem splitK_splK (c:UInt8):∀s:List UInt8,Lib.splitK [c] 0 (s.count c) s=splK c s
 | []=>rfl
 | b :: l=>by
  have ih:=splitK_splK c l
  by_cases h:b=c
  ·subst h
   have hix:Lib.index (b :: l) [b]=0:=by rw [Lib.index];simp [List.isPrefixOf]
   rw [List.count_cons_self,Lib.splitK,hix]
   simp only [splK,beq_self_eq_true,cond_true]
   rw [←ih]
   simp
  ·have hp:([c]:List UInt8).isPrefixOf (b :: l)=false:=by simp [List.isPrefixOf,Ne.symm h]
   have hix:Lib.index (b :: l) [c]=if Lib.index l [c] == -1 then -1 else Lib.index l [c]+1:=by rw [Lib.index,hp];simp
   have hge:=Lib.index_ge l [c]
   have hbc:(b == c)=false:=by simpa using h
   rw [List.count_cons_of_ne (by simpa using h)]
   simp only [splK,hbc,cond_false]
   rw [←ih]
   cases hk:l.count c with
   | zero=>rfl
   | succ k =>
    simp only [Lib.splitK,hix]
    by_cases hm:Lib.index l [c] = -1
    ·simp [hm,consK]
    ·have e1:(Lib.index l [c] == -1)=false:=by simpa using hm
     have e2:(Lib.index l [c]+1 == -1)=false:=by simp;omega
     have e3:(Lib.index l [c]+1).toNat=(Lib.index l [c]).toNat+1:=by omega
     simp only [e1,e2,e3,Bool.false_eq_true,if_false,Nat.add_zero,List.length_cons,List.length_nil,consK,List.take_succ_cons,Nat.zero_add,List.drop_succ_cons]
theorem splK_len (c:UInt8):∀s:List UInt8,(splK c s).length=s.count c+1
 | []=>rfl
 | b :: l=>by
  have ih:=splK_len c l
  by_cases h:b=c
  ·subst h;simp [splK,ih]
  ·have hbc:(b == c)=false:=by simpa using h
   rw [List.count_cons_of_ne (by simpa using h)]
   simp only [splK,hbc,cond_false]
   cases hh:splK c l with
   | nil=>exact absurd hh (splK_ne c l)
   | cons x r=>rw [hh]at ih;simpa [consK]using ih
abbrev strsA (L:List (List UInt8)):AV:=.sl 1 (L.map (fun x=>.lit (.string (bs x))))
theorem split_k (s:List UInt8) (c:UInt8) (hs:s.length<4294967281):AT 93 [str s,str [c]] (strsA (splK c s)):=by
 refine ⟨by exact ⟨Tryz.f93,Tryz.func93,by kernel_rfl,rfl⟩,fun w Z vs hE hz _ hr=>?_⟩
 obtain ⟨_,_,rfl,h1,h2⟩:=reps2 hr
 have hE:Env w:=hE
 obtain ⟨m,hm⟩:=hE.mx
 rw [h1.lit_eq,h2.lit_eq]
 have hd:=Lib.splitB_data (bs [c]) 0 (Lib.countB (bs s) (bs [c])) (bs s)
 have hcount:Lib.countB (bs s) (bs [c])=s.count c:=Lib.count_one c s
 have hd2:Lib.splitK (bs [c]).data.toList 0 (Lib.countB (bs s) (bs [c])) (bs s).data.toList=splK c s:=by rw [hcount];exact splitK_splK c s
 rw [hd2]at hd
 have hsp:Lib.splitB (bs [c]) 0 (Lib.countB (bs s) (bs [c])) (bs s)=(splK c s).map bs:=by
  rw [←hd,List.map_map]
  have:(bs ∘ fun x:ByteArray=>x.data.toList)=id:=by funext x;rfl
  rw [this,List.map_id]
 have hl:=splK_len c s
 refine (Tryz.strings_Split (bs s) (bs [c]) m w (by rw [bs_size];exact hs) hm (by rw [bs_size];exact Nat.le_refl 1)).mono ?_
 rintro e w' ⟨rfl,rfl⟩
 rw [hcount]at hsp
 rw [hcount,hsp,←hl]
 have hbel:Below w.heap.size w (w.alloc (.cells (((splK c s).map bs).map Value.string).toArray 9)):=Below.alloc (Below.refl _ _) (Nat.le_refl _) _
 refine ⟨_,rfl,hbel,?_⟩
 refine krow_rep (fun x:List UInt8=>Value.string (bs x)) (fun _=>rfl) (splK c s) (by rw [World.size_alloc];exact Nat.lt_succ_self _) (Nat.le_refl _) fun j hj=>⟨?_,.inr ⟨Nat.le_refl _,by rw [World.size_alloc];exact Nat.lt_succ_self _⟩⟩
 have hblk:(w.alloc (.cells (((splK c s).map bs).map Value.string).toArray 9)).heap[w.heap.size]? = some (.cells (((splK c s).map bs).map Value.string).toArray 9):=heap_alloc_new w _
 simp only [World.cell?,hblk,Nat.zero_add]
 simp [hj]
theorem cut_k (s p:List UInt8) (hs:s.length<4294967281):AT 55 [str s,str p] (.tup [str (Lib.cut s p).1,str (Lib.cut s p).2.1,boo (Lib.cut s p).2.2]):=by
 refine ⟨by exact ⟨Tryz.f55,Tryz.func55,by kernel_rfl,rfl⟩,fun w Z vs hE hz _ hr=>?_⟩
 obtain ⟨_,_,rfl,h1,h2⟩:=reps2 hr
 have hE:Env w:=hE
 rw [h1.lit_eq,h2.lit_eq]
 obtain ⟨m,hm⟩:=hE.mx
 refine (Tryz.strings_Cut (bs s) (bs p) m w (by rw [bs_size];exact hs) hm).mono ?_
 rintro e w' ⟨rfl,n,rfl⟩
 rw [bs_list,bs_list]
 exact ⟨_,rfl,below_drewN (Below.refl _ _) n,rept3 (.lit rfl) (.lit rfl) (.lit rfl)⟩
theorem bs_data (b:ByteArray):bs b.data.toList=b:=by simp [bs]
def kCut:List AV→Option AV
 | [.lit (.string s),.lit (.string p)]=>bif Nat.blt (sizeQ s) 4294967281 then some (.tup [str (Lib.cut s.data.toList p.data.toList).1,str (Lib.cut s.data.toList p.data.toList).2.1,boo (Lib.cut s.data.toList p.data.toList).2.2]) else none
 | _=>none
theorem kCut_ok {args:List AV} {r:AV} (h:kCut args=some r):AT 55 args r:=by
 unfold kCut at h
 split at h
 ·rename_i s p
  obtain ⟨h1,h2⟩:=kif h
  cases h2
  have:=cut_k s.data.toList p.data.toList (kblt h1)
  rw [str,str,bs_data,bs_data]at this
  exact this
 ·cases h
def kSplit:List AV→Option AV
 | [.lit (.string s),.lit (.string ⟨⟨[c]⟩⟩)]=>bif Nat.blt (sizeQ s) 4294967281 then some (strsA (splK c s.data.toList)) else none
 | _=>none
theorem kSplit_ok {args:List AV} {r:AV} (h:kSplit args=some r):AT 93 args r:=by
 unfold kSplit at h
 split at h
 ·rename_i s c
  obtain ⟨h1,h2⟩:=kif h
  cases h2
  have:=split_k s.data.toList c (kblt h1)
  rw [str,bs_data]at this
  exact this
 ·cases h
section
variable {w:World} {Z:Zone}
theorem krow_of {α:Type} (f:α→Value) {l:List α} {v:Value} (h:Rep w Z (.sl 1 (l.map fun x=>AV.lit (f x))) v) :
  (l=[]∧∃A c,v=.slice A 0 c)∨∃b off c,v=.slice (some ⟨b,off,none⟩) l.length c∧b<w.heap.size∧l.length≤c∧∀j (hj:j<l.length),w.cell? ⟨b,off+j,none⟩=some (f l[j]):=by
 generalize he:(l.map fun x=>AV.lit (f x))=es at h
 cases h with
 | nil=>exact .inl ⟨by simpa using he,_,_,rfl⟩
 | sl vs hb hc hk hm hr =>
  right
  have hlen:es.length=l.length:=by rw [←he];simp
  refine ⟨_,_,_,by rw [hlen],hb,by omega,fun j hj=>?_⟩
  have hj':j<es.length:=by omega
  have e1:es[j]'hj'=.lit (f l[j]):=by simp [←he]
  have hcl:(es[j]'hj').cells.length=1:=hk j hj'
  have h2:=(hm j 0 hj' (by omega)).1
  have h3:=hr j hj' 0 (by omega)
  have e2:(es[j]'hj').cells[0]'(by omega)=.lit (f l[j]):=by simp [e1,AV.cells]
  rw [e2]at h3
  rw [h3.lit_eq]at h2
  simpa using h2
end
def kdecF:Nat→Nat→List UInt8
 | 0,_=>[]
 | k+1,u=>bif Nat.blt u 10 then [UInt8.ofNat (48+u)] else kdecF k (u / 10) ++ [UInt8.ofNat (48+u % 10)]
theorem kdecF_eq:∀(k n:Nat),n<2 ^ k→0<k→kdecF k n=Lib.decDigits n
 | 0,_,_,h=>by cases h
 | k+1,n,h,_=>by
  simp only [kdecF]
  cases hb:Nat.blt n 10 with
  | true =>
   have hlt:n<10:=kblt hb
   rw [Lib.decDigits,dif_pos hlt];rfl
  | false =>
   have hlt:¬n<10:=fun hh=>by
    have:Nat.blt n 10=true:=Nat.ble_eq_true_of_le hh
    rw [hb]at this;cases this
   have hk:0<k:=by cases k with|zero=>simp at h;omega|succ=>omega
   rw [cond_false,Lib.decDigits,dif_neg hlt,kdecF_eq k (n / 10) (by rw [Nat.pow_succ]at h;omega) hk]
def kdec (u:Nat):List UInt8:=kdecF (Nat.log2 u+1) u
theorem kdec_eq (n:Nat):kdec n=Lib.decDigits n:=kdecF_eq _ _ Nat.lt_log2_self (Nat.succ_pos _)
def kitoa (z:Int):List UInt8:=bif decide (z<0) then 45 :: kdec z.natAbs else kdec z.toNat
theorem kitoa_eq (z:Int):kitoa z=Lib.itoa z:=by
 unfold kitoa Lib.itoa
 simp only [kdec_eq]
 by_cases h:z<0 <;> simp [h]
theorem itoa_k (n:Int) (h:-9223372036854775808≤n∧n≤9223372036854775807):AT 66 [i64 n] (str (Lib.itoa n)):=by
 refine ⟨by exact ⟨Tryz.f66,Tryz.func66,by kernel_rfl,rfl⟩,fun w Z vs hE hz _ hr=>?_⟩
 obtain ⟨_,rfl,h1⟩:=reps1 hr
 have hE:Env w:=hE
 rw [h1.lit_eq]
 refine (Tryz.strconv_Itoa n h.1 h.2 w hE.tab).mono ?_
 rintro e w' ⟨rfl,k,os,rfl⟩
 exact ⟨_,rfl,Lib.below_grow _ w (Nat.le_refl _) k os,.lit rfl⟩
theorem join_k (L:List (List UInt8)) (p:List UInt8) (h0:L≠[]) (hl:L.length≤140737488355328) (hj:(Lib.join L p).length≤140737488355328):AT 67 [strsA L,str p] (str (Lib.join L p)):=by
 refine ⟨by exact ⟨Tryz.f67,Tryz.func67,by kernel_rfl,rfl⟩,fun w Z vs hE hz _ hr=>?_⟩
 obtain ⟨_,_,rfl,h1,h2⟩:=reps2 hr
 rw [h2.lit_eq]
 rcases krow_of (fun x:List UInt8=>Value.string (bs x)) h1 with ⟨rfl,A,c,rfl⟩|⟨b,off,c,rfl,hb,hc,hcell⟩
 ·exact absurd rfl h0
 ·have em:(L.map bs).map (fun x:ByteArray=>x.data.toList)=L:=by
   rw [List.map_map]
   have:((fun x:ByteArray=>x.data.toList) ∘ bs)=id:=by funext x;rfl
   rw [this,List.map_id]
  have hJ:=Tryz.strings_Join b off c (L.map bs) (bs p) w (fun j x hx=>by
   rw [List.getElem?_map,Option.map_eq_some_iff]at hx
   obtain ⟨y,hy,rfl⟩:=hx
   obtain ⟨hj,rfl⟩:=List.getElem?_eq_some_iff.1 hy
   exact hcell j hj) hb (by simpa using hl) (by simpa using hc) (by rw [em];exact hj)
  rw [em,List.length_map]at hJ
  refine hJ.mono ?_
  rintro e w' ⟨rfl,hb⟩
  exact ⟨_,rfl,hb,.lit rfl⟩
def kItoa:List AV→Option AV
 | [.lit (.int .i64 z)]=>bif decide (-9223372036854775808≤z) && decide (z≤9223372036854775807) then some (str (kitoa z)) else none
 | _=>none
theorem kItoa_ok {args:List AV} {r:AV} (h:kItoa args=some r):AT 66 args r:=by
 unfold kItoa at h
 split at h
 ·rename_i z
  obtain ⟨h1,h2⟩:=kif h
  obtain ⟨h1,h3⟩:=kand h1
  cases h2
  rw [kitoa_eq]
  exact itoa_k z ⟨of_decide_eq_true h1,of_decide_eq_true h3⟩
 ·cases h
def kstrs:List AV→Option (List (List UInt8))
 | []=>some []
 | .lit (.string s) :: l=>(kstrs l).map fun m=>s.data.toList :: m
 | _=>none
theorem kstrs_some:∀{es:List AV} {L:List (List UInt8)},kstrs es=some L→es=L.map fun x=>.lit (.string (bs x))
 | [],L,h=>by cases h;rfl
 | a :: es,L,h=>by
  unfold kstrs at h
  split at h
  ·rename_i heq;cases heq
  ·rename_i s es' heq
   cases heq
   obtain ⟨m,h1,rfl⟩:=Option.map_eq_some_iff.1 h
   rw [List.map_cons,←kstrs_some h1,bs_data]
  ·cases h
def kJoin:List AV→Option AV
 | [.sl 1 es,.lit (.string p)]=>(kstrs es).bind fun L=>match L with
  | []=>none
  | x :: L=>bif Nat.ble (x :: L).length 140737488355328 && Nat.ble (Lib.join (x :: L) p.data.toList).length 140737488355328 then some (str (Lib.join (x :: L) p.data.toList)) else none
 | _=>none
theorem kJoin_ok {args:List AV} {r:AV} (h:kJoin args=some r):AT 67 args r:=by
 unfold kJoin at h
 split at h
 ·rename_i es p
  obtain ⟨L,h1,h⟩:=kbind h
  split at h
  ·cases h
  ·rename_i x L
   obtain ⟨h2,h⟩:=kif h
   obtain ⟨h2,h3⟩:=kand h2
   cases h
   have:=join_k (x :: L) p.data.toList (by simp) (Nat.le_of_ble_eq_true h2) (Nat.le_of_ble_eq_true h3)
   rw [kstrs_some h1]
   rw [str,bs_data]at this
   exact this
 ·cases h
end
end Go.Proofs.YtcaahphghaddgaaGreatDoor
set_option linter.unusedSimpArgs false
set_option linter.unusedVariables false
namespace Go.Proofs.YtcaahphghaddgaaGreatDoor
open Go.RowKit Lim
noncomputable section
noncomputable def ctxK:Ctx:=⟨Tryz.prog,tabKT.get,Env,EBl,true,fun _ _ h=>tiB_sound (KTree.all_get tabKT_ok h),ctx.hE,ctx.hEB,ctx.hG,ctx.hm⟩
def meQ (t:TypeId) (name:String) (a:AV):Option (FuncId × AV):=(meth methKL t name).bind fun p=>(p.2 a).map fun a'=>(p.1,a')
abbrev PrimK:=List AV→Option AV
def primKL:List (Nat × PrimK):=[(55,kCut),(93,kSplit),(66,kItoa),(67,kJoin)]
theorem primKL_ok:∀p∈primKL,∀args r,p.2 args=some r→AT p.1 args r :=
 List.forall_mem_cons.2 ⟨fun _ _=>kCut_ok,List.forall_mem_cons.2 ⟨fun _ _=>kSplit_ok,List.forall_mem_cons.2 ⟨fun _ _=>kItoa_ok,List.forall_mem_cons.2 ⟨fun _ _=>kJoin_ok,fun _ h=>absurd h List.not_mem_nil⟩⟩⟩⟩
def lkP:List (Nat × PrimK)→Nat→Option PrimK
 | [],_=>none
 | p :: l,x=>bif Nat.beq x p.1 then some p.2 else lkP l x
theorem lkP_mem:∀{l:List (Nat × PrimK)} {x:Nat} {p:PrimK},lkP l x=some p→(x,p)∈l
 | [],_,_,h=>by cases h
 | (k,q) :: l,x,p,h=>by
  unfold lkP at h
  cases hb:Nat.beq x k with
  | true=>rw [hb]at h;cases h;rw [kbeq hb];exact List.mem_cons_self
  | false=>rw [hb]at h;exact List.mem_cons_of_mem _ (lkP_mem h)
noncomputable def kw (F:Nat):KW:=⟨tabKT.get,Tryz.prog.funcs,howKT.get,meQ,eqTab tabKT.get ifKL stKL,lkP primKL,F⟩
theorem kw_ok {F:Nat}:KWOK ctxK (kw F) :=
 ⟨rfl,rfl,fun t name a f a' h=>by
  obtain ⟨p,h1,h2⟩:=kbind h
  obtain ⟨b,h3,h4⟩:=Option.map_eq_some_iff.1 h2
  cases h4
  exact meth_some methKL_ok h1 a _ h3,
 fun _ _ _ _ _ _ _ h=>eqTab_ok (C:=ctxK) ifKL_ok stKL_ok h,
 fun f h fn c h1 h2 h3=>fnX_of (KTree.all_get howKT_ok h1) h2 h3,
 fun f p args r h1 h2=>primKL_ok _ (lkP_mem h1) args r h2⟩
noncomputable abbrev KR (n:Nat):FuncId→List AV→Option AV:=kask (kw 1000000) n
theorem KR_calls {n:Nat} {f:FuncId} {args:List AV} {r:AV} (h:KR n f args=some r):AT f args r:=kask_sound (C:=ctxK) kw_ok n f args r h
end
end Go.Proofs.YtcaahphghaddgaaGreatDoor
set_option linter.unusedSimpArgs false
set_option linter.unusedVariables false
namespace Go.Proofs.YtcaahphghaddgaaGreatDoor
open Go.RowKit Lim
noncomputable section
def kstr1:AV→Option (List UInt8)
 | .lit (.string s)=>some s.data.toList
 | _=>none
theorem kstr1_some:∀{a:AV} {l:List UInt8},kstr1 a=some l→a=str l
 | .lit (.string s),l,h=>by cases h;rw [str,bs_data]
def kzero:AV→Bool
 | .lit (.int .i64 z)=>z == 0
 | _=>false
theorem kzero_of {a:AV} (h:kzero a=true):a=i64 0:=by
 unfold kzero at h
 split at h
 ·rw [eq_of_beq h]
 ·cases h
def kLines (n:Nat):List AV→Option (List (List UInt8))
 | []=>some []
 | .ifc ty a :: ds => (meQ ty "examboard/blueprint.line" a).bind fun p => (KR n p.1 [p.2]).bind fun r => (kstr1 r).bind fun l => (kLines n ds).map fun ls => l :: ls
 | _=>none
theorem kLines_ok {n : Nat} : ∀ {ds : List AV} {ls : List (List UInt8)}, kLines n ds = some ls → ls.length = ds.length ∧ (∀ d ∈ ds, d.one = true) ∧ ∀ i (hi : i < ds.length), ∃ ty a a' f l, ds[i]'hi = .ifc ty a ∧ ls[i]? = some l ∧ Meth Tryz.prog ty "examboard/blueprint.line" a f a' ∧ AT f [a'] (str l) := by
 intro ds
 induction ds with
 | nil=>intro ls h;cases h;exact ⟨rfl,fun d hd=>absurd hd List.not_mem_nil,fun i hi=>absurd hi (Nat.not_lt_zero _)⟩
 | cons d ds ih =>
  intro ls h
  unfold kLines at h
  split at h
  ·rename_i e1;cases e1
  ·rename_i ty a ds' e1
   cases e1
   obtain ⟨p,h1,h⟩:=kbind h
   obtain ⟨r,h2,h⟩:=kbind h
   obtain ⟨l,h3,h⟩:=kbind h
   obtain ⟨ls',h4,rfl⟩:=Option.map_eq_some_iff.1 h
   obtain ⟨q1,q2,q3⟩:=ih h4
   have hat:=KR_calls h2
   rw [kstr1_some h3]at hat
   refine ⟨by rw [List.length_cons,List.length_cons,q1],fun d hd=>?_,fun i hi=>?_⟩
   ·rcases List.mem_cons.1 hd with rfl|hd
    ·rfl
    ·exact q2 d hd
   ·match i with
    | 0=>exact ⟨ty,a,p.2,p.1,l,rfl,rfl,(kw_ok (F:=0)).me ty _ a p.1 p.2 h1,hat⟩
    | i+1 =>
     obtain ⟨ty,a,a',f,l,g⟩:=q3 i (Nat.lt_of_succ_lt_succ hi)
     exact ⟨ty,a,a',f,l,g⟩
  ·cases h
def kPrint (n:Nat):List AV→Option AV
 | [.agg [.lit (.int .i64 L),.sl k rs]] =>
  (KR n 12 [.agg [.lit (.int .i64 L),.sl k rs]]).bind fun v =>
   bif kzero v then
    (KR n 32 [str [108,101,110,103,116,104],.sl 1 [i64 L]]).bind fun t=>(kstr1 t).bind fun t0 =>
     (KR n 33 [.agg [.lit (.int .i64 L),.sl k rs]]).bind fun d=>match d with
      | .sl 1 ds=>(kLines n ds).bind fun ls=>bif Nat.ble ds.length 1048576 && Nat.ble (wrt t0 ls).length 140737488355328 then some (.tup [str (wrt t0 ls),i64 0]) else none
      | _=>none
   else none
 | _=>none
theorem kPrint_ok {n:Nat} {args:List AV} {r:AV} (h:kPrint n args=some r):AT 10 args r:=by
 unfold kPrint at h
 split at h
 ·rename_i L k rs
  obtain ⟨v,h1,h⟩:=kbind h
  obtain ⟨h2,h⟩:=kif h
  obtain ⟨t,h3,h⟩:=kbind h
  obtain ⟨t0,h4,h⟩:=kbind h
  obtain ⟨d,h5,h⟩:=kbind h
  split at h
  ·rename_i ds
   obtain ⟨ls,h6,h⟩:=kbind h
   obtain ⟨h7,h⟩:=kif h
   obtain ⟨h7,h8⟩:=kand h7
   cases h
   have c1:=KR_calls h1
   have c2:=KR_calls h3
   rw [kzero_of h2]at c1
   rw [kstr1_some h4]at c2
   obtain ⟨q1,q2,q3⟩:=kLines_ok h6
   exact print_c c1 c2 (KR_calls h5) q2 q3 q1 (Nat.le_of_ble_eq_true h7) (Nat.le_of_ble_eq_true h8)
  ·cases h
 ·cases h
end
end Go.Proofs.YtcaahphghaddgaaGreatDoor
set_option linter.unusedSimpArgs false
set_option linter.unusedVariables false
namespace Go.Proofs.YtcaahphghaddgaaGreatDoor
open Go.RowKit Lim
noncomputable section
def eqL:Value→Value→Bool
 | .int .i64 m,.int .i64 n=>m == n
 | .bool a,.bool b=>a == b
 | .string s,.string t=>s.data.toList == t.data.toList
 | _,_=>false
theorem eqL_of {a b:Value} (h:eqL a b=true):a=b:=by
 unfold eqL at h
 split at h
 ·rw [eq_of_beq h]
 ·rw [eq_of_beq h]
 ·rename_i s t
  have e:=eq_of_beq h
  rw [←bs_data s,←bs_data t,e]
 ·cases h
def eqAs (e:AV→AV→Bool):List AV→List AV→Bool
 | [],[]=>true
 | a :: l,b :: m=>e a b && eqAs e l m
 | _,_=>false
theorem eqAs_of {e:AV→AV→Bool} (he:∀a b,e a b=true→a=b):∀l m,eqAs e l m=true→l=m
 | [],[],_=>rfl
 | [],_ :: _,h=>by cases h
 | _ :: _,[],h=>by cases h
 | a :: l,b :: m,h=>by
  obtain ⟨h1,h2⟩:=kand h
  rw [he a b h1,eqAs_of he l m h2]
def eqA:Nat→AV→AV→Bool
 | n+1,.lit a,.lit b=>eqL a b
 | n+1,.sl k es,.sl k' fs=>k == k' && eqAs (eqA n) es fs
 | n+1,.agg es,.agg fs=>eqAs (eqA n) es fs
 | n+1,.tup es,.tup fs=>eqAs (eqA n) es fs
 | _,_,_=>false
theorem eqA_of:∀n a b,eqA n a b=true→a=b:=by
 intro n
 induction n with
 | zero=>intro a b h;cases a <;> cases h
 | succ n ih =>
  intro a b h
  cases a <;> cases b <;> first
   | exact absurd h Bool.false_ne_true
   | exact congrArg AV.lit (eqL_of h)
   | exact congrArg AV.agg (eqAs_of ih _ _ h)
   | exact congrArg AV.tup (eqAs_of ih _ _ h)
   | skip
  obtain ⟨h1,h2⟩:=kand h
  rw [eq_of_beq h1,eqAs_of ih _ _ h2]
def kMemo (as':List AV) (x:AV) (args:List AV):Option AV:=bif eqAs (eqA 9) args as' then some x else none
theorem kMemo_ok {f:FuncId} {as':List AV} {x:AV} (h:AT f as' x) {args:List AV} {r:AV} (hm:kMemo as' x args=some r):AT f args r:=by
 obtain ⟨h1,h2⟩:=kif hm
 cases h2
 rw [eqAs_of (eqA_of 9) _ _ h1]
 exact h
noncomputable def kwp (ps:List (Nat × PrimK)) (F:Nat):KW:={ kw F with pr:=lkP ps }
theorem kwp_ok {ps:List (Nat × PrimK)} (hp:∀p∈ps,∀args r,p.2 args=some r→AT p.1 args r) {F:Nat}:KWOK ctxK (kwp ps F):=by
 have h:=kw_ok (F:=F)
 exact ⟨h.1,h.2,h.3,h.4,h.5,fun f p args r h1 h2=>hp _ (lkP_mem h1) args r h2⟩
noncomputable abbrev KRp (ps:List (Nat × PrimK)) (n:Nat):FuncId→List AV→Option AV:=kask (kwp ps 1000000) n
theorem KRp_calls {ps:List (Nat × PrimK)} (hp:∀p∈ps,∀args r,p.2 args=some r→AT p.1 args r) {n:Nat} {f:FuncId} {args:List AV} {r:AV} (h:KRp ps n f args=some r):AT f args r:=kask_sound (C:=ctxK) (kwp_ok hp) n f args r h
def sampleK (n:Int):AV:=.agg [.lit (.int .i64 n),.lit (.string ⟨#[77,65,84,72,46,65,76,71]⟩),.lit (.int .i64 0),.lit (.int .i64 0),.lit (.int .i64 6),.lit (.int .i64 10),.lit (.int .i64 1),.lit (.int .i64 0),.sl 1 [.sl 1 [.lit (.int .i64 500),.lit (.int .i64 500)]]]
def probA:List AV:=[.agg [.lit (.int .i64 1),.sl 5 [.agg [.lit (.int .i64 8),.lit (.int .i64 5),.lit (.int .i64 0),.lit (.int .i64 0),.lit (.string ⟨#[]⟩)]]],.sl 9 [sampleK 2,sampleK 5],.sl 2 [],.sl 1 [.lit (.int .i64 7),.lit (.int .i64 9)]]
def probR:AV:=.tup [.agg [.sl 1 [.lit (.int .i64 7),.lit (.int .i64 9)],.sl 3 [.agg [.sl 1 [.lit (.int .i64 1),.lit (.int .i64 1)],.lit (.int .i64 1),.lit (.int .i64 1)]],.sl 1 [.lit (.int .i64 (-1)),.lit (.int .i64 0)]],.lit (.int .i64 0)]
end
end Go.Proofs.YtcaahphghaddgaaGreatDoor
