import Derived.Test.YtmekiphpjpblpaaGreatEVL
/- Text VM. -/
set_option linter.unusedSimpArgs false
set_option linter.unusedVariables false
set_option maxHeartbeats 40000000
set_option maxRecDepth 100000
namespace Go.Proofs.YtmekiphpjpblpaaGreat
open Go.RowKit Lim
def arunI (C:Ctx) (dr:Bool) (ops:Array Oper):List Nat→AS→(AS→Prop)→Prop
 | [],σ,K=>K σ
 | i :: l,σ,K=>∃o,ops[i]? = some o∧astepG C dr ops o σ (fun σ'=>arunI C dr ops l σ' K)
def force {α:Type} (x:Nat) (k:Nat→α):α:=match x with|0=>k 0|n+1=>k (n+1)
theorem force_eq {α:Type} (x:Nat) (k:Nat→α):force x k=k x:=by cases x <;> rfl
def maskGo (M:Nat):List Edge→Nat→Nat
 | [],acc=>acc
 | e :: l,acc=>force (if Region.binds .any e then acc ||| (2 ^ e.on ||| (M >>> (128*e.on)) % 2 ^ 128) else acc) (maskGo M l)
def maskC {α:Type} (k:Nat→α):Nat→Nat→List Oper→α
 | _,M,[]=>k M
 | i,M,o :: l=>force (M ||| (maskGo M o.after.toList 0 <<< (128*i))) (fun M'=>maskC k (i+1) M' l)
def rtC {α:Type} (k:List (Nat × Nat)→α):List (Nat × Nat)→List Oper→α
 | L,[]=>k L
 | L,o :: l=>match o.op,o.dst with
  | .fieldAddr _ (.tmp a) _,some d=>force (look2 L a) (fun r=>rtC k ((d,r) :: L) l)
  | .nilCheck (.tmp a),some d=>force (look2 L a) (fun r=>rtC k ((d,r) :: L) l)
  | .move (.tmp a),some d=>force (look2 L a) (fun r=>rtC k ((d,r) :: L) l)
  | .indexAddr _ (.tmp a) _,some d=>force (look2 L a) (fun r=>rtC k ((d,r) :: L) l)
  | _,_=>rtC k L l
def rtL (ops:Array Oper):List (Nat × Nat):=rtC id [] ops.toList
def maskM (ops:Array Oper):Nat:=maskC id 0 0 ops.toList
def argsHave (d:Nat):List Operand→Bool
 | []=>false
 | .tmp x :: l=>x == d || argsHave d l
 | .const _ :: l=>argsHave d l
 | .global _ :: l=>argsHave d l
 | .func _ :: l=>argsHave d l
def ptrUse (d:Nat):List Oper→Bool
 | []=>false
 | o :: l=>match o.op with
  | .nilCheck (.tmp x)=>x == d || ptrUse d l
  | .fieldAddr _ (.tmp x) _=>x == d || ptrUse d l
  | .call c=>argsHave d c.args.toList || ptrUse d l
  | _=>ptrUse d l
def movedOf:List Oper→List Nat
 | []=>[]
 | o :: l=>match o.op with
  | .move (.tmp a)=>(match o.dst with|some d=>bif ptrUse d l then movedOf l else a :: movedOf l|none=>a :: movedOf l)
  | .assign (.tmp a)=>a :: movedOf l
  | .pick _ x y=>(match x with|.tmp a=>[a]|_=>[]) ++ (match y with|.tmp a=>[a]|_=>[]) ++ movedOf l
  | _=>movedOf l
def fineC (ops:Array Oper) (N M:Nat) (L:List (Nat × Nat)) (ix:List Nat):Bool :=
 decide (ops.size≤128) && (List.range ops.size).all fun i =>
  match ops[i]? with
  | none=>false
  | some oi =>
   (match oi.dst with|some t=>decide (t<N)|none=>true) && rootB (look2 L) (movedOf ops.toList) ix oi &&
   (oi.after.toList.all fun e=>!Region.binds .any e || decide (e.on<i)) &&
   decide ((M >>> (128*i)) % 2 ^ 128=maskGo M oi.after.toList 0) &&
   ((List.range i).all fun j =>
    match ops[j]? with
    | none=>false
    | some oj=>(M.testBit (128*i+j) || indep ops (look2 L) ix oi oj) && !(isNewB oi && isNewB oj && oi.dst == oj.dst))
def fineB0 (ops:Array Oper) (N:Nat):Bool:=rtC (fun L=>maskC (fun M=>fineC ops N M L (ixOf ops.toList)) 0 0 ops.toList) [] ops.toList
def fineB (ops:Array Oper) (N:Nat):Bool:=Nat.ble N BIG && fineB0 ops N
theorem maskC_eq {α:Type} (k:Nat→α):∀(l:List Oper) (i M:Nat),maskC k i M l=k (maskC id i M l)
 | [],_,_=>rfl
 | o :: l,i,M=>by simp only [maskC,force_eq];exact maskC_eq k l _ _
theorem rtC_eq {α:Type} (k:List (Nat × Nat)→α):∀(l:List Oper) (L:List (Nat × Nat)),rtC k L l=k (rtC id L l)
 | [],_=>rfl
 | o :: l,L=>by
  simp only [rtC]
  split
  ·simp only [force_eq];exact rtC_eq k l _
  ·simp only [force_eq];exact rtC_eq k l _
  ·simp only [force_eq];exact rtC_eq k l _
  ·simp only [force_eq];exact rtC_eq k l _
  ·exact rtC_eq k l _
theorem fineB_eq (ops:Array Oper) (N:Nat):fineB0 ops N=fineC ops N (maskM ops) (rtL ops) (ixOf ops.toList):=by
 unfold fineB0
 rw [rtC_eq,maskC_eq]
 rfl
structure Fine (ops:Array Oper) (N:Nat) (ms:Nat) (rt:Nat→Nat) (mv ix:List Nat):Prop where
 root:∀(i:Nat) (o:Oper),ops[i]? = some o→rootB rt mv ix o=true
 dst:∀(i:Nat) (o:Oper),ops[i]? = some o→∀t,o.dst=some t→t<N∧t<BIG
 back:∀(i:Nat) (o:Oper),ops[i]? = some o→∀e∈o.after,Region.binds .any e=true→e.on<i
 mask:∀(i:Nat) (o:Oper),ops[i]? = some o→(ms >>> (128*i)) % 2 ^ 128=maskGo ms o.after.toList 0
 small:ops.size≤128
 ind:∀(i j:Nat) (oi oj:Oper),ops[i]? = some oi→ops[j]? = some oj→j<i→ms.testBit (128*i+j)=true∨indep ops rt ix oi oj=true
 new:∀(i j:Nat) (oi oj:Oper),ops[i]? = some oi→ops[j]? = some oj→i≠j→isNewB oi=true→isNewB oj=true→oi.dst≠oj.dst
theorem fine_of {ops:Array Oper} {N:Nat} (h:fineB ops N=true):Fine ops N (maskM ops) (look2 (rtL ops)) (movedOf ops.toList) (ixOf ops.toList):=by
 unfold fineB at h
 rw [Bool.and_eq_true]at h
 obtain ⟨hbig,h⟩:=h
 have hbig:=Nat.le_of_ble_eq_true hbig
 rw [fineB_eq]at h
 unfold fineC at h
 simp only [List.all_eq_true,List.mem_range,Bool.and_eq_true,decide_eq_true_eq]at h
 obtain ⟨hsm,h⟩:=h
 have key:∀(i:Nat) (o:Oper),ops[i]? = some o→(∀t,o.dst=some t→t<N)∧rootB (look2 (rtL ops)) (movedOf ops.toList) (ixOf ops.toList) o=true∧(∀e∈o.after,Region.binds .any e=true→e.on<i)∧(maskM ops >>> (128*i)) % 2 ^ 128=maskGo (maskM ops) o.after.toList 0∧(∀j,j<i→∀oj,ops[j]? = some oj→(maskM ops).testBit (128*i+j)=true∨indep ops (look2 (rtL ops)) (ixOf ops.toList) o oj=true)∧(∀j,j<i→∀oj,ops[j]? = some oj→isNewB o=true→isNewB oj=true→o.dst≠oj.dst):=by
  intro i o hi
  have h1:=h i (Array.getElem?_eq_some_iff.1 hi).1
  simp only [hi,Bool.and_eq_true,List.all_eq_true,List.mem_range,decide_eq_true_eq]at h1
  obtain ⟨⟨⟨⟨h2,h6⟩,h3⟩,h4⟩,h5⟩:=h1
  refine ⟨fun t ht=>?_,h6,fun e he hb=>?_,h4,fun j hj oj hoj=>?_,fun j hj oj hoj n1 n2 hd=>?_⟩
  ·rw [ht]at h2;simpa using h2
  ·have:=h3 e (by simpa using he)
   simpa [hb]using this
  ·have:=h5 j hj
   simp only [hoj,Bool.and_eq_true,Bool.or_eq_true]at this
   exact this.1
  ·have:=h5 j hj
   simp only [hoj,Bool.and_eq_true,Bool.not_eq_true',n1,n2,Bool.true_and]at this
   rw [hd]at this
   simp at this
 refine ⟨fun i o hi=>(key i o hi).2.1,fun i o hi t ht=>⟨(key i o hi).1 t ht,Nat.lt_of_lt_of_le ((key i o hi).1 t ht) hbig⟩,fun i o hi=>(key i o hi).2.2.1,fun i o hi=>(key i o hi).2.2.2.1,hsm,fun i j oi oj hi hj hji=>(key i oi hi).2.2.2.2.1 j hji oj hj,fun i j oi oj hi hj hne n1 n2=>?_⟩
 rcases Nat.lt_or_gt_of_ne hne with hlt|hgt
 ·exact fun he=>(key j oj hj).2.2.2.2.2 i hlt oi hi n2 n1 he.symm
 ·exact (key i oi hi).2.2.2.2.2 j hgt oj hj n1 n2
theorem chunk_bit (M k j:Nat) (hj:j<128):((M >>> (128*k)) % 2 ^ 128).testBit j=M.testBit (128*k+j):=by
 rw [Nat.testBit_mod_two_pow,Nat.testBit_shiftRight]
 simp [hj]
theorem mask_bit (M j:Nat) (hj:j<128):∀(l:List Edge) (acc:Nat),(maskGo M l acc).testBit j=true→acc.testBit j=true∨∃e∈l,Region.binds .any e=true∧(e.on=j∨M.testBit (128*e.on+j)=true)
 | [],acc,h=>.inl h
 | e :: l,acc,h=>by
  simp only [maskGo,force_eq]at h
  rcases mask_bit M j hj l _ h with h1|⟨e',h1,h2⟩
  ·split at h1
   ·rename_i hb
    rw [Nat.testBit_or,Nat.testBit_or,Nat.testBit_two_pow,chunk_bit _ _ _ hj]at h1
    simp only [Bool.or_eq_true,decide_eq_true_eq]at h1
    rcases h1 with h1|h1|h1
    ·exact .inl h1
    ·exact .inr ⟨e,by simp,hb,.inl h1⟩
    ·exact .inr ⟨e,by simp,hb,.inr h1⟩
   ·exact .inl h1
  ·exact .inr ⟨e',by simp [h1],h2⟩
section
variable {C:Ctx} {ops:Array Oper} {N:Nat} {ms:Nat} {rt:Nat→Nat} {mv ix:List Nat} {dr:Bool} {w0:Base} {Z0:Zone}
theorem wantedA_sound {σ:AS} {a:Act} {w:World} (S:Sim C.u w0 Z0 N σ a w) {o:Oper} {b:Bool} (h:wantedA ops σ o=some b):Region.wanted o (yielded ops a.tmps)=b:=by
 obtain ⟨⟨Z,β,κ,S⟩,_⟩:=S
 unfold wantedA at h
 unfold Region.wanted
 split at h
 ·rename_i hg
  rw [hg]
  cases h
  rfl
 ·rename_i j want hg
  rw [hg]
  simp only
  cases ht:(ops[j]?).bind (·.dst)with
  | none=>rw [ht]at h;cases h
  | some t =>
   rw [ht]at h
   simp only at h
   have hy:∀x,σ.tm t=some x→∀u,a.tmps.getD t undef=u→yielded ops a.tmps j=(match u with|.bool b=>some b|_=>none):=fun x hx u hu=>by
    have hlt:=(S.tm t x hx).1
    unfold yielded
    rw [ht]
    simp only [Option.bind_some]
    rw [Array.getElem?_eq_getElem hlt]
    simp [hlt]at hu
    rw [hu]
    cases u <;> rfl
   split at h
   ·rename_i b' hx
    have:a.tmps.getD t undef=.bool b':=(S.tm t _ hx).2.lit_eq
    rw [hy _ hx _ this]
    cases h
    cases b' <;> cases want <;> rfl
   ·rename_i hx
    have:a.tmps.getD t undef=undef:=(S.tm t _ hx).2
    rw [hy _ hx _ this]
    cases h
    rfl
   ·cases h
theorem astepG_sound {σ:AS} {a:Act} {w:World} (S:Sim C.u w0 Z0 N σ a w) (hE:C.EL w0) (hz0:∀b o,Z0 b o→b<w0.w.heap.size) {i:Nat} {o:Oper} (hi:ops[i]? = some o) (hd:∀t,o.dst=some t→w0.np≤t∧t<N∧t<BIG) {K:AS→Prop} {Q:Exit→Act→World→Prop} (h:astepG C dr ops o σ K) :
  wpOp C.P ops Q i (fun a' w'=>∃σ',K σ'∧Sim C.u w0 Z0 N σ' a' w') a w:=by
 obtain ⟨b,h1,h2,h3⟩:=h
 unfold wpOp
 simp only [hi]
 rw [wantedA_sound S h1]
 cases b with
 | true =>
  simp only [if_true]
  exact .inl (astep_sound S hE hz0 hd (h2 rfl))
 | false =>
  simp only [Bool.false_eq_true,if_false]
  obtain ⟨⟨Z,β,κ,S⟩,hN⟩:=S
  exact ⟨_,h3 rfl,⟨Z,β,κ,S.put (hN.lt hd) rfl⟩,hN.put hd⟩
theorem wpOps_of_arun (hE:C.EL w0) (hz0:∀b o,Z0 b o→b<w0.w.heap.size) (hd:∀(i:Nat) (o:Oper),ops[i]? = some o→∀t,o.dst=some t→w0.np≤t∧t<N∧t<BIG) {K:AS→Prop} {Q:Exit→Act→World→Prop} (hK:∀σ a w,K σ→Sim C.u w0 Z0 N σ a w→Q .normal a w) :
  ∀(l:List Nat) (σ:AS) (a:Act) (w:World),Sim C.u w0 Z0 N σ a w→arunI C dr ops l σ K→wpOps C.P ops Q l a w
 | [],σ,a,w,S,h=>hK σ a w h S
 | i :: l,σ,a,w,S,h=>by
  obtain ⟨o,hi,h⟩:=h
  rw [wpOps_cons]
  exact wpOp_mono (fun a' w' ⟨σ',h1,h2⟩=>wpOps_of_arun hE hz0 hd hK l σ' a' w' h2 h1) (astepG_sound S hE hz0 hi (hd i o hi) h)
def PendL (ops:Array Oper) (σ:AS) (l:List Nat):Prop:=∀i∈l,∀o,ops[i]? = some o→Pend σ o
theorem PendL.step (hf:Fine ops N ms rt mv ix) {σ:AS} {i:Nat} {l:List Nat} {o:Oper} {e:Eff} (hp:PendL ops σ (i :: l)) (hi:ops[i]? = some o) (hn:i ∉ l) (h:eff C ops o σ e):PendL ops (e.apply σ) l:=by
 intro k hk ok hok hnew s hs
 refine (hp k (by simp [hk]) ok hok hnew s hs).apply (hp i (by simp) o hi) h fun hno he=>?_
 exact hf.new i k o ok hi hok (fun hik=>hn (hik ▸ hk)) hno hnew (he.trans hs.symm)
theorem PendL.loud {σ σ':AS} {l:List Nat} (hp:PendL ops σ l) (h:RefLe σ' σ):PendL ops σ' l:=fun k hk ok hok hnew s hs=>h.noref (hp k hk ok hok hnew s hs)
theorem PendL.sub {σ:AS} {l l':List Nat} (hp:PendL ops σ l) (h:∀k∈l',k∈l):PendL ops σ l':=fun k hk=>hp k (h k hk)
theorem indep_plain {rt:Nat→Nat} {ix:List Nat} {x y:Oper} (h:indep ops rt ix x y=true):loudB ix x=false∧loudB ix y=false:=by
 simp only [indep,Bool.and_eq_true,Bool.not_eq_true']at h
 exact ⟨h.1.2,h.2⟩
theorem arun_front (hf:Fine ops N ms rt mv ix) {K:AS→Prop} {i:Nat} {oi:Oper} (hi:ops[i]? = some oi):∀(pre post:List Nat) (σ:AS),(∀j∈pre,∀oj,ops[j]? = some oj→indep ops rt ix oi oj=true)→(pre ++ i :: post).Nodup→PendL ops σ (pre ++ i :: post)→Rooted rt mv ix σ→arunI C true ops (pre ++ i :: post) σ K→arunI C true ops (i :: (pre ++ post)) σ K
 | [],post,σ,_,_,_,_,h=>h
 | j :: pre,post,σ,hind,hnd,hp,hJ,h=>by
  obtain ⟨oj,hj,h⟩:=h
  obtain ⟨pi,pj⟩:=indep_plain (hind j (by simp) oj hj)
  obtain ⟨ej,h1,h2⟩:=astepG_eff pj hJ.idx h
  simp only [List.cons_append,List.nodup_cons]at hnd
  have hp1:PendL ops (ej.apply σ) (pre ++ i :: post):=PendL.step hf hp hj hnd.1 h1
  have hJ1:Rooted rt mv ix (ej.apply σ):=hJ.step (hp j (by simp) oj hj) h1 (hf.root j oj hj)
  have ih:=arun_front hf hi pre post (ej.apply σ) (fun k hk=>hind k (by simp [hk])) hnd.2 hp1 hJ1 h2
  obtain ⟨oi',hi',ih⟩:=ih
  rw [hi]at hi'
  cases hi'
  obtain ⟨ei,h3,h4⟩:=astepG_eff pi hJ1.idx ih
  obtain ⟨g1,g2,g3⟩:=eff_swap hJ (hind j (by simp) oj hj) (hp i (by simp) oi hi) (hp j (by simp) oj hj) h1 h3
  refine ⟨oi,hi,eff_astepG g1 ⟨oj,hj,eff_astepG g2 ?_⟩⟩
  rw [g3]
  exact h4
end
section
variable {C:Ctx} {ops:Array Oper} {N:Nat} {ms:Nat} {rt:Nat→Nat} {mv ix:List Nat} {w0:Base} {Z0:Zone}
def rest (ops:Array Oper) (listed:Array Bool):List Nat:=(List.range ops.size).filter fun i=>!listed.getD i true
theorem mem_rest {listed:Array Bool} {i:Nat}:i∈rest ops listed ↔ i<ops.size∧listed.getD i true=false:=by
 unfold rest
 rw [List.mem_filter,List.mem_range]
 simp
theorem rest_nodup (listed:Array Bool):(rest ops listed).Nodup:=List.nodup_range.filter _
theorem rest_sorted (listed:Array Bool):(rest ops listed).Pairwise (·<·):=List.pairwise_lt_range.filter _
theorem rest_step {listed:Array Bool} (hs:listed.size=ops.size) {i:Nat} {pre post:List Nat} (h:rest ops listed=pre ++ i :: post):rest ops (listed.setIfInBounds i true)=pre ++ post:=by
 have hnd:=rest_nodup (ops:=ops) listed
 have e:rest ops (listed.setIfInBounds i true)=(rest ops listed).filter (fun j=>decide (j≠i)):=by
  unfold rest
  rw [List.filter_filter]
  apply List.filter_congr
  intro j hj
  rw [List.mem_range]at hj
  by_cases e:j=i
  ·subst e
   have:j<listed.size:=by omega
   simp [this]
  ·simp [e,Array.getElem?_setIfInBounds_ne (Ne.symm e)]
 rw [h]at hnd
 rw [e,h,List.filter_append,List.filter_cons]
 have h1:pre.filter (fun j=>decide (j≠i))=pre:=List.filter_eq_self.2 fun j hj=>by
  simp
  rintro rfl
  exact (List.nodup_append.1 hnd).2.2 j hj j (by simp) rfl
 have h2:post.filter (fun j=>decide (j≠i))=post:=List.filter_eq_self.2 fun j hj=>by
  simp
  rintro rfl
  have:=(List.nodup_append.1 hnd).2.1
  simp at this
  exact this.1 hj
 rw [h1,h2]
 simp
theorem wpAny_of_arun (hf:Fine ops N ms rt mv ix) (hge:∀(i:Nat) (o:Oper),ops[i]? = some o→∀t,o.dst=some t→w0.np≤t) (hE:C.EL w0) (hz0:∀b o,Z0 b o→b<w0.w.heap.size) {K:AS→Prop} {Q:Exit→Act→World→Prop} (hK:∀σ a w,K σ→Sim C.u w0 Z0 N σ a w→Q .normal a w) :
  ∀(fuel:Nat) (listed:Array Bool) (σ:AS) (a:Act) (w:World),listed.size=ops.size→(rest ops listed).length≤fuel →
   (∀k,k<ops.size→listed.getD k true=true→∀j,j<128→ms.testBit (128*k+j)=true→listed.getD j false=true) →
   PendL ops σ (rest ops listed)→Rooted rt mv ix σ→Sim C.u w0 Z0 N σ a w→arunI C true ops (rest ops listed) σ K→wpAny C.P .any ops Q fuel listed a w:=by
 intro fuel
 have hnil:∀(listed:Array Bool),listed.size=ops.size→Region.ready .any ops listed=[]→rest ops listed=[]:=by
  intro listed hs hr
  cases hl:rest ops listed with
  | nil=>rfl
  | cons m l =>
   have hm:m∈rest ops listed:=by rw [hl];simp
   obtain ⟨m1,m2⟩:=mem_rest.1 hm
   have hlt:∀k,k<m→listed.getD k false=true:=fun k hk=>by
    have hnot:k ∉ rest ops listed:=fun hk'=>by
     have hsort:=rest_sorted (ops:=ops) listed
     rw [hl]at hsort hk'
     rcases List.mem_cons.1 hk' with rfl|hk''
     ·omega
     ·have:=(List.pairwise_cons.1 hsort).1 k hk''
      omega
    rw [mem_rest]at hnot
    have hk2:k<listed.size:=by omega
    simp [hk2]at hnot ⊢
    exact hnot (by omega)
   have:m∈Region.ready .any ops listed:=mem_ready.2 ⟨m2,ops[m],Array.getElem?_eq_getElem m1,fun e he hb=>hlt _ (hf.back m _ (Array.getElem?_eq_getElem m1) e he hb)⟩
   rw [hr]at this
   cases this
 induction fuel with
 | zero =>
  intro listed σ a w hs hlen hcl hp hJ S h
  have h0:rest ops listed=[]:=List.eq_nil_of_length_eq_zero (by omega)
  refine ⟨?_,?_⟩
  ·apply List.eq_nil_iff_forall_not_mem.2
   intro i hi
   obtain ⟨h1,o,ho,_⟩:=mem_ready.1 hi
   have:i∈rest ops listed:=mem_rest.2 ⟨(Array.getElem?_eq_some_iff.1 ho).1,h1⟩
   rw [h0]at this
   cases this
  ·rw [h0]at h
   exact hK σ a w h S
 | succ fuel ih =>
  intro listed σ a w hs hlen hcl hp hJ S h
  refine ⟨fun hr=>?_,fun i hi=>?_⟩
  ·rw [hnil listed hs hr]at h
   exact hK σ a w h S
  ·obtain ⟨h1,oi,hoi,hedges⟩:=mem_ready.1 hi
   have hil:i<ops.size:=(Array.getElem?_eq_some_iff.1 hoi).1
   have him:i∈rest ops listed:=mem_rest.2 ⟨hil,h1⟩
   obtain ⟨pre,post,hsplit⟩:=List.append_of_mem him
   have hanc:∀j,j<128→ms.testBit (128*i+j)=true→listed.getD j false=true:=fun j hj0 hj=>by
    rw [←chunk_bit _ _ _ hj0,hf.mask i oi hoi]at hj
    rcases mask_bit ms j hj0 oi.after.toList 0 hj with h2|⟨e,he,hb,h2⟩
    ·simp at h2
    ·have he':=hedges e (by simpa using he) hb
     rcases h2 with rfl|h2
     ·exact he'
     ·have hlt:=hf.back i oi hoi e (by simpa using he) hb
      refine hcl e.on (by omega) ?_ j hj0 h2
      have:e.on<listed.size:=by omega
      simp [this]at he' ⊢
      exact he'
   have hind:∀j∈pre,∀oj,ops[j]? = some oj→indep ops rt ix oi oj=true:=fun j hj oj hoj=>by
    have hji:j<i:=by
     have hsort:=rest_sorted (ops:=ops) listed
     rw [hsplit]at hsort
     exact (List.pairwise_append.1 hsort).2.2 j hj i (by simp)
    have hjm:j∈rest ops listed:=by rw [hsplit];simp [hj]
    rcases hf.ind i j oi oj hoi hoj hji with h2|h2
    ·have:=hanc j (by have:=hf.small;omega) h2
     have hj2:=(mem_rest.1 hjm).2
     have hlt:j<listed.size:=by omega
     simp [hlt]at this hj2
     rw [this]at hj2
     cases hj2
    ·exact h2
   have hnd:=rest_nodup (ops:=ops) listed
   rw [hsplit]at h hp hnd
   have hrun:=arun_front hf hoi pre post σ hind hnd hp hJ h
   obtain ⟨oi',hoi',hrun⟩:=hrun
   rw [hoi]at hoi'
   cases hoi'
   have hrest:=rest_step hs hsplit
   have hsub:∀k∈i :: (pre ++ post),k∈pre ++ i :: post:=fun k hk=>by
    simp at hk ⊢
    rcases hk with rfl|hk|hk <;> simp [*]
   have hnot:i ∉ pre ++ post:=fun hk=>by
    rcases List.mem_append.1 hk with hk|hk
    ·exact (List.nodup_append.1 hnd).2.2 i hk i (by simp) rfl
    ·have:=(List.nodup_append.1 hnd).2.1
     simp at this
     exact this.1 hk
   have hstep:astepG C true ops oi σ (fun σ'=>(PendL ops σ' (pre ++ post)∧Rooted rt mv ix σ')∧arunI C true ops (pre ++ post) σ' K):=by
    cases hl:loudB ix oi with
    | false =>
     obtain ⟨e,g1,g2⟩:=astepG_eff hl hJ.idx hrun
     exact eff_astepG g1 ⟨⟨PendL.step hf (i:=i) (hp.sub hsub) hoi hnot g1,hJ.step (hp i (by simp) oi hoi) g1 (hf.root i oi hoi)⟩,g2⟩
    | true =>
     obtain ⟨σ',q1,q2,q3⟩:=loud_step hl hrun
     exact q3 _ ⟨⟨(hp.sub fun k hk=>hsub k (by simp at hk ⊢;exact .inr hk)).loud q2,q2.rooted hJ⟩,q1⟩
   refine wpOp_mono (fun a' w' ⟨σ',⟨g0,g1⟩,g2⟩=>?_) (astepG_sound S hE hz0 hoi (fun t ht=>⟨hge i oi hoi t ht,hf.dst i oi hoi t ht⟩) hstep)
   refine ih (listed.setIfInBounds i true) σ' a' w' (by simpa using hs) ?_ ?_ (by rw [hrest];exact g0.1) g0.2 g2 (by rw [hrest];exact g1)
   ·rw [hrest]
    rw [hsplit]at hlen
    simp at hlen ⊢
    omega
   ·intro k hk hkl j hj0 hj
    by_cases e:k=i
    ·subst e
     exact getD_set_true (hanc j hj0 hj)
    ·rw [getD_set_ne true (Ne.symm e)]at hkl
     exact getD_set_true (hcl k hk hkl j hj0 hj)
end
end Go.Proofs.YtmekiphpjpblpaaGreat
