import Derived.Test.YtmekiphpjpblpaaGreatEVS
/- Text VN. -/
set_option linter.unusedSimpArgs false
set_option linter.unusedVariables false
set_option maxHeartbeats 40000000
set_option maxRecDepth 100000
namespace Go.Proofs.YtmekiphpjpblpaaGreat
open Go.RowKit Lim
def keysOf:List Oper→List Nat
 | []=>[]
 | o :: l=>match o.op,o.dst with
  | .fieldAddr _ _ _,some d=>d :: keysOf l
  | .nilCheck _,some d=>d :: keysOf l
  | .move (.tmp _),some d=>d :: keysOf l
  | .indexAddr _ _ _,some d=>d :: keysOf l
  | _,_=>keysOf l
def badOf (d:Bool) (os:List Oper):List Nat:=match d with|true=>newsOf os ++ (movedOf os ++ keysOf os)|false=>newsOf os
def staleK (d:Bool) (x:Nat) (bad:List Nat):TV→Option TV
 | .ref t o=>if bad.contains t || (d && t != x) then none else some (.ref t o)
 | .oref t k i o=>if d then none else some (.oref t k i o)
 | x=>some x
def prep (n:Nat) (d:Bool) (ops:Array Oper) (σ:AS):AS:={ σ with tm:=fun x=>if x<n then (σ.tm x).bind (staleK d x (badOf d ops.toList)) else none }
def leV (τ σ:AS) (x:Option TV) (v:TV):Prop :=
 x=some v∨(∃t k off len ov,x=some (.osl t k off len)∧σ.own t=some ov∧τ.own t=none∧ov.k=k∧off+len≤ov.len∧v=.av (ov.part off len)) ∨
 ∃t off cs,x=some (.ref t off)∧σ.mem t=some cs∧τ.mem t=none∧v=.av (.ptr (cs.drop off))
structure AS.le (τ σ:AS):Prop where
 tm:∀x v,τ.tm x=some v→leV τ σ (σ.tm x) v
 mem:∀t cs,τ.mem t=some cs→σ.mem t=some cs
 own:∀t ov,τ.own t=some ov→σ.own t=some ov
structure Scr where
 n:Nat
 fz:List (Nat × Nat)
 ln:List Nat
def fzAt:List (Nat × Nat)→Nat→List Nat
 | [],_=>[]
 | (i,t) :: l,id=>bif i == id then t :: fzAt l id else fzAt l id
def frzBT (f:Nat→Option (List AV)) (ts:List Nat):TV→Option TV
 | .ref t off=>bif ts.contains t then (f t).map (fun cs=>.av (.ptr (cs.drop off))) else some (.ref t off)
 | x=>some x
def AS.frzB (σ:AS) (ts:List Nat):AS:={ σ with tm:=fun x=>(σ.tm x).bind (frzBT σ.mem ts),mem:=fun t=>bif ts.contains t then none else σ.mem t }
theorem frzB_le (σ:AS) (ts:List Nat):AS.le (σ.frzB ts) σ:=by
 refine ⟨fun x v h=>?_,fun t cs h=>?_,fun _ _ h=>h⟩
 ·simp only [AS.frzB]at h
  cases hx:σ.tm x with
  | none=>rw [hx]at h;cases h
  | some y =>
   rw [hx]at h
   cases y with
   | ref t off =>
    simp only [Option.bind_some,frzBT]at h
    cases hc:ts.contains t with
    | true =>
     rw [hc]at h
     simp only [cond_true,Option.map_eq_some_iff]at h
     obtain ⟨cs,h1,rfl⟩:=h
     exact .inr (.inr ⟨t,off,cs,rfl,h1,by simp only [AS.frzB,hc,cond_true],rfl⟩)
    | false=>rw [hc]at h;exact .inl h
   | _=>exact .inl h
 ·simp only [AS.frzB]at h
  cases hc:ts.contains t with
  | true=>rw [hc]at h;cases h
  | false=>rw [hc]at h;exact h
def dstB (ops:Array Oper) (N:Nat):Bool:=Nat.ble N BIG && ops.all fun o=>match o.dst with|some t=>decide (t<N)|none=>true
def codeOK (N:Nat):Code→Bool
 | .skip=>true
 | .region _ ops d=>if d then fineB ops N else dstB ops N
 | .seq a b=>codeOK N a && codeOK N b
 | .cond _ a b=>codeOK N a && codeOK N b
 | .block _ c=>codeOK N c
 | .loop c=>codeOK N c
 | .exit _=>true
 | .ret=>true
 | .label _=>true
 | _=>false
def dstsGe (np:Nat):Code→Bool
 | .region _ ops _=>ops.all fun o=>match o.dst with|some t=>decide (np≤t)|none=>true
 | .seq a b=>dstsGe np a && dstsGe np b
 | .cond _ a b=>dstsGe np a && dstsGe np b
 | .block _ c=>dstsGe np c
 | .loop c=>dstsGe np c
 | _=>true
theorem dstsGe_zero:∀(c:Code),dstsGe 0 c=true:=by
 intro c
 induction c with
 | region id ops d =>
  simp only [dstsGe]
  rw [Array.all_eq_true_iff_forall_mem]
  intro o _
  cases o.dst <;> simp
 | seq a b iha ihb=>simp [dstsGe,iha,ihb]
 | cond c a b iha ihb=>simp [dstsGe,iha,ihb]
 | block id c ih=>simpa [dstsGe]using ih
 | loop c ih=>simpa [dstsGe]using ih
 | _=>rfl
def awp (C:Ctx) (n:Scr):Code→(Exit→AS→Prop)→AS→Prop
 | .skip,K,σ=>K .normal σ
 | .region id ops d,K,σ=>bif n.ln.contains id then lentR C d ops (prep n.n d ops (σ.frzB (fzAt n.fz id))) (K .normal) else arun C d ops ops.toList (prep n.n d ops (σ.frzB (fzAt n.fz id))) (K .normal)
 | .seq a b,K,σ=>awp C n a (fun e σ'=>match e with|.normal=>awp C n b K σ'|e=>K e σ') σ
 | .cond c a b,K,σ=>∃t,σ.get c=some (.av (.lit (.bool t)))∧(t=true→awp C n a K σ)∧(t=false→awp C n b K σ)
 | .block id c,K,σ=>awp C n c (fun e σ'=>match e with|.exit i=>if i=id then K .normal σ' else K (.exit i) σ'|e=>K e σ') σ
 | .loop c,K,σ=>∃(α:Type) (I:α→AS) (μ:α→Nat) (x:α),AS.le (I x) σ∧∀x,awp C n c (fun e σ'=>match e with|.normal=>∃x',AS.le (I x') σ'∧μ x'<μ x|e=>K e σ') (I x)
 | .exit id,K,σ=>K (.exit id) σ
 | .ret,K,σ=>K .ret σ
 | .label _,K,σ=>K .normal σ
 | _,_,_=>False
def Exit.plainB:Exit→Bool
 | .normal|.exit _|.ret=>true
 | _=>false
theorem Sim.mono {u:Bool} {w0:Base} {Z0:Zone} {N:Nat} {σ τ:AS} {a:Act} {w:World} (S:Sim u w0 Z0 N σ a w) (h:AS.le τ σ):Sim u w0 Z0 N τ a w:=by
 obtain ⟨⟨Z,β,κ,S⟩,hN⟩:=S
 refine ⟨⟨_,β,κ,S.drop h.mem h.own rfl fun t x hx=>?_⟩,hN⟩
 rcases h.tm t x hx with h1|⟨s,k,off,len,ov,h1,h2,h3,rfl,h4,rfl⟩|⟨s,off,cs,h1,h2,h3,rfl⟩
 ·obtain ⟨q1,q2⟩:=S.tm t x h1
  exact ⟨q1,q2.keep (Keeps.refl _ _) (fun _ _ h=>.inl h)⟩
 ·obtain ⟨q1,q2,q3⟩:=S.tm t _ h1
  refine ⟨q1,?_⟩
  show Rep _ _ _ _
  rw [q3]
  exact (S.own s ov h2).2.part_rep (fun _ _ h=>.inl h) (fun o=>.inr (.inl ⟨s,ov,h2,h3,rfl⟩)) h4
 ·obtain ⟨q1,q2⟩:=S.tm t _ h1
  refine ⟨q1,?_⟩
  have q3:a.tmps.getD t undef=.pointer (some ⟨β s,off,none⟩):=q2
  show Rep _ _ _ _
  rw [q3]
  have hc:=(S.mem s cs h2).2.cellsAt.drop (n:=off)
  rw [Nat.zero_add]at hc
  have hf:∃f:Nat→Value,∀q (hq:q<(cs.drop off).length),w.cell? ⟨β s,off+q,none⟩=some (f q)∧Rep w Z ((cs.drop off)[q]'hq) (f q) :=
   ⟨fun q=>if hq:q<(cs.drop off).length then (hc q hq).choose else undef,fun q hq=>by simp only [hq,dif_pos];exact (hc q hq).choose_spec⟩
  obtain ⟨f,hf⟩:=hf
  exact .ptr f (fun q hq=>⟨(hf q hq).1,.inr (.inr ⟨s,cs,h2,h3,rfl⟩)⟩) (fun q hq=>(hf q hq).2.keep (Keeps.refl _ _) (fun _ _ h=>.inl h))
theorem Sim.drew {u:Bool} {w0:Base} {Z0:Zone} {N:Nat} {σ:AS} {a:Act} {w:World} (S:Sim u w0 Z0 N σ a w):Sim u w0 Z0 N σ a { w with drawn:=w.drawn+1 }:=by
 obtain ⟨⟨Z,β,κ,S⟩,hN⟩:=S
 exact ⟨⟨Z,β,κ,S.drewW⟩,hN⟩
theorem prep_some {n:Nat} {d:Bool} {ops:Array Oper} {σ:AS} {x:Nat} {v:TV} (h:(prep n d ops σ).tm x=some v):σ.tm x=some v∧(∀t off,v=.ref t off→t ∉ badOf d ops.toList∧(d=true→t=x))∧(∀t k i o,v=.oref t k i o→d=false):=by
 simp only [prep]at h
 split at h
 ·cases hx:σ.tm x with
  | none=>rw [hx]at h;cases h
  | some y =>
   rw [hx]at h
   cases y with
   | ref t' o =>
    simp only [Option.bind_some,staleK]at h
    split at h
    ·cases h
    ·rename_i hc
     cases h
     simp only [Bool.or_eq_true,Bool.and_eq_true,not_or,not_and]at hc
     refine ⟨rfl,fun t off e=>?_,fun _ _ _ _ e=>by cases e⟩
     cases e
     refine ⟨by simpa using hc.1,fun hd=>?_⟩
     have:=hc.2 hd
     simpa using this
   | oref t' k i o =>
    simp only [Option.bind_some,staleK]at h
    split at h
    ·cases h
    ·rename_i hc
     cases h
     exact ⟨rfl,fun _ _ e=>(by cases e),fun _ _ _ _ _=>by simpa using hc⟩
   | _=>cases h;exact ⟨rfl,fun _ _ e=>(by cases e),fun _ _ _ _ e=>by cases e⟩
 ·cases h
theorem prep_ref {n:Nat} {d:Bool} {ops:Array Oper} {σ:AS} {x t off:Nat} (h:(prep n d ops σ).tm x=some (.ref t off)):σ.tm x=some (.ref t off)∧t ∉ badOf d ops.toList∧(d=true→t=x) :=
 ⟨(prep_some h).1,(prep_some h).2.1 t off rfl⟩
theorem prep_le (n:Nat) (d:Bool) (ops:Array Oper) (σ:AS):AS.le (prep n d ops σ) σ :=
 ⟨fun _ _ h=>.inl (prep_some h).1,fun _ _ h=>h,fun _ _ h=>h⟩
theorem newsOf_bad {d:Bool} {os:List Oper} {s:Nat} (h:s∈newsOf os):s∈badOf d os:=by
 cases d
 ·exact h
 ·exact List.mem_append_left _ h
theorem prep_noref {n:Nat} {d:Bool} {ops:Array Oper} {σ:AS} {s:Nat} (h:s∈newsOf ops.toList):NoRef (prep n d ops σ) s:=fun _ _ hx=>(prep_ref hx).2.1 (newsOf_bad h)
theorem look2_id:∀(L:List (Nat × Nat)) (x:Nat),x ∉ L.map (·.1)→look2 L x=x
 | [],_,_=>rfl
 | (k,v) :: L,x,h=>by
  simp at h
  simp only [look2]
  rw [if_neg h.1]
  exact look2_id L x (by simpa using h.2)
theorem rtL_keys (ops:Array Oper) (x:Nat) (h:x∈(rtL ops).map (·.1)):x∈keysOf ops.toList:=by
 unfold rtL at h
 have key:∀(l:List Oper) (L:List (Nat × Nat)),x∈(rtC id L l).map (·.1)→x∈L.map (·.1)∨x∈keysOf l:=by
  intro l
  induction l with
  | nil=>intro L h;exact .inl h
  | cons o l ih =>
   intro L h
   simp only [rtC]at h
   simp only [keysOf]
   split at h
   ·rename_i h3 h4
    rw [h3,h4]
    simp only [force_eq]at h
    rcases ih _ h with h2|h2
    ·simp only [List.map_cons,List.mem_cons]at h2
     rcases h2 with h2|h2
     ·exact .inr (by simp [h2])
     ·exact .inl h2
    ·exact .inr (by simp [h2])
   ·rename_i h3 h4
    rw [h3,h4]
    simp only [force_eq]at h
    rcases ih _ h with h2|h2
    ·simp only [List.map_cons,List.mem_cons]at h2
     rcases h2 with h2|h2
     ·exact .inr (by simp [h2])
     ·exact .inl h2
    ·exact .inr (by simp [h2])
   ·rename_i h3 h4
    rw [h3,h4]
    simp only [force_eq]at h
    rcases ih _ h with h2|h2
    ·simp only [List.map_cons,List.mem_cons]at h2
     rcases h2 with h2|h2
     ·exact .inr (by simp [h2])
     ·exact .inl h2
    ·exact .inr (by simp [h2])
   ·rename_i h3 h4
    rw [h3,h4]
    simp only [force_eq]at h
    rcases ih _ h with h2|h2
    ·simp only [List.map_cons,List.mem_cons]at h2
     rcases h2 with h2|h2
     ·exact .inr (by simp [h2])
     ·exact .inl h2
    ·exact .inr (by simp [h2])
   ·rcases ih _ h with h2|h2
    ·exact .inl h2
    ·right
     split
     ·exact List.mem_cons_of_mem _ h2
     ·exact List.mem_cons_of_mem _ h2
     ·exact List.mem_cons_of_mem _ h2
     ·exact List.mem_cons_of_mem _ h2
     ·exact h2
 rcases key _ _ h with h|h
 ·cases h
 ·exact h
theorem prep_rooted {n:Nat} {ops:Array Oper} {σ:AS}:Rooted (look2 (rtL ops)) (movedOf ops.toList) (ixOf ops.toList) (prep n true ops σ):=by
 refine ⟨fun a t off h=>?_,fun a hm t off h=>?_,fun a t k i q h=>?_⟩
 ·obtain ⟨_,h2,h3⟩:=prep_ref h
  obtain rfl:=h3 rfl
  refine look2_id _ _ fun hk=>h2 ?_
  exact List.mem_append_right _ (List.mem_append_right _ (rtL_keys ops _ hk))
 ·obtain ⟨_,h2,h3⟩:=prep_ref h
  obtain rfl:=h3 rfl
  exact h2 (List.mem_append_right _ (List.mem_append_left _ hm))
 ·have:=(prep_some h).2.2 t k i q rfl
  cases this
theorem newsOf_mem (o:Oper) (s:Nat) (h1:isNewB o=true) (h2:o.dst=some s) (l:List Oper) (hm:o∈l):s∈newsOf l:=by
 induction l with
 | nil=>cases hm
 | cons o' l ih =>
  rcases List.mem_cons.1 hm with rfl|hm
  ·simp [newsOf,h1,h2]
  ·have:=ih hm
   simp only [newsOf]
   split
   ·exact List.mem_cons_of_mem _ this
   ·exact this
theorem arunI_of {C:Ctx} {dr:Bool} {ops:Array Oper} {K:AS→Prop}:∀(l:List Oper) (k:Nat) (σ:AS),ops.toList.drop k=l→arun C dr ops l σ K→arunI C dr ops (List.range' k l.length) σ K
 | [],k,σ,_,h=>h
 | o :: l,k,σ,hd,h=>by
  have hk:ops[k]? = some o:=by
   have:=congrArg (·[0]?) hd
   simpa using this
  have hd':ops.toList.drop (k+1)=l:=by
   have:=congrArg (List.drop 1) hd
   simpa [Nat.add_comm]using this
  refine ⟨o,hk,?_⟩
  exact astepG_mono (fun σ' h=>arunI_of l (k+1) σ' hd' h) h
theorem wp_loop_g {P:Program} {Q:Exit→Act→World→Prop} {a:Act} {w:World} {c:Code} {α:Type} (I:α→Act→World→Prop) (μ:α→Nat) (x0:α) (h₀:I x0 a w)
  (round:∀x a w,I x a w→c.wp P (Exit.then (fun a' w'=>∃x',I x' a' w'∧μ x'<μ x) Q) a w):(Code.loop c).wp P Q a w:=by
 intro b k cs
 have key:∀n x a w,μ x=n→I x a w →
   ∃e a' w',Q e a' w'∧Arrives P (lone (b.at a (.code c :: .inLoop c :: k)) cs w) b k cs e a' w':=by
  intro n
  induction n using Nat.strongRecOn with
  | _ n ih =>
   intro x a w hn hI
   obtain ⟨e,a₁,w₁,hq,harr⟩:=round x a w hI b (.inLoop c :: k) cs
   cases e with
   | normal =>
    obtain ⟨x',hI₁,hlt⟩:=hq
    obtain ⟨e₂,a₂,w₂,hq₂,harr₂⟩:=ih (μ x') (hn ▸ hlt) x' a₁ w₁ rfl hI₁
    exact ⟨e₂,a₂,w₂,hq₂,.of_steps (Steps.trans harr (.one step_inLoop)) harr₂⟩
   | exit id=>exact ⟨_,a₁,w₁,hq,.pass (x:=.inLoop c) rfl (fun _ _=>.inl (by simp)) harr⟩
   | goto l=>exact ⟨_,a₁,w₁,hq,.pass (x:=.inLoop c) rfl (fun _ _=>.inl (by simp)) harr⟩
   | ret=>exact ⟨_,a₁,w₁,hq,.pass (x:=.inLoop c) rfl (fun _ _=>.inl (by simp)) harr⟩
   | panic ch=>exact ⟨_,a₁,w₁,hq,.pass (x:=.inLoop c) rfl (fun _ _=>.inl (by simp)) harr⟩
   | outgrown=>exact ⟨_,a₁,w₁,hq,.pass (x:=.inLoop c) rfl (fun _ _=>.inl (by simp)) harr⟩
 obtain ⟨e,a',w',hq,harr⟩:=key _ x0 a w rfl h₀
 exact ⟨e,a',w',hq,.of_steps (.one step_loop) harr⟩
section
variable {C:Ctx} {N:Nat} {n:Scr} {w0:Base} {Z0:Zone}
theorem awp_sound (hE:C.EL w0) (hz0:∀b o,Z0 b o→b<w0.w.heap.size):∀(c:Code) (K:Exit→AS→Prop) (σ:AS) (a:Act) (w:World),codeOK N c=true→dstsGe w0.np c=true→awp C n c K σ→Sim C.u w0 Z0 N σ a w →
  c.wp C.P (fun e a' w'=>Exit.plainB e=true∧∃σ',K e σ'∧Sim C.u w0 Z0 N σ' a' w') a w:=by
 intro c
 induction c with
 | skip=>intro K σ a w _ _ h S;exact wp_skip ⟨rfl,σ,h,S⟩
 | region id ops d =>
  intro K σ a w hok hge h S
  have hge':∀(i:Nat) (o:Oper),ops[i]? = some o→∀t,o.dst=some t→w0.np≤t:=fun i o hi t ht=>by
   have:=Array.all_eq_true_iff_forall_mem.1 hge o (Array.mem_of_getElem? hi)
   rw [ht]at this
   simpa using this
  replace S:=S.mono (frzB_le σ (fzAt n.fz id))
  simp only [awp]at h
  generalize σ.frzB (fzAt n.fz id)=σ at h S
  have S':=S.mono (prep_le n.n d ops σ)
  cases hln:n.ln.contains id with
  | true =>
   rw [hln]at h
   simp only [cond_true]at h
   obtain ⟨pre,o,post,hsp,hg,hsep,h⟩:=h
   have hlen:ops.size=pre.length+(post.length+1):=by
    have:=congrArg List.length hsp
    simpa using this
   have hi:ops[pre.length]? = some o:=by
    have:ops.toList[pre.length]? = some o:=by rw [hsp];simp
    simpa using this
   have hpost:ops.toList.drop (pre.length+1)=post:=by rw [hsp,List.drop_append];simp
   have hI:=arunI_pre (rest:=o :: post) pre 0 _ (by simpa using hsp) h
   have hlist:List.range ops.size=List.range' 0 pre.length ++ pre.length :: List.range' (pre.length+1) post.length:=by
    rw [hlen,List.range_eq_range',←List.range'_append_1,Nat.zero_add,List.range'_succ]
   cases d with
   | false =>
    simp only [codeOK,Bool.false_eq_true,if_false,dstB,Bool.and_eq_true]at hok
    obtain ⟨hbig,hok⟩:=hok
    have hbig:=Nat.le_of_ble_eq_true hbig
    have hdst:∀(i:Nat) (o:Oper),ops[i]? = some o→∀t,o.dst=some t→w0.np≤t∧t<N∧t<BIG:=fun i o hi t ht=>⟨hge' i o hi t ht,by
     have:=Array.all_eq_true_iff_forall_mem.1 hok o (Array.mem_of_getElem? hi)
     rw [ht]at this
     have this:t<N:=by simpa using this
     exact ⟨this,Nat.lt_of_lt_of_le this hbig⟩⟩
    refine wp_region ?_
    rw [hlist]
    refine wpOps_of_lent (K:=K .normal) hE hz0 hdst (fun σ' a' w' h1 h2=>⟨rfl,σ',h1,h2⟩) hi hg _ _ a w S' (arunI_mono (fun σ1 h1=>callL_mono (fun σ2 h2=>?_) h1) _ _ hI)
    exact arunI_of post (pre.length+1) σ2 hpost h2
   | true =>
    simp only [codeOK,if_true]at hok
    have hf:=fine_of hok
    have hsep:=hsep rfl
    simp only [sepB,Bool.and_eq_true,List.all_eq_true,List.mem_range,Bool.or_eq_true,decide_eq_true_eq]at hsep
    obtain ⟨⟨hs1,hs2⟩,hs3⟩:=hsep
    refine wp_region_any C.hm ?_
    have hrest:rest ops (Array.replicate ops.size false)=List.range ops.size:=by
     unfold rest
     apply List.filter_eq_self.2
     intro i hi
     rw [List.mem_range]at hi
     simp [hi]
    have hpl:ops.size-(pre.length+1)=post.length:=by omega
    have hb2:ops.size=pre.length+1∨ops.size=pre.length+2∧(maskM ops).testBit (128*(pre.length+1)+pre.length)=true:=by
     by_cases e:ops.size≤pre.length+1
     ·exact .inl (by omega)
     ·exact .inr ⟨by omega,hs3.resolve_left e⟩
    refine wpAny_of_lent (K:=K .normal) hf hge' hE hz0 hi hg hs1 hb2 (fun σ' a' w' h1 h2=>⟨rfl,σ',h1,h2⟩) _ _ (List.range' 0 pre.length) (prep n.n true ops σ) a _ (by simp) (by rw [hrest];simp) (fun k hk hkl=>?_) ?_ ?_ prep_rooted S'.drew (arunI_mono (fun σ1 h1=>callL_mono (fun σ2 h2=>?_) h1) _ _ hI)
    ·simp [hk]at hkl
    ·rw [hrest,hlist]
     have:ops.size-pre.length=post.length+1:=by omega
     rw [this,List.range'_succ]
    ·intro i hi o ho hnew s hs
     exact prep_noref (newsOf_mem o s hnew hs _ (by have:=Array.mem_of_getElem? ho;simpa using this))
    ·rw [hpl]
     exact arunI_of post (pre.length+1) σ2 hpost h2
  | false =>
  rw [hln]at h
  simp only [cond_false]at h
  have hI:=arunI_of ops.toList 0 _ (by simp) h
  have hr:List.range' 0 ops.toList.length=List.range ops.size:=by rw [List.range_eq_range'];simp
  rw [hr]at hI
  simp only [codeOK]at hok
  cases d with
  | false =>
   simp only [Bool.false_eq_true,if_false,dstB,Bool.and_eq_true]at hok
   obtain ⟨hbig,hok⟩:=hok
   have hbig:=Nat.le_of_ble_eq_true hbig
   refine wp_region (wpOps_of_arun (dr:=false) (K:=K .normal) hE hz0 (fun i o hi t ht=>⟨hge' i o hi t ht,?_⟩) (fun σ' a' w' h1 h2=>⟨rfl,σ',h1,h2⟩) _ _ a w S' hI)
   have:=Array.all_eq_true_iff_forall_mem.1 hok o (Array.mem_of_getElem? hi)
   rw [ht]at this
   have this:t<N:=by simpa using this
   exact ⟨this,Nat.lt_of_lt_of_le this hbig⟩
  | true =>
   simp only [if_true]at hok
   have hf:=fine_of hok
   refine wp_region_any C.hm ?_
   have hrest:rest ops (Array.replicate ops.size false)=List.range ops.size:=by
    unfold rest
    apply List.filter_eq_self.2
    intro i hi
    rw [List.mem_range]at hi
    simp [hi]
   refine wpAny_of_arun (K:=K .normal) hf hge' hE hz0 (fun σ' a' w' h1 h2=>⟨rfl,σ',h1,h2⟩) _ _ (prep n.n true ops σ) a _ (by simp) (by rw [hrest];simp) (fun k hk hkl=>?_) ?_ prep_rooted S'.drew (by rw [hrest];exact hI)
   ·simp [hk]at hkl
   ·intro i hi o ho hnew s hs
    exact prep_noref (newsOf_mem o s hnew hs _ (by have:=Array.mem_of_getElem? ho;simpa using this))
 | seq x y ihx ihy =>
  intro K σ a w hok hge h S
  simp only [codeOK,Bool.and_eq_true]at hok
  simp only [dstsGe,Bool.and_eq_true]at hge
  refine wp_seq (wp_mono (ihx _ σ a w hok.1 hge.1 h S) ?_)
  rintro e a' w' ⟨he,σ',h1,h2⟩
  cases e with
  | normal=>exact ihy K σ' a' w' hok.2 hge.2 h1 h2
  | exit id=>exact ⟨rfl,σ',h1,h2⟩
  | ret=>exact ⟨rfl,σ',h1,h2⟩
  | _=>cases he
 | cond c x y ihx ihy =>
  intro K σ a w hok hge h S
  simp only [codeOK,Bool.and_eq_true]at hok
  simp only [dstsGe,Bool.and_eq_true]at hge
  obtain ⟨t,h1,h2,h3⟩:=h
  obtain ⟨⟨Z,β,κ,S1⟩,hN⟩:=S
  refine wp_cond_split (S1.lit h1) (fun ht=>ihx K σ a w hok.1 hge.1 (h2 ht) ⟨⟨Z,β,κ,S1⟩,hN⟩) (fun ht=>ihy K σ a w hok.2 hge.2 (h3 ht) ⟨⟨Z,β,κ,S1⟩,hN⟩)
 | block id c ih =>
  intro K σ a w hok hge h S
  refine wp_block (wp_mono (ih _ σ a w hok hge h S) ?_)
  rintro e a' w' ⟨he,σ',h1,h2⟩
  cases e with
  | normal=>exact ⟨rfl,σ',h1,h2⟩
  | exit i =>
   simp only [Exit.inBlock]
   simp only at h1
   split
   ·rename_i hi
    rw [if_pos hi]at h1
    exact ⟨rfl,σ',h1,h2⟩
   ·rename_i hi
    rw [if_neg hi]at h1
    exact ⟨rfl,σ',h1,h2⟩
  | ret=>exact ⟨rfl,σ',h1,h2⟩
  | _=>cases he
 | loop c ih =>
  intro K σ a w hok hge h S
  obtain ⟨α,I,μ,x,h1,h2⟩:=h
  refine wp_loop_g (fun x a w=>Sim C.u w0 Z0 N (I x) a w) μ x (S.mono h1) fun x a w hI=>?_
  refine wp_mono (ih _ (I x) a w hok hge (h2 x) hI) ?_
  rintro e a' w' ⟨he,σ',h3,h4⟩
  cases e with
  | normal =>
   obtain ⟨x',h5,h6⟩:=h3
   exact ⟨x',h4.mono h5,h6⟩
  | exit id=>exact ⟨rfl,σ',h3,h4⟩
  | ret=>exact ⟨rfl,σ',h3,h4⟩
  | _=>cases he
 | exit id=>intro K σ a w _ _ h S;exact wp_exit ⟨rfl,σ,h,S⟩
 | ret=>intro K σ a w _ _ h S;exact wp_ret ⟨rfl,σ,h,S⟩
 | label l=>intro K σ a w _ _ h S;exact wp_label ⟨rfl,σ,h,S⟩
 | _=>intro K σ a w hok;simp [codeOK]at hok
end
end Go.Proofs.YtmekiphpjpblpaaGreat
