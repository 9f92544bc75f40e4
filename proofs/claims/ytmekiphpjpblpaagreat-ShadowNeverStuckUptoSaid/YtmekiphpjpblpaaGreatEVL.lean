import Derived.Test.YtmekiphpjpblpaaGreatEVK
/- Text VL. -/
set_option linter.unusedSimpArgs false
set_option linter.unusedVariables false
set_option maxHeartbeats 40000000
set_option maxRecDepth 100000
namespace Go.Proofs.YtmekiphpjpblpaaGreat
open Go.RowKit Lim
section
variable {C:Ctx} {σ τ:AS} {ops:Array Oper} {o oi oj:Oper}
def Eff.dst:Eff→Option Nat
 | .put d _=>d
 | .new t _=>some t
 | .set _ _ d=>d
def Eff.val:Eff→TV
 | .put _ v=>v
 | .new t _=>.ref t 0
 | .set _ _ _=>.skip
def updO {α:Type} (f:Nat→Option α) (d:Option Nat) (v:α):Nat→Option α:=match d with|some t=>upd f t (some v)|none=>f
def Eff.memKey:Eff→Option Nat
 | .put _ _=>none
 | .new t _=>some t
 | .set t _ _=>some t
def Eff.memVal:Eff→List AV
 | .put _ _=>[]
 | .new _ cs=>cs
 | .set _ cs _=>cs
def Pend (σ:AS) (o:Oper):Prop:=isNewB o=true→∀s,o.dst=some s→NoRef σ s
theorem stale_id {s:Nat} (h:NoRef σ s) (x:Nat):stale s (σ.tm x)=σ.tm x:=by
 cases hx:σ.tm x with
 | none=>rfl
 | some y =>
  cases y with
  | ref t off =>
   simp only [stale]
   rw [if_neg]
   rintro rfl
   exact h x off hx
  | _=>rfl
theorem apply_eq {e:Eff} (hp:Pend σ o) (h:eff C ops o σ e):e.apply σ=⟨updO σ.tm o.dst e.val,updO σ.mem e.memKey e.memVal,σ.own⟩∧e.dst=o.dst:=by
 rcases eff_shape h with ⟨t,cs,rfl,h1,h2⟩|⟨t,cs,rfl,_,_⟩|⟨v,rfl,_⟩
 ·refine ⟨?_,h2.symm⟩
  rw [h2]
  have hn:=hp h1 t h2
  have:(fun x=>stale t (σ.tm x))=σ.tm:=funext fun x=>stale_id hn x
  simp only [Eff.apply,AS.new,this,updO,Eff.val,Eff.memKey,Eff.memVal]
 ·refine ⟨?_,rfl⟩
  cases o.dst <;> rfl
 ·refine ⟨?_,rfl⟩
  cases o.dst <;> rfl
theorem updO_ne {α:Type} {f:Nat→Option α} {d:Option Nat} {v:α} {x:Nat} (h:d≠some x):updO f d v x=f x:=by
 cases d with
 | none=>rfl
 | some t=>simp only [updO,upd];rw [if_neg];rintro rfl;exact h rfl
theorem updO_comm {α:Type} {f:Nat→Option α} {d d':Option Nat} {v v':α} (h:∀t,d=some t→d'≠some t):updO (updO f d v) d' v'=updO (updO f d' v') d v:=by
 funext x
 by_cases h1:d=some x
 ·have h2:=h x h1
  rw [updO_ne h2]
  subst h1
  simp [updO,upd]
 ·rw [updO_ne (f:=updO f d' v') h1]
  by_cases h2:d'=some x
  ·subst h2
   simp [updO,upd]
  ·rw [updO_ne h2,updO_ne h1,updO_ne h2]
theorem NoRef.apply {e:Eff} {s:Nat} (hp:Pend σ o) (h:eff C ops o σ e) (hs:NoRef σ s) (hd:isNewB o=true→o.dst≠some s):NoRef (e.apply σ) s:=by
 intro x off
 rw [(apply_eq hp h).1]
 simp only
 by_cases hx:o.dst=some x
 ·rw [hx]
  simp only [updO,upd,if_true]
  intro he
  have hv:=Option.some.inj he
  rcases eff_shape h with ⟨t,cs,rfl,h1,h2⟩|⟨t,cs,rfl,_,_⟩|⟨v,rfl,h1⟩
  ·simp only [Eff.val]at hv
   injection hv with hv1
   exact hd h1 (by rw [h2,hv1])
  ·cases hv
  ·have hv:v=.ref s off:=hv
   rcases h1 with ⟨a,h1⟩|h1|h1
   ·rw [h1]at hv;cases hv
   ·rw [h1]at hv;cases hv
   ·exact hs.aval h1 hv
 ·rw [updO_ne hx]
  exact hs x off
theorem eff_key {e:Eff} (h:eff C ops o σ e) {t:Nat} (hk:e.memKey=some t):(isNewB o=true∧o.dst=some t)∨(isStoreB o=true∧∃a off,addrOf o=some a∧σ.tm a=some (.ref t off)):=by
 rcases eff_shape h with ⟨t',cs,rfl,h1,h2⟩|⟨t',cs,rfl,h1,h2⟩|⟨v,rfl,h1⟩
 ·cases hk;exact .inl ⟨h1,h2⟩
 ·cases hk;exact .inr ⟨h1,h2⟩
 ·cases hk
theorem mem_apply {e:Eff} (hp:Pend σ o) (h:eff C ops o σ e) {t:Nat} (hne:e.memKey≠some t):(e.apply σ).mem t=σ.mem t:=by
 rw [(apply_eq hp h).1]
 exact updO_ne hne
theorem own_apply {e:Eff} (hp:Pend σ o) (h:eff C ops o σ e):(e.apply σ).own=σ.own:=by rw [(apply_eq hp h).1]
theorem addr_operand {a:Nat} (h:addrOf o=some a):Operand.tmp a∈o.op.operands:=by
 unfold addrOf at h
 split at h <;> first|(cases h;rename_i e;rw [e];simp [Op.operands])|cases h
structure Rooted (rt:Nat→Nat) (mv ix:List Nat) (σ:AS):Prop where
 ref:∀a t off,σ.tm a=some (.ref t off)→rt a=t
 mvd:∀a∈mv,∀t off,σ.tm a≠some (.ref t off)
 idx:∀a t k i q,σ.tm a=some (.oref t k i q)→a∈ix
theorem eff_past {rt:Nat→Nat} {mv ix:List Nat} {p:Oper} {e ep:Eff} (hJ:Rooted rt mv ix σ) (hp:Pend σ p) (h:eff C ops p σ ep) (hd:∀d,p.dst=some d→d ∉ o.looksAt ops) (hst:isStoreB p=true→clash rt p o=false) :
  eff C ops o σ e ↔ eff C ops o (ep.apply σ) e:=by
 have htm:∀t∈o.looksAt ops,(ep.apply σ).tm t=σ.tm t:=fun t ht=>by
  rw [(apply_eq hp h).1]
  exact updO_ne fun hh=>hd t hh ht
 have hget:∀x∈o.op.operands,(ep.apply σ).get x=σ.get x:=looks_get htm
 have hmem:∀a,addrOf o=some a→∀t off,σ.tm a=some (.ref t off)→(ep.apply σ).mem t=σ.mem t:=fun a ha t off hxt=>by
  refine mem_apply hp h fun hk=>?_
  rcases eff_key h hk with ⟨k1,k2⟩|⟨k1,b,off',hb,k2⟩
  ·exact (hp k1 t k2) a off hxt
  ·have:=hst k1
   simp only [clash,hb,ha]at this
   rw [hJ.ref b t off' k2,hJ.ref a t off hxt]at this
   simp at this
 constructor
 ·exact eff_congr htm (own_apply hp h) hmem
 ·refine eff_congr (fun t ht=>(htm t ht).symm) (own_apply hp h).symm fun a ha t off hxt=>?_
  have hg:=hget (.tmp a) (addr_operand ha)
  simp only [AS.get]at hg
  rw [hg]at hxt
  exact (hmem a ha t off hxt).symm
theorem clash_comm (rt:Nat→Nat) (x y:Oper):clash rt x y=clash rt y x:=by
 unfold clash
 cases addrOf x <;> cases addrOf y <;> simp [Bool.beq_comm]
theorem eff_swap {rt:Nat→Nat} {mv ix:List Nat} {ei ej:Eff} (hJ:Rooted rt mv ix σ) (hind:indep ops rt ix oi oj=true) (hi:Pend σ oi) (hj:Pend σ oj) (h1:eff C ops oj σ ej) (h2:eff C ops oi (ej.apply σ) ei) :
  eff C ops oi σ ei∧eff C ops oj (ei.apply σ) ej∧ej.apply (ei.apply σ)=ei.apply (ej.apply σ):=by
 simp only [indep,Bool.and_eq_true,Bool.not_eq_true']at hind
 obtain ⟨⟨⟨hap,hcl⟩,_⟩,_⟩:=hind
 obtain ⟨a1,a2,a3⟩:=Oper.apart_spec hap
 have g1:eff C ops oi σ ei:=(eff_past hJ hj h1 a3 (fun hs=>by rw [clash_comm];rw [hs,Bool.or_true,Bool.and_true]at hcl;exact hcl)).2 h2
 have g2:eff C ops oj (ei.apply σ) ej:=(eff_past hJ hi g1 a1 (fun hs=>by rw [hs,Bool.true_or,Bool.and_true]at hcl;exact hcl)).1 h1
 have hi2:Pend (ej.apply σ) oi:=fun k s hs=>(hi k s hs).apply hj h1 fun _ he=>a2 s hs he
 have hj2:Pend (ei.apply σ) oj:=fun k s hs=>(hj k s hs).apply hi g1 fun _ he=>a2 s he hs
 refine ⟨g1,g2,?_⟩
 rw [(apply_eq hj2 g2).1,(apply_eq hi2 h2).1,(apply_eq hi g1).1,(apply_eq hj h1).1]
 simp only
 rw [updO_comm (d:=oi.dst) (d':=oj.dst) (fun t ht=>a2 t ht)]
 rw [updO_comm (d:=ei.memKey) (d':=ej.memKey)]
 intro t ht ht'
 rcases eff_key g1 ht with ⟨k1,k2⟩|⟨k1,x,off,hx,k2⟩
 ·rcases eff_key h1 ht' with ⟨l1,l2⟩|⟨l1,y,off',hy,l2⟩
  ·exact a2 t k2 l2
  ·exact (hi k1 t k2) y off' l2
 ·rcases eff_key h1 ht' with ⟨l1,l2⟩|⟨l1,y,off',hy,l2⟩
  ·exact (hj l1 t l2) x off k2
  ·rw [k1,Bool.true_or,Bool.and_true]at hcl
   simp only [clash,hx,hy]at hcl
   rw [hJ.ref x t off k2,hJ.ref y t off' l2]at hcl
   simp at hcl
def rootB (rt:Nat→Nat) (mv ix:List Nat) (o:Oper):Bool :=
 match o.op with
 | .fieldAddr _ (.tmp a) _|.nilCheck (.tmp a)=>(match o.dst with|some d=>rt d == rt a && !mv.contains d && (!ix.contains a || ix.contains d)|none=>true)
 | .indexAddr _ (.tmp a) _=>(match o.dst with|some d=>rt d == rt a && !mv.contains d && ix.contains d|none=>true)
 | .indexAddr _ _ _=>(match o.dst with|some d=>ix.contains d|none=>true)
 | .alloc _|.box _ _=>(match o.dst with|some d=>rt d == d && !mv.contains d|none=>true)
 | .move (.tmp a)=>(mv.contains a || (match o.dst with|some d=>rt d == rt a && !mv.contains d|none=>true)) && !ix.contains a
 | .assign (.tmp a)=>mv.contains a && !ix.contains a
 | .pick _ x y=>(match x with|.tmp a=>mv.contains a && !ix.contains a|_=>true) && (match y with|.tmp a=>mv.contains a && !ix.contains a|_=>true)
 | _=>true
def addrB (o:Oper):Bool :=
 match o.op with
 | .move _|.assign _|.pick _ _ _|.fieldAddr _ _ _|.indexAddr _ _ _|.nilCheck _=>true
 | _=>false
theorem aval_kind {v:TV} (hv:aval C σ o v) (hb:addrB o=false):(∃a,v=.av a)∨∃t k f n,v=.osl t k f n:=by
 obtain ⟨dst,op,type,pos,after,guard⟩:=o
 cases op with
 | move x=>cases hb
 | assign x=>cases hb
 | pick c x y=>cases hb
 | load ty x=>obtain ⟨_,_,_,_,_,_,q⟩:=hv;exact .inl ⟨_,q⟩
 | fieldAddr ty x f=>cases hb
 | field ty x f=>obtain ⟨_,_,_,_,_,_,_,_,_,_,_,_,_,_,q⟩:=hv;exact .inl ⟨_,q⟩
 | extract x i=>obtain ⟨_,_,_,_,q⟩:=hv;exact .inl ⟨_,q⟩
 | indexAddr ty x ix=>cases hb
 | index ty x ix =>
  rcases hv with ⟨_,_,_,_,_,_,_,_,_,_,_,q⟩|⟨_,_,_,_,_,_,_,_,_,_,_,_,_,_,_,_,_,q⟩
  ·exact .inl ⟨_,q⟩
  ·exact .inl ⟨_,q⟩
 | binOp b ty x y yt=>obtain ⟨_,_,_,_,_,_,q⟩:=hv;exact .inl ⟨_,q⟩
 | unOp b xt x=>obtain ⟨_,_,_,_,q⟩:=hv;exact .inl ⟨_,q⟩
 | convert src dst x =>
  obtain ⟨_,_,_,_,q⟩:=hv
  split at q
  ·exact .inl ⟨_,q⟩
  ·exact .inl ⟨_,q⟩
  ·obtain ⟨_,_,_,_,_,q⟩:=q;exact .inl ⟨_,q⟩
  ·obtain ⟨_,_,_,_,_,_,_,_,q⟩:=q;exact .inl ⟨_,q⟩
  ·obtain ⟨_,_,q⟩:=q;exact .inl ⟨_,q⟩
  ·exact q.elim
 | build ty parts=>obtain ⟨_,_,_,_,_,_,q⟩:=hv;exact .inl ⟨_,q⟩
 | makeInterface ty x=>obtain ⟨_,_,_,_,_,q⟩:=hv;exact .inl ⟨_,q⟩
 | makeFunc f first captured=>obtain ⟨_,_,_,_,q⟩:=hv;exact .inl ⟨_,q⟩
 | slice ty x lo hi mx =>
  cases mx with
  | some m=>exact hv.elim
  | none =>
   obtain ⟨_,_,_,_,_,_,q⟩:=hv
   split at q
   ·obtain ⟨_,_,_,q⟩:=q;exact .inl ⟨_,q⟩
   ·obtain ⟨_,_,_,_,q⟩:=q;exact .inl ⟨_,q⟩
   ·obtain ⟨_,_,_,_,q⟩:=q;exact .inl ⟨_,q⟩
   ·obtain ⟨_,_,_,_,q⟩:=q
    rcases q with ⟨_,q⟩|⟨_,q⟩
    ·exact .inr ⟨_,_,_,_,q⟩
    ·exact .inl ⟨_,q⟩
   ·obtain ⟨_,_,_,_,_,q⟩:=q;exact .inl ⟨_,q⟩
   ·exact q.elim
 | lookup ty x q ok =>
  obtain ⟨_,_,_,_,_,_,_,_,_,_,_,_,_,_,_,_,_,_,_,q⟩:=hv
  cases ok <;> exact .inl ⟨_,q⟩
 | nilCheck x=>cases hb
 | call c =>
  simp only [aval]at hv
  split at hv
  ·obtain ⟨_,_,_,_,_,_,q⟩:=hv
   split at q
   ·exact .inl ⟨_,q⟩
   ·obtain ⟨_,_,q⟩:=q;exact .inl ⟨_,q⟩
   ·exact q.elim
  ·obtain ⟨_,_,_,_,_,_,_,_,_,q⟩:=hv;exact .inl ⟨_,q⟩
  ·obtain ⟨_,_,_,_,_,_,_,_,_,q⟩:=hv;exact .inl ⟨_,q⟩
  ·exact hv.elim
 | _=>exact hv.elim
theorem get_tmp_ref {x:Operand} {t off:Nat} (h:σ.get x=some (.ref t off)):∃a,x=.tmp a∧σ.tm a=some (.ref t off):=by
 cases x with
 | tmp a=>exact ⟨a,rfl,h⟩
 | const v=>obtain ⟨u,h3,_⟩:=constT_sound h;cases h3
 | _=>cases h
theorem get_tmp_oref {x:Operand} {t k i q:Nat} (h:σ.get x=some (.oref t k i q)):∃a,x=.tmp a∧σ.tm a=some (.oref t k i q):=by
 cases x with
 | tmp a=>exact ⟨a,rfl,h⟩
 | const v=>obtain ⟨u,h3,_⟩:=constT_sound h;cases h3
 | _=>cases h
theorem aval_ref {rt:Nat→Nat} {mv ix:List Nat} (hJ:Rooted rt mv ix σ) (hb:rootB rt mv ix o=true) {t off:Nat} (hv:aval C σ o (.ref t off)) {d:Nat} (hd:o.dst=some d):rt d=t∧d ∉ mv:=by
 have hk:addrB o=true:=by
  cases h:addrB o with
  | true=>rfl
  | false=>rcases aval_kind hv h with ⟨_,e⟩|⟨_,_,_,_,e⟩ <;> cases e
 obtain ⟨dst,op,type,pos,after,guard⟩:=o
 simp only at hd
 subst hd
 cases op with
 | move x =>
  obtain ⟨a,rfl,ha⟩:=get_tmp_ref hv
  simp only [rootB,Bool.and_eq_true,Bool.or_eq_true,beq_iff_eq,Bool.not_eq_true']at hb
  rcases hb.1 with q|q
  ·exact absurd ha (hJ.mvd a (by simpa using q) t off)
  ·exact ⟨q.1.trans (hJ.ref a t off ha),by simpa using q.2⟩
 | assign x =>
  obtain ⟨a,rfl,ha⟩:=get_tmp_ref hv
  simp only [rootB,Bool.and_eq_true]at hb
  exact absurd ha (hJ.mvd a (by simpa using hb.1) t off)
 | pick c x y =>
  obtain ⟨b,_,q2⟩:=hv
  cases b
  ·obtain ⟨a,rfl,ha⟩:=get_tmp_ref q2
   simp only [rootB,Bool.and_eq_true]at hb
   exact absurd ha (hJ.mvd a (by simpa using hb.2.1) t off)
  ·obtain ⟨a,rfl,ha⟩:=get_tmp_ref q2
   simp only [rootB,Bool.and_eq_true]at hb
   exact absurd ha (hJ.mvd a (by simpa using hb.1.1) t off)
 | fieldAddr ty x f =>
  obtain ⟨x',hx',off',hx⟩:=(aval_addr hv).1 t off rfl
  simp only [Op.operands]at hx'
  obtain rfl:x'=x:=by simpa using hx'
  obtain ⟨a,rfl,ha⟩:=get_tmp_ref hx
  simp only [rootB,Bool.and_eq_true,beq_iff_eq,Bool.not_eq_true']at hb
  exact ⟨hb.1.1.trans (hJ.ref a t off' ha),by simpa using hb.1.2⟩
 | indexAddr ty x y =>
  obtain ⟨i,s,q,n,_,hx,_,_,h5⟩:=hv
  unfold idxT at h5
  split at h5
  ·obtain ⟨_,_,h6⟩:=h5;cases h6
  ·obtain ⟨_,_,h6⟩:=h5;cases h6
  ·obtain ⟨_,h6⟩:=h5
   cases h6
   obtain ⟨a,rfl,ha⟩:=get_tmp_ref hx
   simp only [rootB,Bool.and_eq_true,beq_iff_eq,Bool.not_eq_true']at hb
   exact ⟨hb.1.1.trans (hJ.ref a _ _ ha),by simpa using hb.1.2⟩
  ·obtain ⟨_,h6⟩:=h5;cases h6
  ·obtain ⟨_,h6⟩:=h5;cases h6
  ·obtain ⟨_,h6⟩:=h5;cases h6
  ·exact h5.elim
 | nilCheck x =>
  obtain ⟨x',hx',off',hx⟩:=(aval_addr hv).1 t off rfl
  simp only [Op.operands]at hx'
  obtain rfl:x'=x:=by simpa using hx'
  obtain ⟨a,rfl,ha⟩:=get_tmp_ref hx
  simp only [rootB,Bool.and_eq_true,beq_iff_eq,Bool.not_eq_true']at hb
  exact ⟨hb.1.1.trans (hJ.ref a t off' ha),by simpa using hb.1.2⟩
 | _=>cases hk
theorem aval_oref {rt:Nat→Nat} {mv ix:List Nat} (hJ:Rooted rt mv ix σ) (hb:rootB rt mv ix o=true) {t k i q:Nat} (hv:aval C σ o (.oref t k i q)) {d:Nat} (hd:o.dst=some d):d∈ix:=by
 have hk:addrB o=true:=by
  cases h:addrB o with
  | true=>rfl
  | false=>rcases aval_kind hv h with ⟨_,e⟩|⟨_,_,_,_,e⟩ <;> cases e
 obtain ⟨dst,op,type,pos,after,guard⟩:=o
 simp only at hd
 subst hd
 cases op with
 | move x =>
  obtain ⟨a,rfl,ha⟩:=get_tmp_oref hv
  simp only [rootB,Bool.and_eq_true,Bool.not_eq_true']at hb
  have:=hJ.idx a _ _ _ _ ha
  simp at hb
  exact absurd this hb.2
 | assign x =>
  obtain ⟨a,rfl,ha⟩:=get_tmp_oref hv
  simp only [rootB,Bool.and_eq_true,Bool.not_eq_true']at hb
  have:=hJ.idx a _ _ _ _ ha
  simp at hb
  exact absurd this hb.2
 | pick c x y =>
  obtain ⟨b,_,q2⟩:=hv
  cases b
  ·obtain ⟨a,rfl,ha⟩:=get_tmp_oref q2
   simp only [rootB,Bool.and_eq_true,Bool.not_eq_true']at hb
   have:=hJ.idx a _ _ _ _ ha
   have h2:=hb.2.2
   simp at h2
   exact absurd this h2
  ·obtain ⟨a,rfl,ha⟩:=get_tmp_oref q2
   simp only [rootB,Bool.and_eq_true,Bool.not_eq_true']at hb
   have:=hJ.idx a _ _ _ _ ha
   have h2:=hb.1.2
   simp at h2
   exact absurd this h2
 | fieldAddr ty x f =>
  rcases (aval_addr hv).2 t k i q rfl with ⟨_,_,_,e⟩|⟨x',hx',k',i',q',hx⟩
  ·cases e
  ·simp only [Op.operands]at hx'
   obtain rfl:x'=x:=by simpa using hx'
   obtain ⟨a,rfl,ha⟩:=get_tmp_oref hx
   have:=hJ.idx a _ _ _ _ ha
   simp only [rootB,Bool.and_eq_true,Bool.or_eq_true,Bool.not_eq_true']at hb
   rcases hb.2 with h|h
   ·simp at h;exact absurd this h
   ·simpa using h
 | indexAddr ty x y =>
  cases x with
  | tmp a=>simp only [rootB,Bool.and_eq_true]at hb;simpa using hb.2
  | _=>simpa [rootB]using hb
 | nilCheck x =>
  rcases (aval_addr hv).2 t k i q rfl with ⟨_,_,_,e⟩|⟨x',hx',k',i',q',hx⟩
  ·cases e
  ·simp only [Op.operands]at hx'
   obtain rfl:x'=x:=by simpa using hx'
   obtain ⟨a,rfl,ha⟩:=get_tmp_oref hx
   have:=hJ.idx a _ _ _ _ ha
   simp only [rootB,Bool.and_eq_true,Bool.or_eq_true,Bool.not_eq_true']at hb
   rcases hb.2 with h|h
   ·simp at h;exact absurd this h
   ·simpa using h
 | _=>cases hk
theorem Rooted.step {rt:Nat→Nat} {mv ix:List Nat} {e:Eff} (hJ:Rooted rt mv ix σ) (hp:Pend σ o) (h:eff C ops o σ e) (hb:rootB rt mv ix o=true):Rooted rt mv ix (e.apply σ):=by
 have shape:=eff_shape h
 have key:∀a t off,(e.apply σ).tm a=some (.ref t off)→rt a=t∧(a∈mv→False):=fun a t off ha=>by
  rw [(apply_eq hp h).1]at ha
  simp only at ha
  by_cases hx:o.dst=some a
  ·rw [hx]at ha
   simp only [updO,upd,if_true]at ha
   have hv:=Option.some.inj ha
   rcases shape with ⟨t',cs,rfl,k1,k2⟩|⟨t',cs,rfl,_,_⟩|⟨v,rfl,h1⟩
   ·cases hv
    rw [hx]at k2
    cases k2
    obtain ⟨dst,op,type,pos,after,guard⟩:=o
    simp only at hx
    subst hx
    cases op with
    | alloc ty=>simp only [rootB,Bool.and_eq_true,beq_iff_eq,Bool.not_eq_true']at hb;exact ⟨hb.1,fun hm=>by simp at hb;exact hb.2 hm⟩
    | box ty x=>simp only [rootB,Bool.and_eq_true,beq_iff_eq,Bool.not_eq_true']at hb;exact ⟨hb.1,fun hm=>by simp at hb;exact hb.2 hm⟩
    | _=>cases k1
   ·cases hv
   ·have hv:v=.ref t off:=hv
    subst hv
    rcases h1 with ⟨b,h1⟩|h1|h1
    ·cases h1
    ·cases h1
    ·exact aval_ref hJ hb h1 hx
  ·rw [updO_ne hx]at ha
   exact ⟨hJ.ref a t off ha,fun hm=>hJ.mvd a hm t off ha⟩
 refine ⟨fun a t off ha=>(key a t off ha).1,fun a hm t off ha=>(key a t off ha).2 hm,fun a t k i q ha=>?_⟩
 rw [(apply_eq hp h).1]at ha
 simp only at ha
 by_cases hx:o.dst=some a
 ·rw [hx]at ha
  simp only [updO,upd,if_true]at ha
  have hv:=Option.some.inj ha
  rcases shape with ⟨t',cs,rfl,k1,k2⟩|⟨t',cs,rfl,_,_⟩|⟨v,rfl,h1⟩
  ·cases hv
  ·cases hv
  ·have hv:v=.oref t k i q:=hv
   subst hv
   rcases h1 with ⟨b,h1⟩|h1|h1
   ·cases h1
   ·cases h1
   ·exact aval_oref hJ hb h1 hx
 ·rw [updO_ne hx]at ha
  exact hJ.idx a t k i q ha
structure RefLe (σ' σ:AS):Prop where
 ref:∀x t off,σ'.tm x=some (.ref t off)→σ.tm x=some (.ref t off)
 oref:∀x t k i q,σ'.tm x=some (.oref t k i q)→σ.tm x=some (.oref t k i q)
theorem RefLe.put (d:Option Nat) {v:TV} (h1:∀t off,v≠.ref t off) (h2:∀t k i q,v≠.oref t k i q) (σ:AS):RefLe (σ.put d v) σ:=by
 cases d with
 | none=>exact ⟨fun _ _ _ h=>h,fun _ _ _ _ _ h=>h⟩
 | some s =>
  refine ⟨fun x t off h=>?_,fun x t k i q h=>?_⟩
  ·by_cases e:x=s
   ·rw [e]at h;simp only [AS.put,upd_same]at h;cases h;exact absurd rfl (h1 t off)
   ·simp only [AS.put]at h;rw [upd_ne _ _ e]at h;exact h
  ·by_cases e:x=s
   ·rw [e]at h;simp only [AS.put,upd_same]at h;cases h;exact absurd rfl (h2 t k i q)
   ·simp only [AS.put]at h;rw [upd_ne _ _ e]at h;exact h
theorem RefLe.mem {σ':AS} {t:Nat} {cs:List AV} (h:RefLe σ' (σ.setMem t cs)):RefLe σ' σ:=⟨h.1,h.2⟩
theorem RefLe.own {σ':AS} {t:Nat} {ov:OV} (h:RefLe σ' (σ.setOwn t ov)):RefLe σ' σ:=⟨h.1,h.2⟩
theorem RefLe.newMap (σ:AS) (d:Nat) (ov:OV):RefLe (σ.newMap d ov) σ:=by
 have key:∀x v,(σ.newMap d ov).tm x=some v→v≠.omap d→σ.tm x=some v:=fun x v h hv=>by
  by_cases e:x=d
  ·rw [e]at h;simp only [AS.newMap,upd_same]at h;cases h;exact absurd rfl hv
  ·simp only [AS.newMap]at h
   rw [upd_ne _ _ e]at h
   exact (staleO_some h).1
 exact ⟨fun x t off h=>key x _ h (by simp),fun x t k i q h=>key x _ h (by simp)⟩
theorem RefLe.newOwn (σ:AS) (s:Option Nat) (d:Nat) (ov:OV):RefLe (σ.newOwn s d ov) σ:=by
 have key:∀x v,(σ.newOwn s d ov).tm x=some v→v≠.osl d ov.k 0 ov.len→σ.tm x=some v:=fun x v h hv=>by
  by_cases e:x=d
  ·rw [e]at h;simp only [AS.newOwn,upd_same]at h;cases h;exact absurd rfl hv
  ·simp only [AS.newOwn]at h
   rw [upd_ne _ _ e]at h
   have h1:=(staleO_some h).1
   cases s with
   | none=>exact h1
   | some s=>exact (staleO_some h1).1
 exact ⟨fun x t off h=>key x _ h (by simp),fun x t k i q h=>key x _ h (by simp)⟩
theorem loud_step {ix:List Nat} {K:AS→Prop} (hl:loudB ix o=true) (h:astepG C true ops o σ K):∃σ',K σ'∧RefLe σ' σ∧∀K':AS→Prop,K' σ'→astepG C true ops o σ K':=by
 obtain ⟨b,h1,h2,h3⟩:=h
 cases b with
 | false=>exact ⟨_,h3 rfl,RefLe.put _ (by simp) (by simp) σ,fun K' hK=>⟨false,h1,(fun h=>by cases h),fun _=>hK⟩⟩
 | true =>
  have h:=h2 rfl
  have wrap:(∃σ',K σ'∧RefLe σ' σ∧∀K':AS→Prop,K' σ'→astep C true o σ K')→∃σ',K σ'∧RefLe σ' σ∧∀K':AS→Prop,K' σ'→astepG C true ops o σ K':=fun ⟨σ',q1,q2,q3⟩ =>
   ⟨σ',q1,q2,fun K' hK=>⟨true,h1,fun _=>q3 K' hK,fun h=>by cases h⟩⟩
  apply wrap
  clear wrap h2 h3 h1
  obtain ⟨dst,op,type,pos,after,guard⟩:=o
  cases op with
  | makeSlice ty x y =>
   obtain ⟨t,e,k,l,z,bb,i,q1,q2,n,m,ht,a1,a2,a3,a4,a5,a6,a7,a8,a9,a10,a11⟩:=h
   cases l with
   | true =>
    obtain ⟨b1,b2,b3⟩:=a11
    exact ⟨_,b3,RefLe.newOwn _ _ _ _,fun K' hK=>⟨t,e,k,true,z,bb,i,q1,q2,n,m,ht,a1,a2,a3,a4,a5,a6,a7,a8,a9,a10,b1,b2,hK⟩⟩
   | false =>
    obtain ⟨b1,b2,b3⟩:=a11
    exact ⟨_,b3,RefLe.newOwn _ _ _ _,fun K' hK=>⟨t,e,k,false,z,bb,i,q1,q2,n,m,ht,a1,a2,a3,a4,a5,a6,a7,a8,a9,a10,b1,b2,hK⟩⟩
  | makeMap ty r =>
   obtain ⟨t,k,e,z,bb,ki,ht,h1,h2,h3,h4⟩:=h
   exact ⟨_,h4,RefLe.newMap _ _ _,fun K' hK=>⟨t,k,e,z,bb,ki,ht,h1,h2,h3,hK⟩⟩
  | mapUpdate ty x q y =>
   obtain ⟨k,e,z,bb,ki,t,m,kv,yv,h1,h2,hx,ho,hq,hkb,hy,hu,hnot,hK⟩:=h
   refine ⟨_,hK,?_,fun K' hK=>⟨k,e,z,bb,ki,t,m,kv,yv,h1,h2,hx,ho,hq,hkb,hy,hu,hnot,hK⟩⟩
   rw [hu rfl,frz_nil]
   exact (RefLe.put (v:=.skip) dst (by simp) (by simp) (σ.setOwn t _)).own
  | store ty x y =>
   obtain ⟨i,z,a1,a2,au,a3,a4,a5⟩:=h
   cases hx:σ.get x with
   | none=>rw [hx]at a5;exact a5.elim
   | some v =>
    cases v with
    | ref t off =>
     rw [hx]at a5
     obtain ⟨b1,cs,b2,b3,b4⟩:=a5
     refine ⟨_,b4,?_,fun K' hK=>⟨i,z,a1,a2,au,a3,a4,?_⟩⟩
     ·rw [au rfl,frz_nil]
      exact (RefLe.put (v:=.skip) dst (by simp) (by simp) (σ.setMem t _)).mem
     ·rw [hx];exact ⟨b1,cs,b2,b3,hK⟩
    | oref t k j q =>
     rw [hx]at a5
     obtain ⟨b1,a5⟩:=a5
     cases hov:σ.own t with
     | none=>rw [hov]at a5;exact a5.elim
     | some ov =>
      rw [hov]at a5
      cases ov with
      | row e k' es =>
       obtain ⟨c1,c2,el,c3,c4,c5⟩:=a5
       refine ⟨_,c5,?_,fun K' hK=>⟨i,z,a1,a2,au,a3,a4,?_⟩⟩
       ·rw [au rfl,frz_nil]
        exact (RefLe.put (v:=.skip) dst (by simp) (by simp) (σ.setOwn t _)).own
       ·rw [hx];refine ⟨b1,?_⟩;rw [hov];exact ⟨c1,c2,el,c3,c4,hK⟩
      | map kd m=>exact a5.elim
      | limb e l =>
       obtain ⟨c1,c2,c3,n,c4,c5,c6,c7⟩:=a5
       refine ⟨_,c7,?_,fun K' hK=>⟨i,z,a1,a2,au,a3,a4,?_⟩⟩
       ·rw [au rfl,frz_nil]
        exact (RefLe.put (v:=.skip) dst (by simp) (by simp) (σ.setOwn t _)).own
       ·rw [hx];refine ⟨b1,?_⟩;rw [hov];exact ⟨c1,c2,c3,n,c4,c5,c6,hK⟩
    | _=>rw [hx]at a5;exact a5.elim
  | call c =>
   obtain ⟨callee,cargs,ctys⟩:=c
   dsimp only [astep]at h ⊢
   split at h
   ·cases hl
   ·obtain ⟨d,x,y,ty,ty',e,k,l,z,bb,i,xv,s,ov,yv,ov',ht,a1,a2,a3,a4,a5,a6,a7,a8,a9,a10,a11,a12,a13,a14,a15,a16⟩:=h
    exact ⟨_,a16,RefLe.newOwn _ _ _ _,fun K' hK=>⟨d,x,y,ty,ty',e,k,l,z,bb,i,xv,s,ov,yv,ov',ht,a1,a2,a3,a4,a5,a6,a7,a8,a9,a10,a11,a12,a13,a14,a15,hK⟩⟩
   ·obtain ⟨x,y,ty,ty',e,k,l,z,bb,t,off,n,ov,yv,m,yv',ov',a1,a2,a3,a4,a5,a6,a7,a8,a9,a10,a11⟩:=h
    refine ⟨_,a11,?_,fun K' hK=>⟨x,y,ty,ty',e,k,l,z,bb,t,off,n,ov,yv,m,yv',ov',a1,a2,a3,a4,a5,a6,a7,a8,a9,a10,hK⟩⟩
    exact (RefLe.put (v:=.av (.lit (.int .i64 (m:Nat)))) dst (by simp) (by simp) (σ.setOwn t _)).own
   ·cases hl
   ·rename_i n1 n2 n3 n4
    simp only [loudB]at hl
    cases hl
  | _=>cases hl
theorem RefLe.noref {σ':AS} {s:Nat} (h:RefLe σ' σ) (hs:NoRef σ s):NoRef σ' s:=fun x off hx=>hs x off (h.ref x s off hx)
theorem RefLe.rooted {σ':AS} {rt:Nat→Nat} {mv ix:List Nat} (h:RefLe σ' σ) (hJ:Rooted rt mv ix σ):Rooted rt mv ix σ' :=
 ⟨fun a t off ha=>hJ.ref a t off (h.ref a t off ha),fun a hm t off ha=>hJ.mvd a hm t off (h.ref a t off ha),fun a t k i q ha=>hJ.idx a t k i q (h.oref a t k i q ha)⟩
end
end Go.Proofs.YtmekiphpjpblpaaGreat
