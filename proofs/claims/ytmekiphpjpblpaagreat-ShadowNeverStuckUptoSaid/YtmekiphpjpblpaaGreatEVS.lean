import Derived.Test.YtmekiphpjpblpaaGreatEVM
/- Text VS. -/
set_option linter.unusedSimpArgs false
set_option linter.unusedVariables false
set_option maxHeartbeats 40000000
set_option maxRecDepth 100000
namespace Go.Proofs.YtmekiphpjpblpaaGreat
open Go.RowKit Lim
theorem astep_mono {C:Ctx} {dr:Bool} {o:Oper} {σ:AS} {K K':AS→Prop} (hk:∀σ,K σ→K' σ) (h:astep C dr o σ K):astep C dr o σ K':=by
 obtain ⟨dst,op,type,pos,after,guard⟩:=o
 cases op with
 | alloc ty=>obtain ⟨t,i,h1,h2,h3,h4,h5⟩:=h;exact ⟨t,i,h1,h2,h3,h4,hk _ h5⟩
 | box ty x=>obtain ⟨t,y,h1,h2,h3,h4,h5,h6⟩:=h;exact ⟨t,y,h1,h2,h3,h4,h5,hk _ h6⟩
 | store ty x y =>
  obtain ⟨i,z,h1,h2,h3,h4,h5,h6⟩:=h
  refine ⟨i,z,h1,h2,h3,h4,h5,?_⟩
  split at h6
  ·obtain ⟨g1,cs,g2,g3,g4⟩:=h6;exact ⟨g1,cs,g2,g3,hk _ g4⟩
  ·obtain ⟨g0,h6⟩:=h6
   refine ⟨g0,?_⟩
   split at h6
   ·obtain ⟨g1,g2,el,g3,g4,g5⟩:=h6;exact ⟨g1,g2,el,g3,g4,hk _ g5⟩
   ·obtain ⟨g1,g2,g3,n,g4,g5,g6,g7⟩:=h6;exact ⟨g1,g2,g3,n,g4,g5,g6,hk _ g7⟩
   ·exact h6.elim
  ·exact h6.elim
 | build ty parts=>obtain ⟨fs,z,b,cs,h1,h2,h3,h4⟩:=h;exact ⟨fs,z,b,cs,h1,h2,h3,hk _ h4⟩
 | buildSlice ty n parts =>
  obtain ⟨e,k,l,z,b,i,cs,h1,h2,h3,h4,h5,h6,h7,h8,h9⟩:=h
  refine ⟨e,k,l,z,b,i,cs,h1,h2,h3,h4,h5,h6,h7,h8,?_⟩
  cases l with
  | true=>obtain ⟨g1,ns,g2,g3⟩:=h9;exact ⟨g1,ns,g2,hk _ g3⟩
  | false=>exact hk _ h9
 | makeMap ty r =>
  obtain ⟨t,k,e,z,bb,ki,ht,h1,h2,h3,h4⟩:=h
  exact ⟨t,k,e,z,bb,ki,ht,h1,h2,h3,hk _ h4⟩
 | mapUpdate ty x q y =>
  obtain ⟨k,e,z,bb,ki,t,m,kv,yv,h1,h2,hx,ho,hq,hkb,hy,hu,hnot,hK⟩:=h
  exact ⟨k,e,z,bb,ki,t,m,kv,yv,h1,h2,hx,ho,hq,hkb,hy,hu,hnot,hk _ hK⟩
 | makeSlice ty x y =>
  obtain ⟨t,e,k,l,z,bb,i,q1,q2,n,m,ht,a1,a2,a3,a4,a5,a6,a7,a8,a9,a10,a11⟩:=h
  refine ⟨t,e,k,l,z,bb,i,q1,q2,n,m,ht,a1,a2,a3,a4,a5,a6,a7,a8,a9,a10,?_⟩
  cases l with
  | true=>obtain ⟨g1,g2,g3⟩:=a11;exact ⟨g1,g2,hk _ g3⟩
  | false=>obtain ⟨g1,g2,g3⟩:=a11;exact ⟨g1,g2,hk _ g3⟩
 | call c =>
  obtain ⟨callee,cargs,ctys⟩:=c
  dsimp only [astep]at h ⊢
  have hcall:callS C dr dst ⟨callee,cargs,ctys⟩ σ K→callS C dr dst ⟨callee,cargs,ctys⟩ σ K':=fun ⟨f,pre,post,args,r,h0,h1,h2,h3,h4⟩=>⟨f,pre,post,args,r,h0,h1,h2,h3,hk _ h4⟩
  split at h
  ·exact hcall h
  ·obtain ⟨d,x,y,ty,ty',e,k,l,z,bb,i,xv,s,ov,yv,ov',ht,a1,a2,a3,a4,a5,a6,a7,a8,a9,a10,a11,a12,a13,a14,a15,a16⟩:=h
   exact ⟨d,x,y,ty,ty',e,k,l,z,bb,i,xv,s,ov,yv,ov',ht,a1,a2,a3,a4,a5,a6,a7,a8,a9,a10,a11,a12,a13,a14,a15,hk _ a16⟩
  ·obtain ⟨x,y,ty,ty',e,k,l,z,bb,t,off,n,ov,yv,m,yv',ov',a1,a2,a3,a4,a5,a6,a7,a8,a9,a10,a11⟩:=h
   exact ⟨x,y,ty,ty',e,k,l,z,bb,t,off,n,ov,yv,m,yv',ov',a1,a2,a3,a4,a5,a6,a7,a8,a9,a10,hk _ a11⟩
  ·exact hcall h
  ·obtain ⟨v,h1,h2⟩:=h;exact ⟨v,h1,hk _ h2⟩
 | _=>obtain ⟨v,h1,h2⟩:=h;exact ⟨v,h1,hk _ h2⟩
theorem astepG_mono {C:Ctx} {dr:Bool} {ops:Array Oper} {o:Oper} {σ:AS} {K K':AS→Prop} (hk:∀σ,K σ→K' σ) (h:astepG C dr ops o σ K):astepG C dr ops o σ K':=by
 obtain ⟨b,h1,h2,h3⟩:=h
 exact ⟨b,h1,fun hb=>astep_mono hk (h2 hb),fun hb=>hk _ (h3 hb)⟩
def arun (C:Ctx) (dr:Bool) (ops:Array Oper):List Oper→AS→(AS→Prop)→Prop
 | [],σ,K=>K σ
 | o :: l,σ,K=>astepG C dr ops o σ (fun σ'=>arun C dr ops l σ' K)
def newsOf:List Oper→List Nat
 | []=>[]
 | o :: l=>match isNewB o,o.dst with|true,some t=>t :: newsOf l|_,_=>newsOf l
def ofL {α:Type}:List (Nat × α)→Nat→Option α
 | [],_=>none
 | (k,v) :: l,x=>if x=k then some v else ofL l x
def slotsT:Nat→List TV→Nat→Option TV
 | _,[],_=>none
 | k,x :: l,t=>if t=k then some x else slotsT (k+1) l t
theorem slotsT_get:∀(l:List TV) (k t:Nat),slotsT k l t=if k≤t then l[t-k]? else none
 | [],k,t=>by simp [slotsT]
 | x :: l,k,t=>by
  simp only [slotsT]
  by_cases h:t=k
  ·subst h;simp
  ·rw [if_neg h,slotsT_get l (k+1) t]
   by_cases h2:k≤t
   ·rw [if_pos (by omega),if_pos h2]
    have:t-k=(t-(k+1))+1:=by omega
    rw [this,List.getElem?_cons_succ]
   ·rw [if_neg (by omega),if_neg h2]
def LCalls (C:Ctx) (f:FuncId) (xs:List TV) (M:Nat→Option (List AV)) (O:Nat→Option OV) (r:TV) (M':Nat→Option (List AV)) (O':Nat→Option OV):Prop :=
 FnOK C.P f∧(∀t cs,M' t=some cs→∃cs',M t=some cs')∧∀(B:Base) (Z:Zone) (β:Nat→Nat) (κ:Nat→Nat × Nat) (vs:Array Value),C.EL B→(∀b o,Z b o→b<B.w.heap.size)→(∀b,B.L b→(∃t cs,M t=some cs∧β t=b)∨∃t ov,O t=some ov∧(κ t).1=b)→vs.size=xs.length →
  Sim1 C.u B Z ⟨slotsT 0 xs,M,O⟩ ⟨vs,[]⟩ B.w Z β κ →
  Calls C.P f vs B.w fun e w'=>∃v Z' β' κ',e=.returned v∧Sim1 C.u B Z ⟨slotsT 0 [r],M',O'⟩ ⟨#[v],[]⟩ w' Z' β' κ'∧(∀t cs,M t=some cs→β' t=β t)∧(∀t ov,O t=some ov→t<BIG→κ' t=κ t) ∧
   (∀b,B.free b→b<w'.heap.size→(∀o,Z' b o)∨(∃t ov,O' t=some ov∧(κ' t).1=b)∨∃t cs,M' t=some cs∧β' t=b)
def fwd:List (Nat × Nat)→Nat→Nat
 | [],_=>0
 | (c,t) :: l,x=>if x=c then t else fwd l x
def nodupB:List Nat→Bool
 | []=>true
 | x :: l=>!l.contains x && nodupB l
theorem nodupB_sound:∀(l:List Nat),nodupB l=true→l.Nodup
 | [],_=>List.nodup_nil
 | x :: l,h=>by
  simp only [nodupB,Bool.and_eq_true,Bool.not_eq_true',List.contains_eq_mem,decide_eq_false_iff_not]at h
  exact List.nodup_cons.2 ⟨h.1,nodupB_sound l h.2⟩
theorem fwd_mem:∀(l:List (Nat × Nat)),(l.map (·.1)).Nodup→∀c t,(c,t)∈l→fwd l c=t
 | [],_,c,t,h=>by cases h
 | (c',t') :: l,hn,c,t,h=>by
  simp only [List.map_cons,List.nodup_cons]at hn
  simp only [fwd]
  rcases List.mem_cons.1 h with e|h
  ·cases e;rw [if_pos rfl]
  ·rw [if_neg (fun e=>hn.1 (by rw [←e];exact List.mem_map_of_mem (f:=(·.1)) h))]
   exact fwd_mem l hn.2 c t h
theorem snd_inj:∀(l:List (Nat × Nat)),(l.map (·.2)).Nodup→∀c c' t,(c,t)∈l→(c',t)∈l→c=c'
 | [],_,c,c',t,h,_=>by cases h
 | (a,b) :: l,hn,c,c',t,h,h'=>by
  simp only [List.map_cons,List.nodup_cons]at hn
  rcases List.mem_cons.1 h with e|h
  ·rcases List.mem_cons.1 h' with e'|h'
   ·cases e;cases e';rfl
   ·cases e;exact absurd (List.mem_map_of_mem (f:=(·.2)) h') hn.1
  ·rcases List.mem_cons.1 h' with e'|h'
   ·cases e';exact absurd (List.mem_map_of_mem (f:=(·.2)) h) hn.1
   ·exact snd_inj l hn.2 c c' t h h'
def lends {α:Type} (g:Nat→Option α):List (Nat × Nat)→List (Nat × α)→Prop
 | [],[]=>True
 | (c,t) :: l,(c',x) :: m=>c=c'∧g t=some x∧lends g l m
 | _,_=>False
theorem lends_mem {α:Type} {g:Nat→Option α}:∀(l:List (Nat × Nat)) (m:List (Nat × α)),lends g l m→∀c x,ofL m c=some x→∃t,(c,t)∈l∧g t=some x
 | [],[],_,c,x,h=>by cases h
 | (c,t) :: l,(c',x) :: m,h,d,y,hd=>by
  obtain ⟨rfl,h1,h2⟩:=h
  simp only [ofL]at hd
  split at hd
  ·rename_i e;subst e;cases hd;exact ⟨t,List.mem_cons_self,h1⟩
  ·obtain ⟨t',q1,q2⟩:=lends_mem l m h2 d y hd
   exact ⟨t',List.mem_cons_of_mem _ q1,q2⟩
 | [],_ :: _,h,_,_,_=>h.elim
 | _ :: _,[],h,_,_,_=>h.elim
theorem lends_of {α:Type} {g:Nat→Option α}:∀(l:List (Nat × Nat)) (m:List (Nat × α)),lends g l m→(l.map (·.1)).Nodup→∀c t,(c,t)∈l→∃x,ofL m c=some x∧g t=some x
 | [],[],_,_,c,t,h=>by cases h
 | (c,t) :: l,(c',x) :: m,h,hn,d,s,hd=>by
  obtain ⟨rfl,h1,h2⟩:=h
  simp only [List.map_cons,List.nodup_cons]at hn
  rcases List.mem_cons.1 hd with e|hd
  ·cases e;exact ⟨x,by simp [ofL],h1⟩
  ·obtain ⟨y,q1,q2⟩:=lends_of l m h2 hn.2 d s hd
   refine ⟨y,?_,q2⟩
   simp only [ofL]
   rw [if_neg (fun e=>hn.1 (by rw [←e];exact List.mem_map_of_mem (f:=(·.1)) hd))]
   exact q1
 | [],_ :: _,h,_,_,_,_=>h.elim
 | _ :: _,[],h,_,_,_,_=>h.elim
def gives {α:Type}:List (Nat × Nat)→(Nat→Option α)→(Nat→Option α)→Nat→Option α
 | [],_,f=>f
 | (c,t) :: l,g,f=>gives l g (upd f t (g c))
theorem gives_out {α:Type}:∀(l:List (Nat × Nat)) (g f:Nat→Option α) t,t ∉ l.map (·.2)→gives l g f t=f t
 | [],g,f,t,_=>rfl
 | p :: l,g,f,t,h=>by
  simp only [List.map_cons,List.mem_cons,not_or]at h
  simp only [gives]
  rw [gives_out l _ _ t h.2,upd_ne _ _ h.1]
theorem gives_mem {α:Type}:∀(l:List (Nat × Nat)),(l.map (·.2)).Nodup→∀(g f:Nat→Option α) c t,(c,t)∈l→gives l g f t=g c
 | [],_,g,f,c,t,h=>by cases h
 | (c',t') :: l,hn,g,f,c,t,h=>by
  simp only [List.map_cons,List.nodup_cons]at hn
  simp only [gives]
  rcases List.mem_cons.1 h with e|h
  ·cases e
   rw [gives_out l _ _ _ hn.1,upd_same]
  ·exact gives_mem l hn.2 g _ c t h
def AV.links1:AV→List Nat
 | .lnk n _=>[n]
 | _=>[]
def AV.links2:AV→List Nat
 | .agg cs=>cs.flatMap AV.links1
 | a=>a.links1
def AV.links:AV→List Nat
 | .tup l=>l.flatMap AV.links2
 | a=>a.links2
def memL (cs:List AV):List Nat:=cs.flatMap AV.links1
theorem lnk1_on {κ κ':Nat→Nat × Nat} {a:AV} {v:Value} (h:∀n∈a.links1,κ' (BIG+n)=κ (BIG+n)) (hl:lnk1 κ a v):lnk1 κ' a v:=by
 cases a <;> first|trivial|(simp only [lnk1,h _ (List.mem_singleton.2 rfl)]at hl ⊢;exact hl)
theorem lnk2_on {κ κ':Nat→Nat × Nat} {a:AV} {v:Value} (h:∀n∈a.links2,κ' (BIG+n)=κ (BIG+n)) (hl:lnk2 κ a v):lnk2 κ' a v:=by
 cases a with
 | agg cs=>exact fun j c u h1 h2=>lnk1_on (fun n hn=>h n (List.mem_flatMap.2 ⟨c,List.mem_of_getElem? h1,hn⟩)) (hl j c u h1 h2)
 | _=>simp only [lnk2,AV.links2]at h hl ⊢;exact lnk1_on h hl
theorem lnk3_on {κ κ':Nat→Nat × Nat} {a:AV} {v:Value} (h:∀n∈a.links,κ' (BIG+n)=κ (BIG+n)) (hl:lnk3 κ a v):lnk3 κ' a v:=by
 cases a with
 | tup l =>
  cases v with
  | tuple vs=>exact fun j c u h1 h2=>lnk2_on (fun n hn=>h n (List.mem_flatMap.2 ⟨c,List.mem_of_getElem? h1,hn⟩)) (hl j c u h1 h2)
  | _=>trivial
 | _=>simp only [lnk3,AV.links]at h hl ⊢;exact lnk2_on h hl
def inL (LL:List Nat) (t:Nat):Bool:=LL.any fun n=>t == BIG+n
theorem inL_iff {LL:List Nat} {t:Nat}:inL LL t=true ↔ ∃n∈LL,t=BIG+n:=by simp [inL]
theorem inL_lt {LL:List Nat} {t:Nat} (h:t<BIG):inL LL t=false:=by
 cases hh:inL LL t with
 | false=>rfl
 | true=>obtain ⟨n,_,e⟩:=inL_iff.1 hh;omega
def wipeT (LL:List Nat):TV→Option TV
 | .osl t k o l=>if inL LL t then none else some (.osl t k o l)
 | .oref t k i o=>if inL LL t then none else some (.oref t k i o)
 | .omap t=>if inL LL t then none else some (.omap t)
 | .avl a=>if a.links.any LL.contains then none else some (.avl a)
 | x=>some x
def AS.wipe (σ:AS) (LL ks:List Nat):AS:=match LL with
 | []=>σ
 | LL=>{ σ with tm:=fun x=>(σ.tm x).bind (wipeT LL),mem:=fun t=>if ks.contains t then σ.mem t else (σ.mem t).bind fun cs=>if (memL cs).any LL.contains then none else some cs }
def ownB (LL:List Nat) (g f:Nat→Option OV):Nat→Option OV:=match LL with
 | []=>f
 | LL=>fun t=>if inL LL t then g t else f t
theorem ownB_in {LL:List Nat} {g f:Nat→Option OV} {t:Nat} (h:inL LL t=true):ownB LL g f t=g t:=by
 cases LL with
 | nil=>cases h
 | cons n l=>simp only [ownB,h,if_true]
theorem ownB_out {LL:List Nat} {g f:Nat→Option OV} {t:Nat} (h:inL LL t=false):ownB LL g f t=f t:=by
 cases LL with
 | nil=>rfl
 | cons n l=>simp only [ownB,h,Bool.false_eq_true,if_false]
theorem wipeT_id {LL:List Nat} {x y:TV} (h:wipeT LL x=some y):y=x:=by
 cases x <;> simp only [wipeT]at h <;> first|(cases h;rfl)|(split at h <;> cases h;rfl)
theorem wipeT_self {LL:List Nat} {x y:TV} (h:wipeT LL x=some y):wipeT LL y=some y:=by
 have:=wipeT_id h
 subst this
 exact h
def asks (T:TyTab) (pm po:List (Nat × Nat)) (ty:TypeId):TV→TV→Prop
 | .av a,y=>y=.av (normA T ty a)
 | .ref t off,y=>∃c,(c,t)∈pm∧y=.ref c off
 | .osl t k off len,y=>∃c,(c,t)∈po∧y=.osl c k off len
 | .oref t k i o,y=>∃c,(c,t)∈po∧y=.oref c k i o
 | .omap t,y=>∃c,(c,t)∈po∧y=.omap c
 | .avl a,y=>(∀n∈a.links,(BIG+n,BIG+n)∈po)∧y=.avl a
 | .skip,_=>False
def asksL (C:Ctx) (σ:AS) (pm po:List (Nat × Nat)):List Operand→List TypeId→List TV→Prop
 | [],_,ys=>ys=[]
 | x :: xs,tys,ys=>∃v y ys',σ.get x=some v∧asks C.T pm po (tys.headD 0) v y∧ys=y :: ys'∧asksL C σ pm po xs tys.tail ys'
def backS (σ:AS) (d:Option Nat) (O':Nat→Option OV) (po:List (Nat × Nat)) (LL:List Nat):TV→(AS→Prop)→Prop
 | .av a,K=>K (σ.put d (.av a))
 | .avl a,K=>(∀n∈a.links,n∈LL)∧K (σ.put d (.avl a))
 | .osl c k off len,K=>c<BIG∧c ∉ po.map (·.1)∧off=0∧∃t ov,d=some t∧(∀ov,σ.own t=some ov→ov.hot=false)∧O' c=some ov∧k=ov.k∧len=ov.len∧K (σ.newOwn none t ov)
 | _,_=>False
def TV.new:TV→Option Nat
 | .osl c _ _ _=>some c
 | _=>none
def doneS (σ:AS) (pm po:List (Nat × Nat)) (LL:List Nat) (M':Nat→Option (List AV)) (O':Nat→Option OV):AS :=
 { σ.wipe LL (pm.map (·.2))with mem:=gives pm M' (σ.wipe LL (pm.map (·.2))).mem,own:=ownB LL O' (gives po O' σ.own) }
def namesOK (po:List (Nat × Nat)) (LL:List Nat):Prop:=∀c t,(c,t)∈po→(c<BIG∧t<BIG)∨∃n∈LL,c=BIG+n∧t=BIG+n
def callC (C:Ctx) (o:Oper) (σ:AS) (K:AS→Prop):Prop :=
 ∃(f:FuncId) (args:Array Operand) (tys:Array TypeId) (pm po:List (Nat × Nat)) (LL:List Nat) (xs:List TV) (M:List (Nat × List AV)) (O:List (Nat × OV)) (r:TV) (M':Nat→Option (List AV)) (O':Nat→Option OV),
  o.op=.call ⟨.value (.func f),args,tys⟩∧nodupB (pm.map (·.1))=true∧nodupB (pm.map (·.2))=true∧nodupB (po.map (·.1))=true∧nodupB (po.map (·.2))=true ∧
  lends σ.mem pm M∧lends σ.own po O∧asksL C σ pm po args.toList tys.toList xs ∧
  (LCalls C.t f xs (ofL M) (ofL O) r M' O'∨LCalls C f xs (ofL M) (ofL O) r M' O'∧∀t ov,σ.own t=some ov→t ∉ po.map (·.2)→ov.hot=false) ∧
  (namesOK po LL∧(∀t ov,σ.own t=some ov→inL LL t=true→ov.hot=false)∧(∀c cs,ofL M c=some cs→∀n∈memL cs,(BIG+n,BIG+n)∈po)∧(∀c cs,M' c=some cs→∀n∈memL cs,n∈LL)) ∧
  (∀c ov,O' c=some ov→c∈po.map (·.1)∨r.new=some c∨inL LL c=true) ∧
  backS (doneS σ pm po LL M' O') o.dst O' po LL r K
theorem callC_mono {C:Ctx} {o:Oper} {σ:AS} {K K':AS→Prop} (hk:∀σ,K σ→K' σ) (h:callC C o σ K):callC C o σ K':=by
 obtain ⟨f,args,tys,pm,po,LL,xs,M,O,r,M',O',h1,h2,h3,h4,h5,h6,h7,h8,h9,h10,h13,h11⟩:=h
 refine ⟨f,args,tys,pm,po,LL,xs,M,O,r,M',O',h1,h2,h3,h4,h5,h6,h7,h8,h9,h10,h13,?_⟩
 cases r with
 | av a=>exact hk _ h11
 | avl a=>exact ⟨h11.1,hk _ h11.2⟩
 | osl c k off len=>obtain ⟨q0,q1,q2,t,ov,q3,q4,q5,q6,q7,q8⟩:=h11;exact ⟨q0,q1,q2,t,ov,q3,q4,q5,q6,q7,hk _ q8⟩
 | _=>exact h11.elim
section
variable {C:Ctx} {u:Bool} {w0:Base} {w w':World} {Z0 Z Z':Zone} {σ τ:AS} {a:Act} {β:Nat→Nat} {κ:Nat→Nat × Nat} {pm po:List (Nat × Nat)}
theorem asksL_len:∀(xs:List Operand) (tys:List TypeId) (ys:List TV),asksL C σ pm po xs tys ys→ys.length=xs.length
 | [],_,ys,h=>by cases h;rfl
 | x :: xs,tys,ys,h=>by
  obtain ⟨v,y,ys',h1,h2,rfl,h3⟩:=h
  simp [asksL_len xs tys.tail ys' h3]
theorem asksL_get (hb:∀c t,(c,t)∈pm→fwd pm c=t) (hk:∀c t,(c,t)∈po→fwd po c=t) (S:Sim1 u w0 Z0 σ a w Z β κ):∀(xs:List Operand) (tys:List TypeId) (ys:List TV),asksL C σ pm po xs tys ys→∀(j:Nat) (y:TV) (x:Operand),ys[j]? = some y→xs[j]? = some x→RepT w Z (fun c=>β (fwd pm c)) (fun c=>κ (fwd po c)) y (a.eval x)
 | [],_,ys,h,j,y,x,hy,hx=>by simp at hx
 | x :: xs,tys,ys,h,j,y,z,hy,hz=>by
  obtain ⟨v,y',ys',h1,h2,rfl,h3⟩:=h
  cases j with
  | succ j=>exact asksL_get hb hk S xs tys.tail ys' h3 j y z (by simpa using hy) (by simpa using hz)
  | zero =>
   simp at hy hz
   subst hy hz
   have hr:=S.get h1
   cases v with
   | av b=>cases h2;exact normA_sound hr
   | ref t off=>obtain ⟨c,q1,rfl⟩:=h2;simp only [RepT,hb c t q1];exact hr
   | osl t k off len=>obtain ⟨c,q1,rfl⟩:=h2;simp only [RepT,hk c t q1];exact hr
   | oref t k i o=>obtain ⟨c,q1,rfl⟩:=h2;simp only [RepT,hk c t q1];exact hr
   | omap t=>obtain ⟨c,q1,rfl⟩:=h2;simp only [RepT,hk c t q1];exact hr
   | avl b=>obtain ⟨q1,rfl⟩:=h2;exact ⟨hr.1,lnk3_on (fun n hn=>by rw [hk _ _ (q1 n hn)]) hr.2⟩
   | skip=>exact h2.elim
def lent (β:Nat→Nat) (κ:Nat→Nat × Nat) (pm po:List (Nat × Nat)) (b:Nat):Prop:=(∃c t,(c,t)∈pm∧β t=b)∨∃c t,(c,t)∈po∧(κ t).1=b
theorem lent_free (S:Sim1 u w0 Z0 σ a w Z β κ) {M:List (Nat × List AV)} {O:List (Nat × OV)} (hm:∀c t,(c,t)∈pm→∃x,ofL M c=some x∧σ.mem t=some x) (ho:∀c t,(c,t)∈po→∃x,ofL O c=some x∧σ.own t=some x) {b:Nat} (h:lent β κ pm po b):w0.free b∧b<w.heap.size∧∀o,¬Z b o:=by
 rcases h with ⟨c,t,h1,rfl⟩|⟨c,t,h1,rfl⟩
 ·obtain ⟨x,_,q⟩:=hm c t h1
  have:=S.mem t x q
  exact ⟨this.1,this.2.lt,this.2.out⟩
 ·obtain ⟨x,_,q⟩:=ho c t h1
  have:=S.own t x q
  exact ⟨this.1,this.2.lt,this.2.out⟩
theorem Sim1.wiped (S:Sim1 u w0 Z0 σ a w Z β κ) (LL ks:List Nat):∃Z',Sim1 u w0 Z0 (σ.wipe LL ks) a w Z' β κ∧∀b o,Z b o→Z' b o:=by
 cases LL with
 | nil=>exact ⟨Z,S,fun _ _ h=>h⟩
 | cons n l =>
  refine ⟨_,S.drop (τ:=σ.wipe (n :: l) ks) (fun t cs h=>?_) (fun t ov h=>h) rfl (fun t x h=>?_),fun b o h=>.inl h⟩
  ·simp only [AS.wipe]at h
   split at h
   ·exact h
   ·obtain ⟨y,h1,h2⟩:=Option.bind_eq_some_iff.1 h
    split at h2
    ·cases h2
    ·cases h2;exact h1
  ·obtain ⟨y,h1,h2⟩:=Option.bind_eq_some_iff.1 h
   have:=wipeT_id h2
   subst this
   obtain ⟨q1,q2⟩:=S.tm t x h1
   exact ⟨q1,q2.keep (Keeps.refl _ _) (fun _ _ h=>.inl h)⟩
theorem wipe_tm {LL ks:List Nat} {t:Nat} {x:TV} (h:(σ.wipe LL ks).tm t=some x) (hl:LL≠[]):wipeT LL x=some x:=by
 cases LL with
 | nil=>exact absurd rfl hl
 | cons n l =>
  obtain ⟨y,_,h2⟩:=Option.bind_eq_some_iff.1 h
  exact wipeT_self h2
theorem wipe_mem {LL ks:List Nat} {t:Nat} {cs:List AV} (h:(σ.wipe LL ks).mem t=some cs) (ht:ks.contains t=false):∀n∈memL cs,n ∉ LL:=by
 intro m hm hl
 cases LL with
 | nil=>cases hl
 | cons n l =>
  simp only [AS.wipe]at h
  rw [if_neg (by rw [ht];simp)]at h
  obtain ⟨y,_,h2⟩:=Option.bind_eq_some_iff.1 h
  split at h2
  ·cases h2
  ·rename_i hh
   cases h2
   exact hh (List.any_eq_true.2 ⟨m,hm,by simpa using hl⟩)
theorem wipe_keep {LL ks:List Nat} {t:Nat} (ht:t∈ks):(σ.wipe LL ks).mem t=σ.mem t:=by
 cases LL with
 | nil=>rfl
 | cons n l=>simp only [AS.wipe];rw [if_pos (by simpa using ht)]
theorem wipe_own {LL ks:List Nat}:(σ.wipe LL ks).own=σ.own:=by cases LL <;> rfl
theorem Sim1.lend (S:Sim1 u w0 Z0 σ a w Z β κ) {u':Bool} {M:List (Nat × List AV)} {O:List (Nat × OV)} (hm1:∀c x,ofL M c=some x→∃t,(c,t)∈pm∧σ.mem t=some x) (ho1:∀c x,ofL O c=some x→∃t,(c,t)∈po∧σ.own t=some x)
  (hfm:∀c t,(c,t)∈pm→fwd pm c=t) (hfo:∀c t,(c,t)∈po→fwd po c=t) (him:∀c c' t,(c,t)∈pm→(c',t)∈pm→c=c') (hio:∀c c' t,(c,t)∈po→(c',t)∈po→c=c') (hMl:∀c cs,ofL M c=some cs→∀n∈memL cs,(BIG+n,BIG+n)∈po)
  {xs:List TV} {vs:Array Value} (hv:vs.size=xs.length) (hx:∀(j:Nat) (y:TV) (v:Value),xs[j]? = some y→vs[j]? = some v→RepT w Z (fun c=>β (fwd pm c)) (fun c=>κ (fwd po c)) y v)
  (hal:u'=true→∀b o v,w.cell? ⟨b,o,none⟩=some v→noLimb v=false→Z b o∨∃c ov,ofL O c=some ov∧ov.hot=true∧(κ (fwd po c)).1=b) :
  Sim1 u' ⟨w,lent β κ pm po,0,fun _=>undef⟩ Z ⟨slotsT 0 xs,ofL M,ofL O⟩ ⟨vs,[]⟩ w Z (fun c=>β (fwd pm c)) (fun c=>κ (fwd po c)):=by
 refine ⟨fun _ _ h=>h,fun _ _ h=>.inl h,fun t x h=>?_,fun c cs h=>?_,fun c c' cs cs' h h' e=>?_,fun c ov h=>?_,fun c c' cs cs' h h' e=>?_,fun c c' cs ov h h'=>?_,hal,Base.Keep.refl _,rfl,fun c cs j n len h hj=>?_⟩
 ·simp only [slotsT_get,Nat.zero_le,if_true,Nat.sub_zero]at h
  have hlt:=(List.getElem?_eq_some_iff.1 h).1
  have hlt':t<vs.size:=by omega
  refine ⟨hlt',?_⟩
  have hv':vs[t]? = some (vs[t]'hlt'):=Array.getElem?_eq_getElem hlt'
  have:=hx t x _ h hv'
  simp only [Array.getD_eq_getD_getElem?,hv',Option.getD_some]
  exact this
 ·obtain ⟨t,q1,q2⟩:=hm1 c cs h
  obtain ⟨p1,p2⟩:=S.mem t cs q2
  rw [hfm c t q1]
  exact ⟨.inr (.inl ⟨c,t,q1,rfl⟩),p2⟩
 ·obtain ⟨t,q1,q2⟩:=hm1 c cs h
  obtain ⟨t',q1',q2'⟩:=hm1 c' cs' h'
  simp only [hfm c t q1,hfm c' t' q1']at e
  have:=S.inj t t' cs cs' q2 q2' e
  subst this
  exact him c c' t q1 q1'
 ·obtain ⟨t,q1,q2⟩:=ho1 c ov h
  obtain ⟨p1,p2⟩:=S.own t ov q2
  rw [hfo c t q1]
  exact ⟨.inr (.inr ⟨c,t,q1,rfl⟩),p2⟩
 ·obtain ⟨t,q1,q2⟩:=ho1 c cs h
  obtain ⟨t',q1',q2'⟩:=ho1 c' cs' h'
  simp only [hfo c t q1,hfo c' t' q1']at e
  have:=S.injO t t' cs cs' q2 q2' e
  subst this
  exact hio c c' t q1 q1'
 ·obtain ⟨t,q1,q2⟩:=hm1 c cs h
  obtain ⟨t',q1',q2'⟩:=ho1 c' ov h'
  simp only [hfm c t q1,hfo c' t' q1']
  exact S.injM t t' cs ov q2 q2'
 ·obtain ⟨t,q1,q2⟩:=hm1 c cs h
  have hp:=hMl c cs h n (List.mem_flatMap.2 ⟨_,List.mem_of_getElem? hj,List.mem_singleton.2 rfl⟩)
  rw [hfm c t q1,hfo _ _ hp]
  exact S.lnk t cs j n len q2 hj
theorem Sim1.back (S:Sim1 u w0 Z0 σ a w Z β κ) {u':Bool} {M:List (Nat × List AV)} {O:List (Nat × OV)} {M':Nat→Option (List AV)} {O':Nat→Option OV} {d:Option Nat} (hd:∀t,d=some t→t<a.tmps.size) (hdB:∀t,d=some t→t<BIG) (n:Option Nat) (LL:List Nat)
  (hwt:∀t x,σ.tm t=some x→LL≠[]→wipeT LL x=some x) (hwm:∀t cs,t ∉ pm.map (·.2)→σ.mem t=some cs→∀n∈memL cs,n ∉ LL) (hpo:namesOK po LL)
  (hm2:∀c t,(c,t)∈pm→∃x,ofL M c=some x∧σ.mem t=some x) (ho2:∀c t,(c,t)∈po→∃x,ofL O c=some x∧σ.own t=some x)
  (hfm:∀c t,(c,t)∈pm→fwd pm c=t) (hfo:∀c t,(c,t)∈po→fwd po c=t) (hnm:(pm.map (·.2)).Nodup) (hno:(po.map (·.2)).Nodup)
  {x:TV} {v:Value} {β':Nat→Nat} {κ':Nat→Nat × Nat} (S':Sim1 u' ⟨w,lent β κ pm po,0,fun _=>undef⟩ Z ⟨slotsT 0 [x],M',O'⟩ ⟨#[v],[]⟩ w' Z' β' κ')
  (hM:∀t cs,M' t=some cs→∃cs',ofL M t=some cs') (hβ:∀t cs,ofL M t=some cs→β' t=β (fwd pm t)) (hκ:∀t ov,ofL O t=some ov→t<BIG→κ' t=κ (fwd po t))
  (hcov:∀b,(Base.mk w (lent β κ pm po) 0 fun _=>undef).free b→b<w'.heap.size→(∀o,Z' b o)∨(∃t ov,O' t=some ov∧(κ' t).1=b)∨∃t cs,M' t=some cs∧β' t=b)
  (hhot:u=true→u'=true→∀t ov,σ.own t=some ov→t ∉ po.map (·.2)→ov.hot=false)
  (hhotL:∀t ov,σ.own t=some ov→inL LL t=true→ov.hot=false)
  (hO':∀c ov,O' c=some ov→c∈po.map (·.1)∨n=some c∨inL LL c=true) (hML:∀c cs,M' c=some cs→∀n∈memL cs,n∈LL)
  (hn:∀c,n=some c→c<BIG∧c ∉ po.map (·.1)∧∃t ov,d=some t∧(∀ov,ownB LL O' (gives po O' σ.own) t=some ov→ov.hot=false)∧O' c=some ov∧x=.osl c ov.k 0 ov.len)
  (hn0:n=none→(∃b,x=.av b)∨∃b,x=.avl b∧∀m∈b.links,m∈LL) :
  ∃κ2,Sim1 u w0 Z0 (match n with|none=>AS.put { σ with mem:=gives pm M' σ.mem,own:=ownB LL O' (gives po O' σ.own) } d x|some c=>(match d,O' c with|some t,some ov=>AS.newOwn { σ with mem:=gives pm M' σ.mem,own:=ownB LL O' (gives po O' σ.own) } none t ov|_,_=>σ)) (a.put d v) w' Z' β κ2:=by
 have hL:∀{b},lent β κ pm po b→w0.free b∧b<w.heap.size∧∀o,¬Z b o:=fun h=>lent_free S hm2 ho2 h
 have hk:Keeps Z w w':=⟨S'.below.size,fun b o v hz hc=>by
  have hlt:=World.block_lt_of_cell? w _ hc
  have hb:=S'.below.block b hlt (fun hl=>(hL hl).2.2 o hz)
  exact (World.cell?_of_block (a:=⟨b,o,none⟩) hb).trans hc⟩
 have hz:∀b o,Z b o→Z' b o:=S'.z0
 have hout:∀g,g<w.heap.size→¬lent β κ pm po g→(∀o,¬Z g o)→∀o,¬Z' g o:=fun g hg hl ho o h=>by
  rcases S'.z1 g o h with h|⟨h|h,_⟩
  ·exact ho o h
  ·have h:w.heap.size≤g:=h
   omega
  ·exact hl h
 have hblk:∀g,g<w.heap.size→¬lent β κ pm po g→w'.heap[g]? = w.heap[g]?:=fun g hg hl=>S'.below.block g hg hl
 have hfree:∀{b},(Base.mk w (lent β κ pm po) 0 fun _=>undef).free b→w0.free b:=fun h=>by
  rcases h with h|h
  ·exact .inl (Nat.le_trans S.below.size h)
  ·exact (hL h).1
 have far:∀{b g},(Base.mk w (lent β κ pm po) 0 fun _=>undef).free b→g<w.heap.size→¬lent β κ pm po g→b≠g:=fun h1 h2 h3 e=>by
  subst e
  rcases h1 with h|h
  ·have h:w.heap.size≤_:=h
   omega
  ·exact h3 h
 let κ2:Nat→Nat × Nat:=fun t=>if inL LL t then κ' t else κ t
 have k2in:∀{t},inL LL t=true→κ2 t=κ' t:=fun h=>by simp only [κ2,h,if_true]
 have k2out:∀{t},inL LL t=false→κ2 t=κ t:=fun h=>by simp only [κ2,h,Bool.false_eq_true,if_false]
 have notlentM:∀t cs,t ∉ pm.map (·.2)→σ.mem t=some cs→¬lent β κ pm po (β t):=fun t cs ht h hl=>by
  rcases hl with ⟨c,t',h1,e⟩|⟨c,t',h1,e⟩
  ·obtain ⟨y,_,q⟩:=hm2 c t' h1
   have:=S.inj t' t y cs q h e
   subst this
   exact ht (List.mem_map_of_mem (f:=(·.2)) h1)
  ·obtain ⟨y,_,q⟩:=ho2 c t' h1
   exact S.injM t t' cs y h q e.symm
 have notlentO:∀t ov,t ∉ po.map (·.2)→σ.own t=some ov→¬lent β κ pm po (κ t).1:=fun t ov ht h hl=>by
  rcases hl with ⟨c,t',h1,e⟩|⟨c,t',h1,e⟩
  ·obtain ⟨y,_,q⟩:=hm2 c t' h1
   exact S.injM t' t y ov q h e
  ·obtain ⟨y,_,q⟩:=ho2 c t' h1
   have:=S.injO t' t y ov q h e
   subst this
   exact ht (List.mem_map_of_mem (f:=(·.2)) h1)
 have memC:∀t cs,gives pm M' σ.mem t=some cs→(∃c,(c,t)∈pm∧M' c=some cs∧β' c=β t)∨(t ∉ pm.map (·.2)∧σ.mem t=some cs):=fun t cs h=>by
  by_cases ht:t∈pm.map (·.2)
  ·obtain ⟨⟨c,t'⟩,h1,rfl⟩:=List.mem_map.1 ht
   rw [gives_mem pm hnm _ _ c t' h1]at h
   obtain ⟨cs',q⟩:=hM c cs h
   exact .inl ⟨c,h1,h,by rw [hβ c cs' q,hfm c t' h1]⟩
  ·rw [gives_out pm _ _ t ht]at h
   exact .inr ⟨ht,h⟩
 have memF:∀t cs,gives pm M' σ.mem t=some cs→w0.free (β t)∧Loc w' Z' (β t) cs:=fun t cs h=>by
  rcases memC t cs h with ⟨c,h1,h2,h3⟩|⟨h1,h2⟩
  ·obtain ⟨q1,q2⟩:=S'.mem c cs h2
   rw [←h3]
   exact ⟨hfree q1,q2⟩
  ·obtain ⟨q1,q2⟩:=S.mem t cs h2
   have hl:=notlentM t cs h1 h2
   exact ⟨q1,q2.keep (hblk _ q2.lt hl) hk hz (hout _ q2.lt hl q2.out)⟩
 have memS:∀t cs,gives pm M' σ.mem t=some cs→∃x,σ.mem t=some x:=fun t cs h=>by
  rcases memC t cs h with ⟨c,h1,_,_⟩|⟨_,h2⟩
  ·obtain ⟨x,_,q⟩:=hm2 c t h1;exact ⟨x,q⟩
  ·exact ⟨cs,h2⟩
 have memI:∀t t' cs cs',gives pm M' σ.mem t=some cs→gives pm M' σ.mem t'=some cs'→β t=β t'→t=t':=fun t t' cs cs' h h' e=>by
  obtain ⟨x,q⟩:=memS t cs h
  obtain ⟨x',q'⟩:=memS t' cs' h'
  exact S.inj t t' x x' q q' e
 have memlt:∀t cs,gives pm M' σ.mem t=some cs→β t<w.heap.size:=fun t cs h=>by
  obtain ⟨x,q⟩:=memS t cs h
  exact (S.mem t x q).2.lt
 have ownC:∀t ov,ownB LL O' (gives po O' σ.own) t=some ov→(∃c,O' c=some ov∧κ2 t=κ' c∧((c,t)∈po∧c<BIG∨c=t∧inL LL t=true))∨(t ∉ po.map (·.2)∧inL LL t=false∧σ.own t=some ov):=fun t ov h=>by
  cases hL2:inL LL t with
  | true =>
   rw [ownB_in hL2]at h
   exact .inl ⟨t,h,k2in hL2,.inr ⟨rfl,rfl⟩⟩
  | false =>
   rw [ownB_out hL2]at h
   by_cases ht:t∈po.map (·.2)
   ·obtain ⟨⟨c,t'⟩,h1,rfl⟩:=List.mem_map.1 ht
    rw [gives_mem po hno _ _ c t' h1]at h
    obtain ⟨y,q,_⟩:=ho2 c t' h1
    have hlt:c<BIG∧t'<BIG:=by
     rcases hpo c t' h1 with h2|⟨m,hm,_,e⟩
     ·exact h2
     ·have:inL LL t'=true:=inL_iff.2 ⟨m,hm,e⟩
      have hL2:inL LL t'=false:=hL2
      rw [hL2]at this;cases this
    exact .inl ⟨c,h,by rw [k2out hL2,hκ c y q hlt.1,hfo c t' h1],.inl ⟨h1,hlt.1⟩⟩
   ·rw [gives_out po _ _ t ht]at h
    exact .inr ⟨ht,rfl,h⟩
 have ownF:∀t ov,ownB LL O' (gives po O' σ.own) t=some ov→w0.free (κ2 t).1∧Own w' Z' (κ2 t).1 (κ2 t).2 ov:=fun t ov h=>by
  rcases ownC t ov h with ⟨c,h1,h2,_⟩|⟨h1,h2,h3⟩
  ·obtain ⟨q1,q2⟩:=S'.own c ov h1
   rw [h2]
   exact ⟨hfree q1,q2⟩
  ·obtain ⟨q1,q2⟩:=S.own t ov h3
   have hl:=notlentO t ov h1 h3
   rw [k2out h2]
   exact ⟨q1,q2.keep (hblk _ q2.lt hl) hk hz (hout _ q2.lt hl q2.out)⟩
 have same:∀{c c' t t'},((c,t)∈po∧c<BIG∨c=t∧inL LL t=true)→((c',t')∈po∧c'<BIG∨c'=t'∧inL LL t'=true)→c=c'→t=t':=fun {c c' t t'} h h' e=>by
  subst e
  rcases h with ⟨h1,h2⟩|⟨h1,h2⟩
  ·rcases h' with ⟨h3,_⟩|⟨h3,h4⟩
   ·rw [←hfo c t h1,←hfo c t' h3]
   ·obtain ⟨m,_,e⟩:=inL_iff.1 h4
    omega
  ·rcases h' with ⟨_,h3⟩|⟨h3,_⟩
   ·obtain ⟨m,_,e⟩:=inL_iff.1 h2
    omega
   ·exact h1.symm.trans h3
 have ownI:∀t t' ov ov',ownB LL O' (gives po O' σ.own) t=some ov→ownB LL O' (gives po O' σ.own) t'=some ov'→(κ2 t).1=(κ2 t').1→t=t':=fun t t' ov ov' h h' e=>by
  rcases ownC t ov h with ⟨c,h1,h2,h3⟩|⟨h1,h2,h3⟩
  ·rcases ownC t' ov' h' with ⟨c',p1,p2,p3⟩|⟨p1,p2,p3⟩
   ·rw [h2,p2]at e
    exact same h3 p3 (S'.injO c c' ov ov' h1 p1 e)
   ·rw [h2,k2out p2]at e
    exact absurd e (far (S'.own c ov h1).1 (S.own t' ov' p3).2.lt (notlentO t' ov' p1 p3))
  ·rcases ownC t' ov' h' with ⟨c',p1,p2,p3⟩|⟨p1,p2,p3⟩
   ·rw [p2,k2out h2]at e
    exact absurd e.symm (far (S'.own c' ov' p1).1 (S.own t ov h3).2.lt (notlentO t ov h1 h3))
   ·rw [k2out h2,k2out p2]at e
    exact S.injO t t' ov ov' h3 p3 e
 have ownM:∀t t' cs ov,gives pm M' σ.mem t=some cs→ownB LL O' (gives po O' σ.own) t'=some ov→β t≠(κ2 t').1:=fun t t' cs ov h h' e=>by
  rcases memC t cs h with ⟨c,g1,g2,g3⟩|⟨g1,g2⟩
  ·rcases ownC t' ov h' with ⟨c',p1,p2,p3⟩|⟨p1,p2,p3⟩
   ·rw [p2,←g3]at e
    exact S'.injM c c' cs ov g2 p1 e
   ·rw [k2out p2,←g3]at e
    exact absurd e (far (S'.mem c cs g2).1 (S.own t' ov p3).2.lt (notlentO t' ov p1 p3))
  ·rcases ownC t' ov h' with ⟨c',p1,p2,p3⟩|⟨p1,p2,p3⟩
   ·rw [p2]at e
    exact absurd e.symm (far (S'.own c' ov p1).1 (S.mem t cs g2).2.lt (notlentM t cs g1 g2))
   ·rw [k2out p2]at e
    exact S.injM t t' cs ov g2 p3 e
 have lnkF:∀t cs (j m len:Nat),gives pm M' σ.mem t=some cs→cs[j]? = some (.lnk m len)→w'.cell? ⟨β t,j,none⟩=some (.slice (some ⟨(κ2 (BIG+m)).1,0,none⟩) len (κ2 (BIG+m)).2):=fun t cs j m len h hj=>by
  have hml:m∈memL cs:=List.mem_flatMap.2 ⟨_,List.mem_of_getElem? hj,List.mem_singleton.2 rfl⟩
  rcases memC t cs h with ⟨c,g1,g2,g3⟩|⟨g1,g2⟩
  ·rw [k2in (inL_iff.2 ⟨m,hML c cs g2 m hml,rfl⟩),←g3]
   exact S'.lnk c cs j m len g2 hj
  ·have hn:inL LL (BIG+m)=false:=by
    cases hh:inL LL (BIG+m)with
    | false=>rfl
    | true =>
     obtain ⟨m',q1,q2⟩:=inL_iff.1 hh
     have:m=m':=by omega
     subst this
     exact absurd q1 (hwm t cs g1 g2 m hml)
   rw [k2out hn,World.cell?_of_block (a:=⟨β t,j,none⟩) (hblk _ (S.mem t cs g2).2.lt (notlentM t cs g1 g2))]
   exact S.lnk t cs j m len g2 hj
 have tmF:∀t y,σ.tm t=some y→RepT w' Z' β κ2 y (a.tmps.getD t undef):=fun t y h=>by
  have p3:=(S.tm t y h).2.keep hk hz
  by_cases hLL:LL=[]
  ·have e:κ2=κ:=by funext t;exact k2out (by rw [hLL];rfl)
   rw [e];exact p3
  ·have hw:=hwt t y h hLL
   cases y with
   | osl t2 k o m =>
    simp only [wipeT]at hw
    split at hw
    ·cases hw
    ·rename_i hh
     simp only [RepT,k2out (by simpa using hh)]
     exact p3
   | oref t2 k i o =>
    simp only [wipeT]at hw
    split at hw
    ·cases hw
    ·rename_i hh
     simp only [RepT,k2out (by simpa using hh)]
     exact p3
   | omap t2 =>
    simp only [wipeT]at hw
    split at hw
    ·cases hw
    ·rename_i hh
     simp only [RepT,k2out (by simpa using hh)]
     exact p3
   | avl b =>
    simp only [wipeT]at hw
    split at hw
    ·cases hw
    ·rename_i hh
     refine ⟨p3.1,lnk3_on (fun m hm=>k2out ?_) p3.2⟩
     cases hq:inL LL (BIG+m)with
     | false=>rfl
     | true =>
      obtain ⟨m',q1,q2⟩:=inL_iff.1 hq
      have:m=m':=by omega
      subst this
      exact absurd (List.any_eq_true.2 ⟨m,hm,by simpa using q1⟩) hh
   | _=>exact p3
 have lim:u=true→∀b o v,w'.cell? ⟨b,o,none⟩=some v→noLimb v=false→∀c ov,O' c=some ov→(κ' c).1=b→ov.hot=true:=fun _ b o v hc hl c ov hO e=>by
  cases hh:ov.hot with
  | true=>rfl
  | false =>
   obtain ⟨_,q⟩:=S'.own c ov hO
   cases ov with
   | limb _ _=>cases hh
   | map kd m =>
    obtain ⟨es,clock,p1,_⟩:=q
    rw [←e,cell_map p1]at hc
    cases hc
   | row e2 k es =>
    obtain ⟨cur,p1,p2,p3,p4,p5,p6,p7,p8⟩:=q
    have hbx:Box w' (κ' c).1 cur e2:=p1
    rw [←e,hbx.cell]at hc
    obtain ⟨q1,q2⟩:=Array.getElem?_eq_some_iff.1 hc
    have:=p7 v (by rw [←q2];simp)
    rw [hl]at this
    cases this
 have alF:u=true→∀b o v,w'.cell? ⟨b,o,none⟩=some v→noLimb v=false→Z' b o∨(∃t ov,ownB LL O' (gives po O' σ.own) t=some ov∧ov.hot=true∧(κ2 t).1=b)∨∃c ov,n=some c∧O' c=some ov∧ov.hot=true∧(κ' c).1=b:=fun hu b o v hc hl=>by
  have row:∀c ov,O' c=some ov→(κ' c).1=b→(∃t ov,ownB LL O' (gives po O' σ.own) t=some ov∧ov.hot=true∧(κ2 t).1=b)∨∃c ov,n=some c∧O' c=some ov∧ov.hot=true∧(κ' c).1=b:=fun c ov hO e=>by
   have hh:=lim hu b o v hc hl c ov hO e
   rcases hO' c ov hO with h|h|h
   ·obtain ⟨⟨c',t⟩,h1,rfl⟩:=List.mem_map.1 h
    obtain ⟨y,q,_⟩:=ho2 c' t h1
    rcases hpo c' t h1 with ⟨h2,h3⟩|⟨m,hm,e1,e2⟩
    ·exact .inl ⟨t,ov,by rw [ownB_out (inL_lt h3),gives_mem po hno _ _ c' t h1];exact hO,hh,by rw [k2out (inL_lt h3),←hfo c' t h1,←hκ c' y q h2];exact e⟩
    ·have hi:inL LL t=true:=inL_iff.2 ⟨m,hm,e2⟩
     have ec:c'=t:=by omega
     exact .inl ⟨t,ov,by rw [ownB_in hi,←ec];exact hO,hh,by rw [k2in hi,←ec];exact e⟩
   ·exact .inr ⟨c,ov,h,hO,hh,e⟩
   ·exact .inl ⟨c,ov,by rw [ownB_in h];exact hO,hh,by rw [k2in h];exact e⟩
  by_cases hb:(Base.mk w (lent β κ pm po) 0 fun _=>undef).free b
  ·rcases hcov b hb (World.block_lt_of_cell? _ _ hc)with h|⟨c,ov,h1,h2⟩|⟨c,cs,h1,h2⟩
   ·exact .inl (h o)
   ·exact .inr (row c ov h1 h2)
   ·obtain ⟨_,q⟩:=S'.mem c cs h1
    obtain ⟨vs,ty,p1,p2⟩:=q.ex
    rw [h2]at p1
    rw [p1.cell]at hc
    obtain ⟨q1,q2⟩:=Array.getElem?_eq_some_iff.1 hc
    obtain ⟨l1,l2⟩:=Rep.agg_iff.1 p2
    have:=(l2 o _ v (List.getElem?_eq_getElem (by omega)) hc).noLimb (List.all_eq_true.1 q.nl _ (List.getElem_mem (by omega)))
    rw [hl]at this
    cases this
  ·have hle:¬lent β κ pm po b:=fun h=>hb (.inr h)
   have hblt:b<w.heap.size:=Nat.lt_of_not_le fun h=>hb (.inl h)
   have hc2:w.cell? ⟨b,o,none⟩=some v:=by
    rw [←World.cell?_of_block (a:=⟨b,o,none⟩) (hblk b hblt hle)];exact hc
   rcases S.al hu b o v hc2 hl with h|⟨t,ov,h1,h2,h3⟩
   ·exact .inl (hz _ _ h)
   ·have hnt:t ∉ po.map (·.2):=fun ht=>by
     obtain ⟨⟨c,t'⟩,g1,rfl⟩:=List.mem_map.1 ht
     exact hle (.inr ⟨c,t',g1,h3⟩)
    have hni:inL LL t=false:=by
     cases hi:inL LL t with
     | false=>rfl
     | true=>exact absurd h2 (by rw [hhotL t ov h1 hi];simp)
    exact .inr (.inl ⟨t,ov,by rw [ownB_out hni,gives_out po _ _ t hnt];exact h1,h2,by rw [k2out hni];exact h3⟩)
 have belowF:w0.Keep w':=⟨S'.below.os.trans S.below.os,S'.below.tape.trans S.below.tape,S'.below.output.trans S.below.output,Nat.le_trans S.below.size S'.below.size,fun k hk1 hk2=>by
  refine (hblk k (Nat.lt_of_lt_of_le hk1 S.below.size) fun hl=>?_).trans (S.below.block k hk1 hk2)
  rcases (hL hl).1 with h|h
  ·omega
  ·exact hk2 h⟩
 have z1F:∀b o,Z' b o→Z0 b o∨(w0.free b∧b<w'.heap.size):=fun b o h=>by
  rcases S'.z1 b o h with h|⟨h,h2⟩
  ·rcases S.z1 b o h with h|⟨h,h2⟩
   ·exact .inl h
   ·exact .inr ⟨h,Nat.lt_of_lt_of_le h2 S'.below.size⟩
  ·exact .inr ⟨hfree h,h2⟩
 have x0:RepT w' Z' β' κ' x v:=by
  have:=(S'.tm 0 x (by simp [slotsT])).2
  simpa using this
 cases n with
 | none =>
  refine ⟨κ2,?_⟩
  have S2:Sim1 u w0 Z0 { σ with mem:=gives pm M' σ.mem,own:=ownB LL O' (gives po O' σ.own) } a w' Z' β κ2:=by
   refine ⟨fun b o h=>hz _ _ (S.z0 b o h),z1F,fun t y h=>⟨(S.tm t y h).1,tmF t y h⟩,memF,memI,ownF,ownI,ownM,fun hu b o v hc hl=>?_,belowF,S.defers,lnkF⟩
   rcases alF hu b o v hc hl with h|h|⟨c,_,h,_⟩
   ·exact .inl h
   ·exact .inr h
   ·cases h
  refine S2.put hd ?_
  rcases hn0 rfl with ⟨b,rfl⟩|⟨b,rfl,hb⟩
  ·exact x0
  ·exact ⟨x0.1,lnk3_on (fun m hm=>k2in (inL_iff.2 ⟨m,hb m hm,rfl⟩)) x0.2⟩
 | some c =>
  obtain ⟨n0,n1,t,ov,rfl,n2,n3,rfl⟩:=hn c rfl
  have htB:=hdB t rfl
  simp only [n3]
  obtain ⟨g1,g2⟩:=S'.own c ov n3
  have hsz:=g2.size_le
  have kB:∀m,(if BIG+m=t then κ' c else κ2 (BIG+m))=κ2 (BIG+m):=fun m=>if_neg (by omega)
  have cne:∀{c2 s},((c2,s)∈po∧c2<BIG∨c2=s∧inL LL s=true)→c2≠c:=fun {c2 s} h e=>by
   subst e
   rcases h with ⟨h,_⟩|⟨rfl,h⟩
   ·exact n1 (List.mem_map_of_mem (f:=(·.1)) h)
   ·obtain ⟨m,_,e⟩:=inL_iff.1 h;omega
  have newO:∀s ov2,ownB LL O' (gives po O' σ.own) s=some ov2→(κ' c).1≠(κ2 s).1:=fun s ov2 h e=>by
   rcases ownC s ov2 h with ⟨c2,h1,h2,h3⟩|⟨h1,h2,h3⟩
   ·rw [h2]at e
    exact cne h3 (S'.injO c c2 ov ov2 n3 h1 e).symm
   ·rw [k2out h2]at e
    exact absurd e (far g1 (S.own s ov2 h3).2.lt (notlentO s ov2 h1 h3))
  refine ⟨fun s=>if s=t then κ' c else κ2 s,fun b o h=>hz _ _ (S.z0 b o h),z1F,fun s y h=>?_,memF,memI,fun s ov2 h=>?_,fun s s' ov2 ov2' h h' e=>?_,fun s s' cs ov2 h h'=>?_,fun hu b o v hc hl=>?_,belowF,S.defers,fun s cs j m len h hj=>?_⟩
  ·rw [size_put]
   by_cases e:s=t
   ·subst e
    simp only [AS.newOwn,upd_same]at h
    cases h
    rw [getD_put_same a _ (hd s rfl)]
    refine ⟨hd s rfl,?_⟩
    simp only [RepT,if_true]
    exact x0
   ·simp only [AS.newOwn]at h
    rw [upd_ne _ _ e]at h
    obtain ⟨q1,q2,q3⟩:=staleO_some h
    rw [getD_put a _ e]
    refine ⟨(S.tm s y q1).1,?_⟩
    have p3:=tmF s y q1
    cases y with
    | osl t2 k o m =>
     have:t2≠t:=fun h=>q2 k o m (by rw [h])
     simp only [RepT,if_neg this]
     exact p3
    | oref t2 k i o =>
     have:t2≠t:=fun h=>q3 k i o (by rw [h])
     simp only [RepT,if_neg this]
     exact p3
    | omap t2 =>
     have:t2≠t:=fun h3=>staleO_omap h (by rw [h3])
     simp only [RepT,if_neg this]
     exact p3
    | avl b=>exact ⟨p3.1,lnk3_congr kB p3.2⟩
    | _=>exact p3
  ·by_cases e:s=t
   ·subst e
    simp only [AS.newOwn,upd_same]at h
    cases h
    simp only [if_true]
    exact ⟨hfree g1,g2⟩
   ·simp only [AS.newOwn]at h
    rw [upd_ne _ _ e]at h
    simp only [if_neg e]
    exact ownF s ov2 h
  ·by_cases e1:s=t
   ·by_cases e2:s'=t
    ·rw [e1,e2]
    ·simp only [AS.newOwn]at h'
     rw [upd_ne _ _ e2]at h'
     simp only [if_pos e1,if_neg e2]at e
     exact absurd e (newO s' ov2' h')
   ·simp only [AS.newOwn]at h
    rw [upd_ne _ _ e1]at h
    by_cases e2:s'=t
    ·simp only [if_neg e1,if_pos e2]at e
     exact absurd e.symm (newO s ov2 h)
    ·simp only [AS.newOwn]at h'
     rw [upd_ne _ _ e2]at h'
     simp only [if_neg e1,if_neg e2]at e
     exact ownI s s' ov2 ov2' h h' e
  ·by_cases e2:s'=t
   ·simp only [if_pos e2]
    intro e
    rcases memC s cs h with ⟨c2,p1,p2,p3⟩|⟨p1,p2⟩
    ·rw [←p3]at e
     exact S'.injM c2 c cs ov p2 n3 e
    ·exact absurd e.symm (far g1 (S.mem s cs p2).2.lt (notlentM s cs p1 p2))
   ·simp only [AS.newOwn]at h'
    rw [upd_ne _ _ e2]at h'
    simp only [if_neg e2]
    exact ownM s s' cs ov2 h h'
  ·rcases alF hu b o v hc hl with h|⟨s,ov2,h1,h2,h3⟩|⟨c',ov2,h1,h2,h3,h4⟩
   ·exact .inl h
   ·by_cases e:s=t
    ·rw [n2 ov2 (e ▸ h1)]at h2
     cases h2
    ·exact .inr ⟨s,ov2,by simp only [AS.newOwn];rw [upd_ne _ _ e];exact h1,h2,by simp only [if_neg e];exact h3⟩
   ·cases h1
    exact .inr ⟨t,ov,by simp only [AS.newOwn,upd_same],by rw [n3]at h2;cases h2;exact h3,by simp only [if_true];exact h4⟩
  ·show w'.cell? _=some (.slice (some ⟨(if BIG+m=t then κ' c else κ2 (BIG+m)).1,0,none⟩) len (if BIG+m=t then κ' c else κ2 (BIG+m)).2)
   rw [kB]
   exact lnkF s cs j m len h hj
theorem callC_sound {N:Nat} (S0:Sim C.u w0 Z0 N σ a w) (hE:C.EL w0) (hz0:∀b o,Z0 b o→b<w0.w.heap.size) {o:Oper} (hd:∀t,o.dst=some t→w0.np≤t∧t<N∧t<BIG) {K:AS→Prop} {Q:Exit→Act→World→Prop} (h:callC C o σ K) :
  o.wp C.P a w (fun a' w'=>∃σ',K σ'∧Sim C.u w0 Z0 N σ' a' w') Q:=by
 obtain ⟨⟨Zs,β,κ,Ss⟩,hN⟩:=S0
 obtain ⟨f,args,tys,pm,po,LL,xs,M,O,r,M',O',h1,h2,h3,h4,h5,h6,h7,h8,h9,⟨hpo,hhl,hMl,hMl'⟩,h13,h11⟩:=h
 obtain ⟨dst,op,type,pos,after,guard⟩:=o
 obtain rfl:op=_:=h1
 have hd':∀t,dst=some t→t<a.tmps.size:=hN.lt hd
 have hdB:∀t,dst=some t→t<BIG:=fun t ht=>(hd t ht).2.2
 have n1:=nodupB_sound _ h2
 have n2:=nodupB_sound _ h3
 have n3:=nodupB_sound _ h4
 have n4:=nodupB_sound _ h5
 have hfm:=fwd_mem pm n1
 have hfo:=fwd_mem po n3
 have him:=snd_inj pm n2
 have hio:=snd_inj po n4
 have hlen:=asksL_len _ _ _ h8
 have hgetS:=asksL_get hfm hfo Ss _ _ _ h8
 obtain ⟨Z,S,hZ⟩:=Ss.wiped LL (pm.map (·.2))
 have hmem:∀c t,(c,t)∈pm→(σ.wipe LL (pm.map (·.2))).mem t=σ.mem t:=fun c t h=>wipe_keep (List.mem_map_of_mem (f:=(·.2)) h)
 have hm1:∀c x,ofL M c=some x→∃t,(c,t)∈pm∧(σ.wipe LL (pm.map (·.2))).mem t=some x:=fun c x h=>by
  obtain ⟨t,q1,q2⟩:=lends_mem pm M h6 c x h
  exact ⟨t,q1,by rw [hmem c t q1];exact q2⟩
 have hm2:∀c t,(c,t)∈pm→∃x,ofL M c=some x∧(σ.wipe LL (pm.map (·.2))).mem t=some x:=fun c t h=>by
  obtain ⟨x,q1,q2⟩:=lends_of pm M h6 n1 c t h
  exact ⟨x,q1,by rw [hmem c t h];exact q2⟩
 have ho1:∀c x,ofL O c=some x→∃t,(c,t)∈po∧(σ.wipe LL (pm.map (·.2))).own t=some x:=by rw [wipe_own];exact lends_mem po O h7
 have ho2:∀c t,(c,t)∈po→∃x,ofL O c=some x∧(σ.wipe LL (pm.map (·.2))).own t=some x:=by rw [wipe_own];exact lends_of po O h7 n3
 have hwm:∀t cs,t ∉ pm.map (·.2)→(σ.wipe LL (pm.map (·.2))).mem t=some cs→∀n∈memL cs,n ∉ LL:=fun t cs ht h=>wipe_mem h (by simpa using ht)
 have hget:∀(j:Nat) (y:TV) (x:Operand),xs[j]? = some y→args.toList[j]? = some x→RepT w Z (fun c=>β (fwd pm c)) (fun c=>κ (fwd po c)) y (a.eval x):=fun j y x h1 h2=>(hgetS j y x h1 h2).keep (Keeps.refl _ _) hZ
 have hvs:(args.map a.eval).size=xs.length:=by simp [hlen]
 have hxs:∀(j:Nat) (y:TV) (v:Value),xs[j]? = some y→(args.map a.eval)[j]? = some v→RepT w Z (fun c=>β (fwd pm c)) (fun c=>κ (fwd po c)) y v:=fun j y v hy hv=>by
  simp only [Array.getElem?_map,Option.map_eq_some_iff]at hv
  obtain ⟨x,hx,rfl⟩:=hv
  exact hget j y x hy (by simpa using hx)
 have hL:∀{b},lent β κ pm po b→w0.free b∧b<w.heap.size∧∀o,¬Z b o:=fun h=>lent_free S hm2 ho2 h
 have hEL:C.EL ⟨w,lent β κ pm po,0,fun _=>undef⟩:=⟨hE.keep S.below,fun b hb hl=>hE.free hb (hL hl).1⟩
 have hlent:∀b,lent β κ pm po b→(∃c cs,ofL M c=some cs∧β (fwd pm c)=b)∨∃c ov,ofL O c=some ov∧(κ (fwd po c)).1=b:=fun b hb=>by
  rcases hb with ⟨c,t,g1,rfl⟩|⟨c,t,g1,rfl⟩
  ·obtain ⟨x,g2,_⟩:=hm2 c t g1;exact .inl ⟨c,x,g2,by rw [hfm c t g1]⟩
  ·obtain ⟨x,g2,_⟩:=ho2 c t g1;exact .inr ⟨c,x,g2,by rw [hfo c t g1]⟩
 have hfn:FnOK C.P f:=by rcases h9 with h|h;exact h.1;exact h.1.1
 have hMM:∀t cs,M' t=some cs→∃cs',ofL M t=some cs':=by rcases h9 with h|h;exact h.2.1;exact h.1.2.1
 have hr:(execOp a.eval ⟨dst,.call ⟨.value (.func f),args,tys⟩,type,pos,after,guard⟩).run C.P w=.ok (.enter f (args.map a.eval)) w:=by
  have:=tgt_sound S (cargs:=args) (ctys:=tys) (dst:=dst) (type:=type) (pos:=pos) (after:=after) (guard:=guard) (callee:=.value (.func f)) (f:=f) (pre:=[]) (post:=[]) rfl hfn
  obtain ⟨us,vs,p1,p2,hr⟩:=this
  obtain ⟨l1,_⟩:=Rep.agg_iff.1 p1
  obtain ⟨l2,_⟩:=Rep.agg_iff.1 p2
  have e1:us=#[]:=Array.eq_empty_of_size_eq_zero (by simpa using l1)
  have e2:vs=#[]:=Array.eq_empty_of_size_eq_zero (by simpa using l2)
  subst e1 e2
  simpa using hr
 have hown:(σ.wipe LL (pm.map (·.2))).own=σ.own:=wipe_own
 obtain ⟨u',hcalls,hhot⟩:∃u':Bool,(Calls C.P f (args.map a.eval) w fun e w'=>∃v Z' β' κ',e=.returned v∧Sim1 u' ⟨w,lent β κ pm po,0,fun _=>undef⟩ Z ⟨slotsT 0 [r],M',O'⟩ ⟨#[v],[]⟩ w' Z' β' κ'∧(∀t cs,ofL M t=some cs→β' t=β (fwd pm t))∧(∀t ov,ofL O t=some ov→t<BIG→κ' t=κ (fwd po t)) ∧
   (∀b,(Base.mk w (lent β κ pm po) 0 fun _=>undef).free b→b<w'.heap.size→(∀o,Z' b o)∨(∃t ov,O' t=some ov∧(κ' t).1=b)∨∃t cs,M' t=some cs∧β' t=b))∧(C.u=true→u'=true→∀t ov,(σ.wipe LL (pm.map (·.2))).own t=some ov→t ∉ po.map (·.2)→ov.hot=false):=by
  rw [hown]
  rcases h9 with h|⟨h,hh⟩
  ·refine ⟨false,h.2.2 ⟨w,lent β κ pm po,0,fun _=>undef⟩ Z _ _ _ hEL (S.zlt hz0) hlent hvs (S.lend hm1 ho1 hfm hfo him hio hMl hvs hxs (fun h=>by cases h)),fun _ h=>by cases h⟩
  ·refine ⟨C.u,h.2.2 ⟨w,lent β κ pm po,0,fun _=>undef⟩ Z _ _ _ hEL (S.zlt hz0) hlent hvs (S.lend hm1 ho1 hfm hfo him hio hMl hvs hxs (fun hu b o v hc hl=>?_)),fun _ _=>hh⟩
   rcases S.al hu b o v hc hl with h|⟨t,ov,q1,q2,q3⟩
   ·exact .inl h
   ·rw [hown]at q1
    by_cases ht:t∈po.map (·.2)
    ·obtain ⟨⟨c,t'⟩,g1,rfl⟩:=List.mem_map.1 ht
     obtain ⟨y,p1,p2⟩:=ho2 c t' g1
     rw [hown,q1]at p2
     cases p2
     exact .inr ⟨c,ov,p1,q2,by rw [hfo c t' g1];exact q3⟩
    ·rw [hh t ov q1 ht]at q2;cases q2
 unfold Oper.wp
 rw [hr,Oper.upon_enter]
 refine hcalls.mono fun e' w' ⟨v,Z',β',κ',he,S',g1,g2,g4⟩=>?_
 subst he
 have hwt:∀t x,(σ.wipe LL (pm.map (·.2))).tm t=some x→LL≠[]→wipeT LL x=some x:=fun t x h hl=>wipe_tm h hl
 have hhl':∀t ov,(σ.wipe LL (pm.map (·.2))).own t=some ov→inL LL t=true→ov.hot=false:=by rw [hown];exact hhl
 cases r with
 | av b =>
  obtain ⟨κ2,S2⟩:=Sim1.back S hd' hdB none LL hwt hwm hpo hm2 ho2 hfm hfo n2 n4 S' hMM g1 g2 g4 hhot hhl' (fun c ov h=>(h13 c ov h).imp id (Or.imp (fun h=>by cases h) id)) hMl' (fun c h=>by cases h) (fun _=>.inl ⟨b,rfl⟩)
  rw [hown]at S2
  exact ⟨_,h11,⟨_,β,κ2,S2⟩,hN.put hd⟩
 | avl b =>
  obtain ⟨κ2,S2⟩:=Sim1.back S hd' hdB none LL hwt hwm hpo hm2 ho2 hfm hfo n2 n4 S' hMM g1 g2 g4 hhot hhl' (fun c ov h=>(h13 c ov h).imp id (Or.imp (fun h=>by cases h) id)) hMl' (fun c h=>by cases h) (fun _=>.inr ⟨b,rfl,h11.1⟩)
  rw [hown]at S2
  exact ⟨_,h11.2,⟨_,β,κ2,S2⟩,hN.put hd⟩
 | osl c k off len =>
  obtain ⟨q0,q1,rfl,t,ov,rfl,q4,q5,rfl,rfl,q8⟩:=h11
  obtain ⟨κ2,S2⟩:=Sim1.back S hd' hdB (some c) LL hwt hwm hpo hm2 ho2 hfm hfo n2 n4 S' hMM g1 g2 g4 hhot hhl' (fun c' ov h=>h13 c' ov h) hMl' (fun c' h=>by cases h;exact ⟨q0,q1,t,ov,rfl,by rw [hown];exact q4,q5,rfl⟩) (fun h=>by cases h)
  simp only [q5]at S2
  rw [hown]at S2
  exact ⟨_,q8,⟨_,β,κ2,S2⟩,hN.put hd⟩
 | _=>exact h11.elim
def litL (C:Ctx) (o:Oper) (σ:AS) (K:AS→Prop):Prop :=
 ∃(ty:TypeId) (n:Nat) (parts:Array (Nat × Operand)) (t:Nat) (e:TypeId) (k:Nat) (z:List AV) (b:Nat) (i:TI) (cs:List AV),o.op=.buildSlice ty n parts∧o.dst=some t∧C.T ty=some ⟨.slc e k false,z,b⟩∧C.T e=some i∧i.zero.length=k∧0<k∧n*k≤16777216 ∧
  fillV C.T σ (places k e n 0) (List.replicate n i.zero).flatten parts.toList=some cs∧cs.all AV.one=true∧cs.all AV.noLimb=true∧K ((σ.frz (σ.usedL (parts.toList.map (·.2)))).newOwn none t (.row e k (chunk k n cs)))
theorem litL_mono {C:Ctx} {o:Oper} {σ:AS} {K K':AS→Prop} (hk:∀σ,K σ→K' σ) (h:litL C o σ K):litL C o σ K':=by
 obtain ⟨ty,n,parts,t,e,k,z,b,i,cs,h1,h2,h3,h4,h5,h6,h7,h8,h9,h10,h11⟩:=h
 exact ⟨ty,n,parts,t,e,k,z,b,i,cs,h1,h2,h3,h4,h5,h6,h7,h8,h9,h10,hk _ h11⟩
theorem litL_sound {C:Ctx} {w0:Base} {w:World} {Z0:Zone} {σ:AS} {a:Act} {N:Nat} (S0:Sim C.u w0 Z0 N σ a w) (hz0:∀b o,Z0 b o→b<w0.w.heap.size) {o:Oper} (hd:∀t,o.dst=some t→w0.np≤t∧t<N∧t<BIG) {K:AS→Prop} {Q:Exit→Act→World→Prop} (h:litL C o σ K) :
  o.wp C.P a w (fun a' w'=>∃σ',K σ'∧Sim C.u w0 Z0 N σ' a' w') Q:=by
 obtain ⟨⟨Z,β,κ,S⟩,hN⟩:=S0
 obtain ⟨ty,n,parts,t,e,k,z,bb,i,cs,h1,ht,h2,h3,h4,h5,h6,h7,h8,h9,h10⟩:=h
 obtain ⟨dst,op,type,pos,after,guard⟩:=o
 obtain rfl:op=_:=h1
 obtain rfl:dst=some t:=ht
 have S1:=S.frz (σ.usedL (parts.toList.map (·.2)))
 obtain ⟨vs,r1,r2⟩:=run_buildSliceV S h2 h3 h4 h5 h6 h7 (ts:=σ.usedL (parts.toList.map (·.2))) contains_self
 obtain ⟨l1,l2⟩:=Rep.agg_iff.1 r2
 have hcl:cs.length=n*k:=by rw [fillV_len _ _ _ h7,flat_len,h4]
 have hch:=chunk_len k n cs
 have hml:n≤maxLen:=by
  have:n*1≤n*k:=Nat.mul_le_mul_left n h5
  rw [maxLen_eq];omega
 have hnl:∀c∈vs.toList,noLimb c=true:=fun c hc=>by
  obtain ⟨q,hq,rfl⟩:=List.mem_iff_getElem.1 hc
  have hq':q<vs.size:=by simpa using hq
  have:=(l2 q _ _ (List.getElem?_eq_getElem (by omega)) (Array.getElem?_eq_getElem hq')).noLimb (List.all_eq_true.1 h9 _ (List.getElem_mem (by omega)))
  simpa using this
 have hfit:∀w' Z',Keeps (frzZ σ κ (σ.usedL (parts.toList.map (·.2))) Z) w w'→(∀b o,frzZ σ κ (σ.usedL (parts.toList.map (·.2))) Z b o→Z' b o)→Fits w' Z' vs (.row e k (chunk k n cs)):=fun w' Z' hk hz=>by
  refine ⟨hnl,fun j hj=>?_⟩
  obtain ⟨g1,g2⟩:=chunk_get k h5 n cs hcl h8 j hj
  refine ⟨g1,?_,fun q hq=>?_⟩
  ·rw [List.all_eq_true]
   intro x hx
   obtain ⟨q,hq,rfl⟩:=List.mem_iff_getElem.1 hx
   have hg:=g2 q (by omega)
   rw [List.getElem?_eq_getElem hq]at hg
   have hlt:=(List.getElem?_eq_some_iff.1 hg.symm)
   obtain ⟨p1,p2⟩:=hlt
   rw [←p2]
   exact List.all_eq_true.1 h8 _ (List.getElem_mem p1)
  ·have hg:=g2 q (by omega)
   rw [List.getElem?_eq_getElem hq]at hg
   have hlt:=(List.getElem?_eq_some_iff.1 hg.symm).1
   refine ⟨vs[j*k+q]'(by omega),Array.getElem?_eq_getElem (by omega),?_⟩
   exact (l2 _ _ _ hg.symm (Array.getElem?_eq_getElem (by omega))).keep hk hz
 obtain ⟨Z',κ',S2⟩:=S1.newRowA hz0 (d:=t) (cap:=n) (ov:=.row e k (chunk k n cs)) (cells:=vs) (by rw [hN.1];exact (hd t rfl).2.1) (hd t rfl).2.2 (by show vs.size=n*k;omega) (by show (chunk k n cs).length≤n;omega) hml h5 hfit (fun _=>hnl)
 unfold Oper.wp
 simp only [execOp,Sem.run_bind,r1,Result.andThen_ok,Sem.run_pure,Oper.upon_value]
 simp only [OV.len,hch,OV.e]at S2
 exact ⟨_,h10,⟨Z',β,κ',S2⟩,hN.put hd⟩
def callL (C:Ctx) (o:Oper) (σ:AS) (K:AS→Prop):Prop:=callC C o σ K∨litL C o σ K
theorem callL_mono {C:Ctx} {o:Oper} {σ:AS} {K K':AS→Prop} (hk:∀σ,K σ→K' σ) (h:callL C o σ K):callL C o σ K':=h.imp (callC_mono hk) (litL_mono hk)
theorem callL_sound {C:Ctx} {w0:Base} {w:World} {Z0:Zone} {σ:AS} {a:Act} {N:Nat} (S0:Sim C.u w0 Z0 N σ a w) (hE:C.EL w0) (hz0:∀b o,Z0 b o→b<w0.w.heap.size) {o:Oper} (hd:∀t,o.dst=some t→w0.np≤t∧t<N∧t<BIG) {K:AS→Prop} {Q:Exit→Act→World→Prop} (h:callL C o σ K) :
  o.wp C.P a w (fun a' w'=>∃σ',K σ'∧Sim C.u w0 Z0 N σ' a' w') Q:=h.elim (callC_sound S0 hE hz0 hd) (litL_sound S0 hz0 hd)
def sepB (ops:Array Oper) (n:Nat):Bool:=(List.range n).all (fun j=>(maskM ops).testBit (128*n+j)) && decide (ops.size≤n+2) && (decide (ops.size≤n+1) || (maskM ops).testBit (128*(n+1)+n))
def lentR (C:Ctx) (d:Bool) (ops:Array Oper) (σ:AS) (K:AS→Prop):Prop :=
 ∃pre o post,ops.toList=pre ++ o :: post∧o.guard=none∧(d=true→sepB ops pre.length=true)∧arun C d ops pre σ (fun σ1=>callL C o σ1 (fun σ2=>arun C d ops post σ2 K))
theorem arunI_mono {C:Ctx} {dr:Bool} {ops:Array Oper} {K K':AS→Prop} (hk:∀σ,K σ→K' σ):∀(l:List Nat) (σ:AS),arunI C dr ops l σ K→arunI C dr ops l σ K'
 | [],σ,h=>hk σ h
 | i :: l,σ,⟨o,hi,h⟩=>⟨o,hi,astepG_mono (fun σ' h'=>arunI_mono hk l σ' h') h⟩
theorem arunI_pre {C:Ctx} {dr:Bool} {ops:Array Oper} {K:AS→Prop} {rest:List Oper}:∀(l:List Oper) (k:Nat) (σ:AS),ops.toList.drop k=l ++ rest→arun C dr ops l σ K→arunI C dr ops (List.range' k l.length) σ K
 | [],k,σ,_,h=>h
 | o :: l,k,σ,hd,h=>by
  have hk:ops[k]? = some o:=by
   have:=congrArg (·[0]?) hd
   simpa using this
  have hd':ops.toList.drop (k+1)=l ++ rest:=by
   have:=congrArg (List.drop 1) hd
   simpa [Nat.add_comm]using this
  refine ⟨o,hk,?_⟩
  exact astepG_mono (fun σ' h=>arunI_pre l (k+1) σ' hd' h) h
theorem wpOps_of_lent {ops:Array Oper} {N:Nat} {w0:Base} {Z0:Zone} (hE:C.EL w0) (hz0:∀b o,Z0 b o→b<w0.w.heap.size) (hd:∀(i:Nat) (o:Oper),ops[i]? = some o→∀t,o.dst=some t→w0.np≤t∧t<N∧t<BIG) {K:AS→Prop} {Q:Exit→Act→World→Prop} (hK:∀σ a w,K σ→Sim C.u w0 Z0 N σ a w→Q .normal a w)
  {i:Nat} {o:Oper} (hi:ops[i]? = some o) (hg:o.guard=none) {post:List Nat} :
  ∀(l:List Nat) (σ:AS) (a:Act) (w:World),Sim C.u w0 Z0 N σ a w→arunI C false ops l σ (fun σ1=>callL C o σ1 (fun σ2=>arunI C false ops post σ2 K))→wpOps C.P ops Q (l ++ i :: post) a w
 | [],σ,a,w,S,h=>by
  rw [List.nil_append,wpOps_cons]
  refine wpOp_mono (K:=fun a' w'=>∃σ',arunI C false ops post σ' K∧Sim C.u w0 Z0 N σ' a' w') (fun a' w' ⟨σ',h1,h2⟩=>wpOps_of_arun (dr:=false) hE hz0 hd hK post σ' a' w' h2 h1) ?_
  unfold wpOp
  simp only [hi]
  have hw:Region.wanted o (yielded ops a.tmps)=true:=by simp [Region.wanted,hg]
  rw [hw]
  simp only [if_true]
  exact .inl (callL_sound S hE hz0 (hd i o hi) h)
 | j :: l,σ,a,w,S,h=>by
  obtain ⟨oj,hj,h⟩:=h
  rw [List.cons_append,wpOps_cons]
  exact wpOp_mono (fun a' w' ⟨σ',h1,h2⟩=>wpOps_of_lent hE hz0 hd hK hi hg l σ' a' w' h2 h1) (astepG_sound S hE hz0 hj (hd j oj hj) h)
section
variable {ops:Array Oper} {N:Nat} {ms:Nat} {rt:Nat→Nat} {mv ix:List Nat} {w0:Base} {Z0:Zone}
theorem ready_nil (hf:Fine ops N ms rt mv ix) {listed:Array Bool} (hs:listed.size=ops.size) (hr:Region.ready .any ops listed=[]):rest ops listed=[]:=by
 cases hl:rest ops listed with
 | nil=>rfl
 | cons m l =>
  have hm:m∈rest ops listed:=by rw [hl];simp
  obtain ⟨m1,m2⟩:=mem_rest.1 hm
  have hlt:∀k,k<m→listed.getD k false=true:=fun k hk=>by
   have hnot:k ∉ rest ops listed:=fun hk'=>by
    have hsort:=rest_sorted (ops:=ops) listed
    rw [hl]at hsort hk'
    rcases List.mem_cons.1 hk' with rfl|hk''
    ·omega
    ·have:=(List.pairwise_cons.1 hsort).1 k hk''
     omega
   rw [mem_rest]at hnot
   have hk2:k<listed.size:=by omega
   simp [hk2]at hnot ⊢
   exact hnot (by omega)
  have:m∈Region.ready .any ops listed:=mem_ready.2 ⟨m2,ops[m],Array.getElem?_eq_getElem m1,fun e he hb=>hlt _ (hf.back m _ (Array.getElem?_eq_getElem m1) e he hb)⟩
  rw [hr]at this
  cases this
theorem wpAny_end {P:Program} {Q:Exit→Act→World→Prop} {fuel:Nat} {listed:Array Bool} {a:Act} {w:World} (hr:rest ops listed=[]) (h:Q .normal a w):wpAny P .any ops Q fuel listed a w:=by
 have hn:∀i,i ∉ Region.ready .any ops listed:=fun i hi=>by
  obtain ⟨h1,o,ho,_⟩:=mem_ready.1 hi
  have:i∈rest ops listed:=mem_rest.2 ⟨(Array.getElem?_eq_some_iff.1 ho).1,h1⟩
  rw [hr]at this
  cases this
 cases fuel with
 | zero=>exact ⟨List.eq_nil_iff_forall_not_mem.2 hn,h⟩
 | succ fuel=>exact ⟨fun _=>h,fun i hi=>absurd hi (hn i)⟩
theorem ready_anc (hf:Fine ops N ms rt mv ix) {listed:Array Bool} (hs:listed.size=ops.size) (hcl:∀k,k<ops.size→listed.getD k true=true→∀j,j<128→ms.testBit (128*k+j)=true→listed.getD j false=true) {i:Nat} (hi:i∈Region.ready .any ops listed):i∈rest ops listed∧∀j,j<128→ms.testBit (128*i+j)=true→listed.getD j false=true:=by
 obtain ⟨h1,oi,hoi,hedges⟩:=mem_ready.1 hi
 have hil:i<ops.size:=(Array.getElem?_eq_some_iff.1 hoi).1
 refine ⟨mem_rest.2 ⟨hil,h1⟩,fun j hj0 hj=>?_⟩
 rw [←chunk_bit _ _ _ hj0,hf.mask i oi hoi]at hj
 rcases mask_bit ms j hj0 oi.after.toList 0 hj with h2|⟨e,he,hb,h2⟩
 ·simp at h2
 ·have he':=hedges e (by simpa using he) hb
  rcases h2 with rfl|h2
  ·exact he'
  ·have hlt:=hf.back i oi hoi e (by simpa using he) hb
   refine hcl e.on (by omega) ?_ j hj0 h2
   have:e.on<listed.size:=by omega
   simp [this]at he' ⊢
   exact he'
theorem listed_not {listed:Array Bool} (hs:listed.size=ops.size) {j:Nat} (hj:j∈rest ops listed):listed.getD j false=false:=by
 obtain ⟨h1,h2⟩:=mem_rest.1 hj
 have hlt:j<listed.size:=by omega
 simp [hlt]at h2 ⊢
 exact h2
theorem wpAny_of_lent (hf:Fine ops N ms rt mv ix) (hge:∀(i:Nat) (o:Oper),ops[i]? = some o→∀t,o.dst=some t→w0.np≤t) (hE:C.EL w0) (hz0:∀b o,Z0 b o→b<w0.w.heap.size) {n:Nat} {o:Oper} (hn:ops[n]? = some o) (hg:o.guard=none) (hb1:∀j,j<n→ms.testBit (128*n+j)=true) (hb2:ops.size=n+1∨ops.size=n+2∧ms.testBit (128*(n+1)+n)=true)
  {K:AS→Prop} {Q:Exit→Act→World→Prop} (hK:∀σ a w,K σ→Sim C.u w0 Z0 N σ a w→Q .normal a w) :
  ∀(fuel:Nat) (listed:Array Bool) (l:List Nat) (σ:AS) (a:Act) (w:World),listed.size=ops.size→(rest ops listed).length≤fuel →
   (∀k,k<ops.size→listed.getD k true=true→∀j,j<128→ms.testBit (128*k+j)=true→listed.getD j false=true) →
   rest ops listed=l ++ List.range' n (ops.size-n)→PendL ops σ l→Rooted rt mv ix σ→Sim C.u w0 Z0 N σ a w →
   arunI C true ops l σ (fun σ1=>callL C o σ1 (fun σ2=>arunI C true ops (List.range' (n+1) (ops.size-(n+1))) σ2 K))→wpAny C.P .any ops Q fuel listed a w:=by
 intro fuel
 have hnl:n<ops.size:=(Array.getElem?_eq_some_iff.1 hn).1
 have hrg:List.range' n (ops.size-n)=n :: List.range' (n+1) (ops.size-(n+1)):=by
  have:ops.size-n=(ops.size-(n+1))+1:=by omega
  rw [this,List.range'_succ]
 have hd:∀(i:Nat) (oi:Oper),ops[i]? = some oi→∀t,oi.dst=some t→w0.np≤t∧t<N∧t<BIG:=fun i oi hoi t ht=>⟨hge i oi hoi t ht,hf.dst i oi hoi t ht⟩
 have tail:∀(fuel:Nat) (listed:Array Bool) (σ:AS) (a:Act) (w:World),listed.size=ops.size→(rest ops listed).length≤fuel→rest ops listed=List.range' (n+1) (ops.size-(n+1))→Sim C.u w0 Z0 N σ a w→arunI C true ops (List.range' (n+1) (ops.size-(n+1))) σ K→wpAny C.P .any ops Q fuel listed a w:=by
  intro fuel listed σ a w hs hlen hr S h
  rcases hb2 with hb2|⟨hb2,_⟩
  ·have:ops.size-(n+1)=0:=by omega
   rw [this]at hr h
   exact wpAny_end hr (hK σ a w h S)
  ·have e1:ops.size-(n+1)=1:=by omega
   rw [e1]at hr h
   have hr:rest ops listed=[n+1]:=hr
   cases fuel with
   | zero=>rw [hr]at hlen;simp at hlen
   | succ fuel =>
    refine ⟨fun hr0=>?_,fun i hi=>?_⟩
    ·have:=ready_nil hf hs hr0
     rw [hr]at this;cases this
    ·obtain ⟨h1,oi,hoi,_⟩:=mem_ready.1 hi
     have him:i∈rest ops listed:=mem_rest.2 ⟨(Array.getElem?_eq_some_iff.1 hoi).1,h1⟩
     rw [hr]at him
     have hi1:i=n+1:=by simpa using him
     subst hi1
     obtain ⟨o',ho',h⟩:=h
     rw [hoi]at ho'
     cases ho'
     refine wpOp_mono (fun a' w' ⟨σ',g1,g2⟩=>?_) (astepG_sound S hE hz0 hoi (hd _ _ hoi) h)
     exact wpAny_end (rest_step (pre:=[]) (post:=[]) hs hr) (hK σ' a' w' g1 g2)
 induction fuel with
 | zero =>
  intro listed l σ a w hs hlen hcl hr
  rw [hr,hrg]at hlen
  simp at hlen
 | succ fuel ih =>
  intro listed l σ a w hs hlen hcl hr hp hJ S h
  refine ⟨fun hr0=>?_,fun i hi=>?_⟩
  ·have:=ready_nil hf hs hr0
   rw [hr,hrg]at this
   simp at this
  ·obtain ⟨him,hanc⟩:=ready_anc hf hs hcl hi
   obtain ⟨hil,h1⟩:=mem_rest.1 him
   have hoi:ops[i]? = some ops[i]:=Array.getElem?_eq_getElem hil
   generalize ops[i]=oi at hoi
   have hsm:=hf.small
   have hnr:n∈rest ops listed:=by rw [hr,hrg];simp
   have hsort:=rest_sorted (ops:=ops) listed
   have hlt:∀j∈l,j<n:=fun j hj=>by
    rw [hr]at hsort
    exact (List.pairwise_append.1 hsort).2.2 j hj n (by rw [hrg];simp)
   have hin:i≤n:=by
    rcases Nat.lt_or_ge n i with hgt|hle
    ·exfalso
     rcases hb2 with hb2|⟨hb2,hb3⟩
     ·omega
     ·have:i=n+1:=by omega
      subst this
      have q:=hanc n (by omega) hb3
      rw [listed_not hs hnr]at q
      cases q
    ·exact hle
   rcases Nat.lt_or_ge i n with hlti|hgei
   ·
    have hil2:i∈l:=by
     rw [hr]at him
     rcases List.mem_append.1 him with q|q
     ·exact q
     ·have:=List.mem_range'_1.1 q;omega
    obtain ⟨pre,post,hsplit⟩:=List.append_of_mem hil2
    have hr2:rest ops listed=pre ++ i :: (post ++ List.range' n (ops.size-n)):=by rw [hr,hsplit];simp
    have hind:∀j∈pre,∀oj,ops[j]? = some oj→indep ops rt ix oi oj=true:=fun j hj oj hoj=>by
     have hji:j<i:=by
      rw [hr2]at hsort
      exact (List.pairwise_append.1 hsort).2.2 j hj i (by simp)
     have hjm:j∈rest ops listed:=by rw [hr2];simp [hj]
     rcases hf.ind i j oi oj hoi hoj hji with h2|h2
     ·have q:=hanc j (by omega) h2
      rw [listed_not hs hjm]at q
      cases q
     ·exact h2
    have hnd:l.Nodup:=by
     have:=rest_nodup (ops:=ops) listed
     rw [hr]at this
     exact (List.nodup_append.1 this).1
    subst hsplit
    have hrun:=arun_front hf hoi pre post σ hind hnd hp hJ h
    obtain ⟨oi',hoi',hrun⟩:=hrun
    rw [hoi]at hoi'
    cases hoi'
    have hrest:=rest_step hs hr2
    have hsub:∀k∈i :: (pre ++ post),k∈pre ++ i :: post:=fun k hk=>by
     simp at hk ⊢
     rcases hk with rfl|hk|hk <;> simp [*]
    have hnot:i ∉ pre ++ post:=fun hk=>by
     rcases List.mem_append.1 hk with hk|hk
     ·exact (List.nodup_append.1 hnd).2.2 i hk i (by simp) rfl
     ·have:=(List.nodup_append.1 hnd).2.1
      simp at this
      exact this.1 hk
    have hstep:astepG C true ops oi σ (fun σ'=>(PendL ops σ' (pre ++ post)∧Rooted rt mv ix σ')∧arunI C true ops (pre ++ post) σ' (fun σ1=>callL C o σ1 (fun σ2=>arunI C true ops (List.range' (n+1) (ops.size-(n+1))) σ2 K))):=by
     cases hl:loudB ix oi with
     | false =>
      obtain ⟨e,g1,g2⟩:=astepG_eff hl hJ.idx hrun
      exact eff_astepG g1 ⟨⟨PendL.step hf (i:=i) (hp.sub hsub) hoi hnot g1,hJ.step (hp i (by simp) oi hoi) g1 (hf.root i oi hoi)⟩,g2⟩
     | true =>
      obtain ⟨σ',q1,q2,q3⟩:=loud_step hl hrun
      exact q3 _ ⟨⟨(hp.sub fun k hk=>hsub k (by simp at hk ⊢;exact .inr hk)).loud q2,q2.rooted hJ⟩,q1⟩
    refine wpOp_mono (fun a' w' ⟨σ',⟨g0,g1⟩,g2⟩=>?_) (astepG_sound S hE hz0 hoi (hd i oi hoi) hstep)
    refine ih (listed.setIfInBounds i true) (pre ++ post) σ' a' w' (by simpa using hs) ?_ ?_ (by rw [hrest];simp) g0.1 g0.2 g2 g1
    ·rw [hrest]
     rw [hr2]at hlen
     simp at hlen ⊢
     omega
    ·intro k hk hkl j hj0 hj
     by_cases e:k=i
     ·subst e
      exact getD_set_true (hanc j hj0 hj)
     ·rw [getD_set_ne true (Ne.symm e)]at hkl
      exact getD_set_true (hcl k hk hkl j hj0 hj)
   ·
    have hin:i=n:=by omega
    subst hin
    rw [hn]at hoi
    cases hoi
    have hl:l=[]:=by
     cases l with
     | nil=>rfl
     | cons j l =>
      have q:=hanc j (by have:=hlt j (by simp);omega) (hb1 j (hlt j (by simp)))
      rw [listed_not hs (by rw [hr];simp)]at q
      cases q
    subst hl
    have hr2:rest ops listed=[] ++ i :: List.range' (i+1) (ops.size-(i+1)):=by rw [hr,hrg]
    have hrest:=rest_step hs hr2
    refine wpOp_mono (K:=fun a' w'=>∃σ',arunI C true ops (List.range' (i+1) (ops.size-(i+1))) σ' K∧Sim C.u w0 Z0 N σ' a' w') (fun a' w' ⟨σ',g1,g2⟩=>?_) ?_
    ·refine tail fuel (listed.setIfInBounds i true) σ' a' w' (by simpa using hs) ?_ (by rw [hrest];rfl) g2 g1
     rw [hrest]
     rw [hr2]at hlen
     simp at hlen ⊢
     omega
    ·unfold wpOp
     simp only [hn]
     have hw:Region.wanted o (yielded ops a.tmps)=true:=by simp [Region.wanted,hg]
     rw [hw]
     simp only [if_true]
     exact .inl (callL_sound S hE hz0 (hd _ _ hn) h)
end
end
end Go.Proofs.YtmekiphpjpblpaaGreat
