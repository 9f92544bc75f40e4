import Derived.Test.YtcaahphghaddgaaGreatDoorDXF
import Derived.Test.YtcaahphghaddgaaGreatDoorDVT
/- Text XG. -/
set_option linter.unusedSimpArgs false
set_option linter.unusedVariables false
namespace Go.Proofs.YtcaahphghaddgaaGreatDoor
open Go.RowKit Lim
def VS0:VS:=⟨[],[],[]⟩
def argV (k:Nat):V→SV
 | .lent off _=>.ref k off
 | .o x=>.v (.o x)
 | .fn f a b=>.v (.fn f a b)
def startTm:Nat→List V→List (Nat × Option SV)
 | _,[]=>[]
 | k,a :: l=>(k,some (argV k a)) :: startTm (k+1) l
def startMem:List (Nat × Nat × List Ce)→List (Nat × List Ce)
 | []=>[]
 | (k,_,cs) :: l=>(k,cs) :: startMem l
def startV (args:List V):VS:=⟨startTm 0 args,startMem (lentsOf 0 args),[]⟩
def decR (g:Sig) (l:List V0):Option (denL g.ts):=bif fitsR g l then decs g.ts (flatR l) else none
def unwrapA {R:Type} (o:Option (Ans R)):Option R:=match o with
 | some (.ret x)=>some x
 | _=>none
section
variable (T:TyTab) (el:TypeId→Option VT)
def oneV:V→Option V0
 | .o x=>some x
 | _=>none
def isRefS {R:Type} (v:SV) (k:SV→Option R):Option R:=match v with
 | .ref t o=>k (.ref t o)
 | _=>none
def resV (E s:VS):List ResultVar→List TypeId→Option (List V0)
 | [],_=>some []
 | .tmp t :: rs,tys=>((slot E s t).bind fun v=>argS T E s el (tys.headD 0) v fun a _=>oneV a).bind fun x=>(resV E s rs tys.tail).map fun l=>x :: l
 | .cell t ty :: rs,tys=>((slot E s t).bind fun v=>isRefS v fun v=>lookS E s v fun cs=>(T ty).bind fun i=>takeS i cs).bind fun x=>(resV E s rs tys.tail).map fun l=>x :: l
def isAt {R:Type} (k off:Nat) (v:SV) (r:Option R):Option R:=match v with
 | .ref t o=>bif Nat.beq t k && Nat.beq o off then r else none
 | _=>none
def backL (s:VS):List (Nat × Nat × List Ce)→Option (List (List Ce))
 | []=>some []
 | (k,off,_) :: l=>(slot VS0 s k).bind fun v=>isAt k off v ((memv VS0 s k).bind fun cs=>(backL s l).map fun m=>cs :: m)
def endV (rs:List ResultVar) (tys:List TypeId) (ls:List (Nat × Nat × List Ce)) (g:Sig) (e:Exit) (s:VS):Option (Ans (denL g.ts)):=match e with
 | .ret=>(resV T el VS0 s rs tys).bind fun l=>(backL s ls).bind fun m=>(decR g (l ++ m.map V0.agg)).map .ret
 | .normal=>(resV T el VS0 s rs tys).bind fun l=>(backL s ls).bind fun m=>(decR g (l ++ m.map V0.agg)).map .ret
 | _=>none
end
abbrev Ask1:=List V→(g:Sig)→Option (denL g.ts)
structure EvW where
 T:TyTab
 fs:Array Func
 how:FuncId→Option How
 el:TypeId→Option VT
 sig:SigM
 pr:Bool→FuncId→Option Ask1
 fu:Nat
def bodyV (W:EvW) (A A0:Ask) (h:How) (rs:List ResultVar) (tys:List TypeId) (c:Code) (args:List V) (g:Sig):Option (Ans (denL g.ts)) :=
 runV W.T W.el W.sig A A0 h W.fu c 0 VS0 (startV args) (endV W.T W.el rs tys (lentsOf 0 args) g)
def ev (W:EvW) (n:Nat):Bool→Ask :=
 Nat.rec (motive:=fun _=>Bool→Ask) (fun _ _ _ _=>none) (fun _ ih b f args g=>match W.pr b f with
  | some p=>p args g
  | none=>(W.how f).bind fun h=>(W.fs[f]?).bind fun fn=>fn.body.bind fun c=>bif Nat.ble args.length fn.ntmps && (args.all V.plain || (h.pin && (Nat.beq args.length fn.params.size && Nat.ble args.length BIG))) then unwrapA (bodyV W (ih b) (ih false) h fn.results.toList fn.resultTypes.toList c args g) else none) n
theorem ev_succ {W:EvW} {n:Nat} {b:Bool} {f:FuncId} {args:List V} {g:Sig}:ev W (n+1) b f args g=match W.pr b f with
  | some p=>p args g
  | none=>(W.how f).bind fun h=>(W.fs[f]?).bind fun fn=>fn.body.bind fun c=>bif Nat.ble args.length fn.ntmps && (args.all V.plain || (h.pin && (Nat.beq args.length fn.params.size && Nat.ble args.length BIG))) then unwrapA (bodyV W (ev W n b) (ev W n false) h fn.results.toList fn.resultTypes.toList c args g) else none:=rfl
theorem unflat_flat:∀(g:Sig) (l:List V0),fitsR g l=true→unflat g (flatR l)=l
 | [],[],_=>rfl
 | [],_ :: _,h=>by cases h
 | .c _ :: g,.c x :: l,h=>by simp only [flatR,unflat,unflat_flat g l h]
 | .agg ts :: g,.agg cs :: l,h=>by
  simp only [fitsR,Bool.and_eq_true]at h
  simp only [flatR,unflat]
  rw [take_app _ _ _ (beq_of h.1),drop_app _ _ _ (beq_of h.1),unflat_flat g l h.2]
 | .c _ :: _,[],h=>by cases h
 | .agg _ :: _,[],h=>by cases h
 | .c _ :: _,.agg _ :: _,h=>by cases h
 | .c _ :: _,.ptr _ :: _,h=>by cases h
 | .agg _ :: _,.c _ :: _,h=>by cases h
 | .agg _ :: _,.ptr _ :: _,h=>by cases h
theorem decR_some {g:Sig} {l:List V0} {x:denL g.ts} (h:decR g l=some x):resO g x=packA (l.map V0.av):=by
 obtain ⟨h1,h2⟩:=bif_of h
 unfold resO
 rw [decs_ces h2,unflat_flat g l h1]
section
variable {C:Ctx} {el:TypeId→Option VT} {E s:VS}
theorem isRefS_some {R:Type} {v:SV} {k:SV→Option R} {r:R} (h:isRefS v k=some r):∃t o,v=.ref t o∧k (.ref t o)=some r:=by
 unfold isRefS at h
 split at h
 ·exact ⟨_,_,rfl,h⟩
 ·cases h
theorem resV_sound:∀(rs:List ResultVar) (tys:List TypeId) {l:List V0},resV C.T el E s rs tys=some l→resL C (era E s) rs tys=some (l.map V0.av)
 | [],tys,l,h=>by cases h;rfl
 | .tmp t :: rs,tys,l,h=>by
  unfold resV at h
  obtain ⟨x,h1,h⟩:=bind_of h
  obtain ⟨l',h2,h3⟩:=Option.map_eq_some_iff.1 h
  subst h3
  obtain ⟨v,h4,h1⟩:=bind_of h1
  obtain ⟨a,us,tv,h5,h6,h7,_⟩:=argS_sound h1
  have ha:a=.o x:=by cases a <;> first|(cases h5;rfl)|cases h5
  subst ha
  have e:resA C (era E s) (.tmp t) (tys.headD 0)=some x.av:=by
   show ((slot E s t).bind _).bind _=_
   rw [h4,Option.bind_some,h6]
   exact h7
  simp only [resL,e,resV_sound rs tys.tail h2,List.map_cons]
 | .cell t ty :: rs,tys,l,h=>by
  unfold resV at h
  obtain ⟨x,h1,h⟩:=bind_of h
  obtain ⟨l',h2,h3⟩:=Option.map_eq_some_iff.1 h
  subst h3
  obtain ⟨v,h4,h1⟩:=bind_of h1
  obtain ⟨t',o',rfl,h1'⟩:=isRefS_some h1
  obtain ⟨cs,rest,h5,h6⟩:=lookS_sound h1'
  have h6:(era E s).look (eraSV (rowv E s) (.ref t' o'))=some (cs.map Ce.av ++ rest):=h6
  obtain ⟨i,h7,h8⟩:=bind_of h5
  have e:resA C (era E s) (.cell t ty) (tys.headD 0)=some x.av:=by
   have ht:(era E s).tm t=eraSV (rowv E s) (.ref t' o'):=by show (slot E s t).bind _=_;rw [h4];rfl
   simp only [resA,h7,ht,h6]
   exact takeS_sound h8
  simp only [resL,e,resV_sound rs tys.tail h2,List.map_cons]
theorem lk_start:∀(args:List V) (k x:Nat) (v:Option SV),lk (startTm k args) x=some v→∃a,args[x-k]? = some a∧k≤x∧v=some (argV x a)
 | [],_,_,_,h=>by cases h
 | a :: l,k,x,v,h=>by
  simp only [startTm]at h
  rw [lk_cons]at h
  by_cases he:x=k
  ·subst he
   rw [if_pos rfl]at h
   exact ⟨a,by simp,Nat.le_refl _,(Option.some.inj h).symm⟩
  ·rw [if_neg he]at h
   obtain ⟨b,h1,h2,h3⟩:=lk_start l (k+1) x v h
   refine ⟨b,?_,by omega,h3⟩
   have:x-k=(x-(k+1))+1:=by omega
   rw [this,List.getElem?_cons_succ]
   exact h1
theorem lents_plain:∀(args:List V) (k:Nat),args.all V.plain=true→lentsOf k args=[]
 | [],_,_=>rfl
 | .o _ :: l,k,h=>lents_plain l (k+1) (by simpa [V.plain]using h)
 | .fn _ _ _ :: l,k,h=>lents_plain l (k+1) (by simpa [V.plain]using h)
 | .lent _ _ :: l,k,h=>by simp [V.plain]at h
theorem start_le (args:List V) (hp:args.all V.plain=true):AS.le0 (era VS0 (startV args)) (start (args.map V.av)):=by
 have hm:startMem (lentsOf 0 args)=[]:=by rw [lents_plain args 0 hp];rfl
 refine ⟨fun x v hx=>?_,fun x v hx=>?_,fun x v hx=>(by cases hx),fun x v hx _=>(by cases hx)⟩
 ·have hx:(slot VS0 (startV args) x).bind (eraSV (rowv VS0 (startV args)))=some v:=hx
  obtain ⟨u,h1,h2⟩:=bind_of hx
  rcases slot_some.1 h1 with q|⟨_,q⟩
  ·obtain ⟨a,h3,_,h4⟩:=lk_start args 0 x _ q
   simp only [Nat.sub_zero]at h3
   have hpa:=List.all_eq_true.1 hp a (List.mem_of_getElem? h3)
   have:argV x a=.v a:=by cases a <;> first|rfl|cases hpa
   rw [this]at h4
   cases h4
   cases h2
   rw [start_get]
   simp [h3]
  ·cases q
 ·have hx:(memv VS0 (startV args) x).map (List.map Ce.av)=some v:=hx
  unfold memv startV at hx
  rw [hm]at hx
  cases hx
theorem xsFrom_get:∀(args:List V) (k x:Nat),slotsT k (xsFrom k args) x=if k≤x then (args[x-k]?).bind (fun a=>eraSV (fun _=>none) (argV x a)) else none
 | [],k,x=>by simp [xsFrom,slotsT]
 | a :: l,k,x=>by
  have ih:=xsFrom_get l (k+1) x
  have e:xsFrom k (a :: l)=(match a with|.lent off _=>.ref k off|a=>.av a.av) :: xsFrom (k+1) l:=by cases a <;> rfl
  rw [e]
  simp only [slotsT]
  by_cases he:x=k
  ·subst he
   simp only [if_true,Nat.le_refl,Nat.sub_self,List.getElem?_cons_zero,Option.bind_some]
   cases a <;> rfl
  ·rw [if_neg he,ih]
   by_cases hk:k+1≤x
   ·rw [if_pos hk,if_pos (by omega)]
    have:x-k=(x-(k+1))+1:=by omega
    rw [this,List.getElem?_cons_succ]
   ·rw [if_neg hk,if_neg (by omega)]
theorem xsFrom_len:∀(args:List V) (k:Nat),(xsFrom k args).length=args.length
 | [],_=>rfl
 | a :: l,k=>by cases a <;> simp only [xsFrom,List.length_cons,xsFrom_len l (k+1)]
theorem lents_at:∀(args:List V) (k t off:Nat) (cs:List Ce),(t,off,cs)∈lentsOf k args→k≤t∧(xsFrom k args)[t-k]? = some (.ref t off)
 | [],_,_,_,_,h=>by cases h
 | .lent o ds :: l,k,t,off,cs,h=>by
  simp only [lentsOf,List.mem_cons]at h
  rcases h with e|h
  ·cases e;exact ⟨Nat.le_refl _,by simp [xsFrom]⟩
  ·obtain ⟨h1,h2⟩:=lents_at l (k+1) t off cs h
   refine ⟨by omega,?_⟩
   have:t-k=(t-(k+1))+1:=by omega
   rw [this,xsFrom,List.getElem?_cons_succ];exact h2
 | .o _ :: l,k,t,off,cs,h=>by
  obtain ⟨h1,h2⟩:=lents_at l (k+1) t off cs h
  refine ⟨by omega,?_⟩
  have:t-k=(t-(k+1))+1:=by omega
  rw [this,xsFrom,List.getElem?_cons_succ];exact h2
 | .fn _ _ _ :: l,k,t,off,cs,h=>by
  obtain ⟨h1,h2⟩:=lents_at l (k+1) t off cs h
  refine ⟨by omega,?_⟩
  have:t-k=(t-(k+1))+1:=by omega
  rw [this,xsFrom,List.getElem?_cons_succ];exact h2
theorem memK_lk:∀(l:List (Nat × Nat × List Ce)) (x:Nat),ofL (memK l) x=(lk (startMem l) x).map (List.map Ce.av)
 | [],_=>rfl
 | (k,_,cs) :: l,x=>by
  simp only [memK,ofL,startMem,lk_cons]
  by_cases he:x=k
  ·simp [he]
  ·simp [he,memK_lk l x]
theorem memK_mem:∀(l:List (Nat × Nat × List Ce)) (x:Nat) (c:List AV),ofL (memK l) x=some c→∃off cs,(x,off,cs)∈l
 | (k,off,cs) :: l,x,c,h=>by
  simp only [memK,ofL]at h
  split at h
  ·rename_i e;exact ⟨off,cs,by simp [e]⟩
  ·obtain ⟨o,d,q⟩:=memK_mem l x c h;exact ⟨o,d,by simp [q]⟩
theorem keysL_memK:∀(l:List (Nat × Nat × List Ce)),keysL (memK l)=keysN l
 | []=>rfl
 | (_,_,_) :: l=>by simp only [memK,keysL,keysN,keysL_memK l]
theorem keysL_zip {α:Type}:∀(l:List Nat) (m:List α),l.length=m.length→keysL (zipN l m)=l
 | [],[],_=>rfl
 | k :: l,x :: m,h=>by simp only [zipN,keysL,keysL_zip l m (by simpa using h)]
 | [],_ :: _,h=>by cases h
 | _ :: _,[],h=>by cases h
theorem start_leX (args:List V):AS.le0 (era VS0 (startV args)) (startX (xsFrom 0 args) (memK (lentsOf 0 args)) []):=by
 refine ⟨fun x v hx=>?_,fun x v hx=>?_,fun x v hx=>(by cases hx),fun x v hx _=>(by cases hx)⟩
 ·have hx:(slot VS0 (startV args) x).bind (eraSV (rowv VS0 (startV args)))=some v:=hx
  obtain ⟨u,h1,h2⟩:=bind_of hx
  rcases slot_some.1 h1 with q|⟨_,q⟩
  ·obtain ⟨a,h3,_,h4⟩:=lk_start args 0 x _ q
   cases h4
   show ofT (startTL 0 (xsFrom 0 args)) x=some v
   rw [startTL_get,xsFrom_get,if_pos (Nat.zero_le _),h3,Option.bind_some]
   cases a <;> exact h2
  ·cases q
 ·have hx:(memv VS0 (startV args) x).map (List.map Ce.av)=some v:=hx
  show ofL (memK (lentsOf 0 args)) x=some v
  rw [memK_lk,←hx]
  unfold memv startV
  cases lk (startMem (lentsOf 0 args)) x <;> rfl
theorem backL_sound {s:VS} {xs:List TV}:∀(ls:List (Nat × Nat × List Ce)) (m:List (List Ce)),(∀k off cs,(k,off,cs)∈ls→xs[k]? = some (.ref k off))→backL s ls=some m→m.length=ls.length∧leM (era VS0 s).mem (zipN (keysN ls) (m.map (List.map Ce.av)))∧pinsK (era VS0 s) xs (keysL (memK ls))
 | [],m,_,h=>by cases h;exact ⟨rfl,trivial,trivial⟩
 | (k,off,cs) :: ls,m,hx,h=>by
  unfold backL at h
  obtain ⟨v,h1,h⟩:=bind_of h
  unfold isAt at h
  split at h
  ·obtain ⟨h2,h7⟩:=bif_of h
   obtain ⟨h2,h3⟩:=band_of h2
   obtain ⟨ds,h4,h8⟩:=bind_of h7
   obtain ⟨m',h5,h6⟩:=Option.map_eq_some_iff.1 h8
   have e1:=beq_of h2
   have e2:=beq_of h3
   obtain ⟨q1,q2,q3⟩:=backL_sound ls m' (fun k off cs hh=>hx k off cs (List.mem_cons_of_mem _ hh)) h5
   clear h h7 h8 h2 h3
   subst h6
   subst e1
   subst e2
   refine ⟨by simp [q1],⟨?_,q2⟩,⟨?_,q3⟩⟩
   ·show (memv VS0 s _).map _=_;rw [h4];rfl
   ·intro _
    show (slot VS0 s _).bind _=_
    rw [h1,hx _ _ _ List.mem_cons_self];rfl
  ·cases h
theorem endV_some {T:TyTab} {rs:List ResultVar} {tys:List TypeId} {ls:List (Nat × Nat × List Ce)} {g:Sig} {e:Exit} {a:Ans (denL g.ts)} (h:endV T el rs tys ls g e s=some a):(e=.ret∨e=.normal)∧∃l m x,resV T el VS0 s rs tys=some l∧backL s ls=some m∧decR g (l ++ m.map V0.agg)=some x∧a=.ret x:=by
 unfold endV at h
 split at h
 ·obtain ⟨l,h1,h⟩:=bind_of h
  obtain ⟨m,h2,h⟩:=bind_of h
  obtain ⟨y,h3,h4⟩:=Option.map_eq_some_iff.1 h
  exact ⟨.inl rfl,l,m,y,h1,h2,h3,h4.symm⟩
 ·obtain ⟨l,h1,h⟩:=bind_of h
  obtain ⟨m,h2,h⟩:=bind_of h
  obtain ⟨y,h3,h4⟩:=Option.map_eq_some_iff.1 h
  exact ⟨.inr rfl,l,m,y,h1,h2,h3,h4.symm⟩
 ·cases h
theorem endV_lt {T:TyTab} {rs:List ResultVar} {tys:List TypeId} {ls:List (Nat × Nat × List Ce)} {g:Sig} {e:Exit} {a:Ans (denL g.ts)} (h:endV T el rs tys ls g e s=some a):a.lt 0:=by
 obtain ⟨_,l,m,x,_,_,_,rfl⟩:=endV_some h
 trivial
theorem agg_inj:∀(m m':List (List Ce)),m.map V0.agg=m'.map V0.agg→m=m'
 | [],[],_=>rfl
 | c :: m,c' :: m',h=>by
  simp only [List.map_cons,List.cons.injEq,V0.agg.injEq]at h
  rw [h.1,agg_inj m m' h.2]
 | [],_ :: _,h=>by cases h
 | _ :: _,[],h=>by cases h
theorem unwrapA_some {R:Type} {o:Option (Ans R)} {x:R} (h:unwrapA o=some x):o=some (.ret x):=by
 unfold unwrapA at h
 split at h
 ·cases h;rfl
 ·cases h
theorem ACalls.of_run {f : FuncId} {fn : Func} {c : Code} {W : EvW} {A A0 : Ask} {h : How} {args : List V} {g : Sig} {x : denL g.ts} (hT : W.T = C.T) (H : AskOK C W.sig A A0) (hf : C.P.funcs[f]? = some fn) (hb : fn.body = some c) (hnm : (fn.name == "runtime.NumGoroutine") = false) (hok : codeOK fn.ntmps c = true) (hl : args.length ≤ fn.ntmps) (hp : args.all V.plain = true)
  (hr:bodyV W A A0 h fn.results.toList fn.resultTypes.toList c args g=some (.ret x)):ACalls C f (args.map V.av) (resO g x):=by
 refine ⟨⟨fn,hf,hnm,by rw [hb];rfl⟩,fun w Z vs hE hz hal hrep=>?_⟩
 refine calls_of_wp hf hb ?_
 obtain ⟨l1,l2⟩:=Rep.agg_iff.1 hrep
 rw [List.length_map]at l1
 have S:Sim C.u ⟨w,fun _=>False,0,fun _=>undef⟩ Z fn.ntmps (start (args.map V.av)) { tmps:=vs ++ Array.replicate (fn.ntmps-vs.size) undef,defers:=[] } w:=by
  refine ⟨⟨Z,fun _=>0,fun _=>(0,0),fun _ _ h=>h,fun _ _ h=>.inl h,fun t x hx=>?_,fun t cs hc=>by simp [start,ofL]at hc,fun t t' cs cs' hc=>by simp [start,ofL]at hc,fun t ov hc=>by simp [start,ofL]at hc,fun t t' ov ov' hc=>by simp [start,ofL]at hc,fun t t' cs ov hc=>by simp [start,ofL]at hc,fun hu b o v hc hl=>.inl (hal hu b o v hc hl),Base.Keep.refl _,rfl,fun t cs j n len hc=>by simp [start,ofL]at hc⟩,?_⟩
  ·rw [start_get]at hx
   simp only [Option.map_eq_some_iff]at hx
   obtain ⟨y,hy,rfl⟩:=hx
   have hlt:=(List.getElem?_eq_some_iff.1 hy).1
   rw [List.length_map]at hlt
   refine ⟨by simp;omega,?_⟩
   have hv:(vs ++ Array.replicate (fn.ntmps-vs.size) undef)[t]? = some (vs[t]'(by omega)):=by
    rw [Array.getElem?_append_left (by omega)]
    exact Array.getElem?_eq_getElem (by omega)
   have:(vs ++ Array.replicate (fn.ntmps-vs.size) undef).getD t undef=vs[t]'(by omega):=by
    simp only [Array.getD_eq_getD_getElem?,hv,Option.getD_some]
   rw [this]
   exact l2 t y _ hy (Array.getElem?_eq_getElem (by omega))
  ·exact ⟨by simp;omega,fun t ht=>by cases ht⟩
 unfold bodyV at hr
 rw [hT]at hr
 refine wp_mono (runV_sound (w0:=⟨w,fun _=>False,0,fun _=>undef⟩) H ⟨hE,fun _ _ h=>h⟩ hz c 0 VS0 (startV args) _ _ hok (dstsGe_zero c) (fun e s' a ha=>endV_lt ha) hr _ _ (S.le0 (start_le args hp))) ?_
 rintro e a' w' ⟨he,s',h1,⟨Z',β,κ,S'⟩,_⟩
 have hret:retA C fn (resO g x) e (era VS0 s'):=by
  obtain ⟨q1,l,m,y,h2,h3,h4,h5⟩:=endV_some h1
  cases h5
  rw [lents_plain args 0 hp]at h3
  cases h3
  rw [List.map_nil,List.append_nil]at h4
  exact ⟨q1,_,resV_sound _ _ h2,(decR_some h4).symm⟩
 have hpost:a'.defers=[]∧∃v,(results fn a'.tmps).run C.P w'=.ok v w'∧∃u,Ending.returned v=.returned u∧Below w.heap.size w w'∧Rep w' (grown Z w w') (resO g x) u:=by
  obtain ⟨v,r1,r2⟩:=retA_sound S' hret
  exact ⟨S'.defers,v,r1,v,rfl,S'.below.below,r2.keep (Keeps.refl _ _) fun b o hz=>((S'.frz (resU (era VS0 s') fn.results.toList)).z1 b o hz).imp id fun ⟨q1,q2⟩=>⟨q1.elim id False.elim,q2⟩⟩
 rcases hret.1 with rfl|rfl
 ·exact hpost
 ·exact hpost
theorem LentC.of_run {f : FuncId} {fn : Func} {c : Code} {W : EvW} {A A0 : Ask} {h : How} {args : List V} {g : Sig} {x : denL g.ts} (hT : W.T = C.T) (H : AskOK C W.sig A A0) (hf : C.P.funcs[f]? = some fn) (hb : fn.body = some c) (hnm : (fn.name == "runtime.NumGoroutine") = false) (hok : codeOK fn.ntmps c = true) (hge : dstsGe fn.params.size c = true) (hl : args.length ≤ fn.ntmps) (hlen : args.length = fn.params.size) (hB : args.length ≤ BIG)
  (hr:bodyV W A A0 h fn.results.toList fn.resultTypes.toList c args g=some (.ret x)):LentC C f args (unflat g (ces g.ts x)):=by
 unfold bodyV at hr
 rw [hT]at hr
 obtain ⟨e0,s0,h0⟩:=runV_ex H c 0 VS0 (startV args) _ _ hr
 obtain ⟨_,l,m,y,_,h2,h3,h4⟩:=endV_some h0
 cases h4
 have hx0:unflat g (ces g.ts x)=l ++ m.map V0.agg:=by
  obtain ⟨q1,q2⟩:=bif_of h3
  rw [decs_ces q2,unflat_flat g _ q1]
 have hat:∀k off cs,(k,off,cs)∈lentsOf 0 args→(xsFrom 0 args)[k]? = some (.ref k off):=fun k off cs hh=>by
  have:=(lents_at args 0 k off cs hh).2
  rwa [Nat.sub_zero]at this
 have hm:=(backL_sound _ m hat h2).1
 have hkz:(keysN (lentsOf 0 args)).length=(m.map (List.map Ce.av)).length:=by rw [keysN_len,List.length_map,hm]
 refine ⟨l,m,hx0,hm,LCalls.of_wp (fn:=fn) (c:=c) (rs:=fn.results.toList) (tys:=fn.resultTypes.toList) (O:=[]) (O':=[]) hf hb rfl rfl hnm (by omega) (fun w0 Z0 hE hz hnp a w S=>?_) (by rw [xsFrom_len,hlen]) ⟨fun t cs ht=>?_,fun t ov ht=>(by cases ht)⟩ (by rw [xsFrom_len];exact hB) (by rw [keysL_memK,keysL_zip _ _ hkz])⟩
 ·refine wp_mono (runV_sound (w0:=w0) H hE hz c 0 VS0 (startV args) _ _ hok (by rw [hnp];exact hge) (fun e s' a ha=>endV_lt ha) hr _ _ (S.le0 (start_leX args))) ?_
  rintro e a' w' ⟨he,s',h1,S'⟩
  obtain ⟨q1,l',m',y,q2,q3,q4,q5⟩:=endV_some h1
  cases q5
  have hx1:unflat g (ces g.ts x)=l' ++ m'.map V0.agg:=by
   obtain ⟨g1,g2⟩:=bif_of q4
   rw [decs_ces g2,unflat_flat g _ g1]
  obtain ⟨b1,b2,b3⟩:=backL_sound _ m' hat q3
  obtain ⟨e1,e2⟩:=List.append_inj' (hx0.symm.trans hx1) (by simp [hm,b1])
  have e2:=agg_inj _ _ e2
  subst e1
  subst e2
  exact ⟨he,era VS0 s',⟨q1,b2,trivial,b3,trivial,⟨_,resV_sound _ _ q2,rfl⟩,fun t _ hk=>by cases hk⟩,S'⟩
 ·obtain ⟨off,ds,q⟩:=memK_mem _ _ _ ht
  exact ⟨off,hat _ _ _ q⟩
structure EvOK (C:Ctx) (W:EvW):Prop where
 T:W.T=C.T
 fs:W.fs=C.P.funcs
 m:MeOK C.P W.sig
 how : ∀ f h fn c, W.how f = some h → C.P.funcs[f]? = some fn → fn.body = some c → (fn.name == "runtime.NumGoroutine") = false ∧ codeOK fn.ntmps c = true ∧ (h.pin = true → dstsGe fn.params.size c = true)
 pr:∀f p args g x,args.all V.plain=true→W.pr true f=some p→p args g=some x→ACalls C.t f (args.map V.av) (resO g x)∨ACalls C f (args.map V.av) (resO g x)
 prT:∀f p args g x,args.all V.plain=true→W.pr false f=some p→p args g=some x→ACalls C.t f (args.map V.av) (resO g x)
 prl:∀f p args g x,args.all V.plain=false→W.pr true f=some p→p args g=some x→LentC C.t f args (unflat g (ces g.ts x))∨LentC C f args (unflat g (ces g.ts x))
 prlT:∀f p args g x,args.all V.plain=false→W.pr false f=some p→p args g=some x→LentC C.t f args (unflat g (ces g.ts x))
theorem ev_sound {W:EvW} (H:EvOK C W):∀n,AskOK C W.sig (ev W n true) (ev W n false):=by
 intro n
 induction n with
 | zero=>exact ⟨H.m,fun f args g x _ hx=>(by cases hx),fun f args g x _ hx=>(by cases hx),fun f args g x _ hx=>(by cases hx),fun f args g x _ hx=>(by cases hx)⟩
 | succ n ih =>
  have open1 : ∀ (b : Bool) (f : FuncId) (args : List V) (g : Sig) (x : denL g.ts), W.pr b f = none → ev W (n + 1) b f args g = some x → ∃ h fn c, C.P.funcs[f]? = some fn ∧ fn.body = some c ∧ (fn.name == "runtime.NumGoroutine") = false ∧ codeOK fn.ntmps c = true ∧ args.length ≤ fn.ntmps ∧ (args.all V.plain = false → dstsGe fn.params.size c = true ∧ args.length = fn.params.size ∧ args.length ≤ BIG) ∧ bodyV W (ev W n b) (ev W n false) h fn.results.toList fn.resultTypes.toList c args g = some (.ret x) := by
   intro b f args g x hp hx
   rw [ev_succ,hp]at hx
   simp only at hx
   obtain ⟨h,h1,hx⟩:=bind_of hx
   obtain ⟨fn,h2,hx⟩:=bind_of hx
   obtain ⟨c,h3,hx⟩:=bind_of hx
   obtain ⟨h4,hx⟩:=bif_of hx
   obtain ⟨h4,h7⟩:=band_of h4
   rw [H.fs]at h2
   obtain ⟨h5,h6,h8⟩:=H.how f h fn c h1 h2 h3
   refine ⟨h,fn,c,h2,h3,h5,h6,ble_of h4,fun hf=>?_,unwrapA_some hx⟩
   rw [hf,Bool.false_or]at h7
   obtain ⟨h9,h10⟩:=band_of h7
   obtain ⟨h10,h11⟩:=band_of h10
   exact ⟨h8 h9,beq_of h10,ble_of h11⟩
  have body:∀(D:Ctx) (b:Bool) (_:W.T=D.T) (_:C.P=D.P) (_:AskOK D W.sig (ev W n b) (ev W n false)) (f:FuncId) (args:List V) (g:Sig) (x:denL g.ts),args.all V.plain=true→W.pr b f=none→ev W (n+1) b f args g=some x→ACalls D f (args.map V.av) (resO g x):=by
   intro D b hT hP hD f args g x ha hp hx
   obtain ⟨h,fn,c,h1,h2,h3,h4,h5,_,h6⟩:=open1 b f args g x hp hx
   rw [hP]at h1
   exact ACalls.of_run hT hD h1 h2 h3 h4 h5 ha h6
  have bodyL:∀(D:Ctx) (b:Bool) (_:W.T=D.T) (_:C.P=D.P) (_:AskOK D W.sig (ev W n b) (ev W n false)) (f:FuncId) (args:List V) (g:Sig) (x:denL g.ts),args.all V.plain=false→W.pr b f=none→ev W (n+1) b f args g=some x→LentC D f args (unflat g (ces g.ts x)):=by
   intro D b hT hP hD f args g x ha hp hx
   obtain ⟨h,fn,c,h1,h2,h3,h4,h5,h7,h6⟩:=open1 b f args g x hp hx
   rw [hP]at h1
   exact LentC.of_run hT hD h1 h2 h3 h4 (h7 ha).1 h5 (h7 ha).2.1 (h7 ha).2.2 h6
  have ihT:AskOK C.t W.sig (ev W n false) (ev W n false)   := ⟨H.m,fun f args g x hp hx=>.inr (ih.b f args g x hp hx),ih.b,fun f args g x hp hx=>.inr (ih.lb f args g x hp hx),ih.lb⟩
  refine ⟨H.m,fun f args g x ha hx=>?_,fun f args g x ha hx=>?_,fun f args g x ha hx=>?_,fun f args g x ha hx=>?_⟩
  ·cases hp:W.pr true f with
   | some p=>rw [ev_succ,hp]at hx;exact H.pr f p args g x ha hp hx
   | none=>exact .inr (body C true H.T rfl ih f args g x ha hp hx)
  ·cases hp:W.pr false f with
   | some p=>rw [ev_succ,hp]at hx;exact H.prT f p args g x ha hp hx
   | none=>exact body C.t false H.T rfl ihT f args g x ha hp hx
  ·cases hp:W.pr true f with
   | some p=>rw [ev_succ,hp]at hx;exact H.prl f p args g x ha hp hx
   | none=>exact .inr (bodyL C true H.T rfl ih f args g x ha hp hx)
  ·cases hp:W.pr false f with
   | some p=>rw [ev_succ,hp]at hx;exact H.prlT f p args g x ha hp hx
   | none=>exact bodyL C.t false H.T rfl ihT f args g x ha hp hx
end
end Go.Proofs.YtcaahphghaddgaaGreatDoor
