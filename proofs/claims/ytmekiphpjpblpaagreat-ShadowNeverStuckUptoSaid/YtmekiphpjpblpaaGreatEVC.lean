import Derived.Test.YtmekiphpjpblpaaGreatEVY
import Derived.Laws.BytesArg
/- Text VC. -/
set_option linter.unusedSimpArgs false
set_option linter.unusedVariables false
set_option maxHeartbeats 40000000
set_option maxRecDepth 100000
namespace Go.Proofs.YtmekiphpjpblpaaGreat
open Go.RowKit Lim
section
variable {C:Ctx} {u:Bool} {w0:Base} {w:World} {Z0 Z:Zone} {σ:AS} {a:Act} {β:Nat→Nat} {κ:Nat→Nat × Nat}
theorem Rep.ptr_drop {b o n:Nat} {cs:List AV} (h:Rep w Z (.ptr cs) (.pointer (some ⟨b,o,none⟩))):Rep w Z (.ptr (cs.drop n)) (.pointer (some ⟨b,o+n,none⟩)):=by
 cases h with
 | ptr vs hm hr =>
  refine .ptr (fun q=>vs (n+q)) (fun q hq=>?_) (fun q hq=>?_)
  ·simp at hq
   have:=hm (n+q) (by omega)
   rw [←Nat.add_assoc]at this
   exact this
  ·simp at hq
   rw [List.getElem_drop]
   exact hr (n+q) (by omega)
theorem rep_ptr {cs:List AV} {v:Value} (h:Rep w Z (.ptr cs) v):∃b o,v=.pointer (some ⟨b,o,none⟩):=by
 cases h with
 | ptr vs hm hr=>exact ⟨_,_,rfl⟩
theorem offT_sound (S:Sim1 u w0 Z0 σ a w Z β κ) {x:Operand} {o:Nat} {v:TV} (h:offT o (σ.get x)=some v):∃b q,a.eval x=.pointer (some ⟨b,q,none⟩)∧RepT w Z β κ v (.pointer (some ⟨b,q+o,none⟩)):=by
 cases hx:σ.get x with
 | none=>rw [hx]at h;cases h
 | some y =>
  rw [hx]at h
  have hg:=S.get hx
  cases y with
  | av y =>
   cases y with
   | ptr cs =>
    cases h
    obtain ⟨b,q,e⟩:=rep_ptr hg
    rw [e]at hg
    exact ⟨b,q,e,Rep.ptr_drop hg⟩
   | _=>cases h
  | skip=>cases h
  | osl t k off len=>cases h
  | omap t=>cases h
  | avl b=>cases h
  | ref t off =>
   cases h
   exact ⟨_,_,hg,rfl⟩
  | oref t k i q =>
   cases h
   exact ⟨_,_,hg,by simp only [RepT,Nat.add_assoc]⟩
theorem takeA_part {ty:TypeId} {i:TI} (h:TIOK C.P ty i) {cs:List AV} {vs:Array Value} (hr:Rep w Z (.agg cs) (.agg vs)) {o:Nat} {x:AV} (ht:takeA i (cs.drop o)=some x):∃u,(part ty vs o).run C.P w=.ok u w∧Rep w Z x u:=by
 obtain ⟨info,zv,h1,h2,_⟩:=h.inf
 have ha:=run_isAgg h w
 obtain ⟨hl,hrr⟩:=Rep.agg_iff.1 hr
 have many:i.zero.length≤(cs.drop o).length→x=.agg ((cs.drop o).take i.zero.length)→(isAgg ty).run C.P w=.ok true w→∃u,(part ty vs o).run C.P w=.ok u w∧Rep w Z x u:=fun hle hx ha=>by
  subst hx
  simp at hle
  refine ⟨.agg (vs.extract o (o+i.zero.length)),by simp [part,ha,run_size h1,h2],?_⟩
  rw [Rep.agg_iff]
  refine ⟨by simp;omega,fun j y v h3 h4=>?_⟩
  have hj:j<i.zero.length:=by
   have:=(List.getElem?_eq_some_iff.1 h3).1
   simp at this
   omega
  rw [List.getElem?_take_of_lt hj,List.getElem?_drop]at h3
  rw [Array.getElem?_extract]at h4
  split at h4
  ·exact hrr _ _ _ h3 h4
  ·cases h4
 unfold takeA at ht
 split at ht
 ·rename_i fs hk
  rw [hk]at ha
  split at ht
  ·rename_i hle
   cases ht
   exact many hle rfl ha
  ·cases ht
 ·rename_i hk
  rw [hk]at ha
  split at ht
  ·rename_i hle
   cases ht
   exact many hle rfl ha
  ·cases ht
 ·rename_i hk1 hk2
  have ha':(isAgg ty).run C.P w=.ok false w:=by
   rw [ha]
   cases hkk:i.kind <;> first|rfl|exact absurd hkk (hk1 _)|exact absurd hkk (hk2 _ _ _)
  rw [List.head?_eq_getElem?,List.getElem?_drop,Nat.add_zero]at ht
  have hlt:=(List.getElem?_eq_some_iff.1 ht).1
  have hv:vs[o]? = some (vs[o]'(by omega)):=Array.getElem?_eq_getElem (by omega)
  exact ⟨_,by simp [part,ha',hv],hrr _ _ _ ht hv⟩
theorem elemA_sound {k n:Nat} {s e:AV} {u:Value} (hs:Rep w Z s u) (h:elemA k s n e):∃b o len cap,u=.slice (some ⟨b,o,none⟩) len cap∧n<len∧Rep w Z (.ptr e.cells) (.pointer (some ⟨b,o+n*k,none⟩)):=by
 cases hs with
 | nil=>exact absurd h.2 (by simp)
 | nat hr hc hz =>
  obtain ⟨rfl,x,hx,rfl⟩:=h
  obtain ⟨hlt,hx2⟩:=List.getElem?_eq_some_iff.1 hx
  obtain ⟨b,off,rfl,hb,hcell⟩:=hr.2 (by omega)
  refine ⟨b,off,_,_,rfl,hlt,.ptr (fun _=>.int .u32 (x:Nat)) (fun q hq=>?_) (fun q hq=>?_)⟩
  ·have:q=0:=by simp [AV.cells]at hq;omega
   subst this
   have:=hcell n hlt
   rw [hx2]at this
   refine ⟨by simpa using this,?_⟩
   have:=hz b off rfl n hlt
   simpa using this
  ·have:q=0:=by simp [AV.cells]at hq;omega
   subst this
   exact Rep.lit rfl
 | sl vs hb hc hk hm hr =>
  obtain ⟨rfl,hx⟩:=h
  obtain ⟨hlt,hx2⟩:=List.getElem?_eq_some_iff.1 hx
  subst hx2
  exact ⟨_,_,_,_,rfl,hlt,.ptr (fun q=>vs n q) (fun q hq=>hm n q hlt (by rw [←hk n hlt];exact hq)) (fun q hq=>hr n hlt q hq)⟩
 | _=>exact h.elim
theorem lenA_sound {s:AV} {n:Nat} {u:Value} (hs:Rep w Z s u) (h:lenA s=some n):∃A c,u=.slice A n c:=by
 cases hs with
 | lit hv =>
  unfold lenA at h
  split at h
  ·rename_i heq;cases heq
  ·rename_i heq;cases heq
  ·rename_i heq;cases heq;cases h;exact ⟨_,_,rfl⟩
  ·cases h
 | nil=>cases h;exact ⟨_,_,rfl⟩
 | nat hr hc hz=>cases h;exact ⟨_,_,rfl⟩
 | sl vs hb hc hk hm hr=>cases h;exact ⟨_,_,rfl⟩
 | _=>cases h
theorem lenT_sound {s:TV} {n:Nat} {v:Value} (hs:RepT w Z β κ s v) (h:lenT s=some n):∃A c,v=.slice A n c:=by
 cases s with
 | av s=>exact lenA_sound hs h
 | osl t k off len=>cases h;exact ⟨_,_,hs.2⟩
 | _=>cases h
theorem optGet_cases {x:Option Operand} {y:Option TV} (h:optGet σ x=some y):(x=none∧y=none)∨∃o v,x=some o∧y=some v∧σ.get o=some v:=by
 cases x with
 | none=>cases h;exact .inl ⟨rfl,rfl⟩
 | some o =>
  simp only [optGet,Option.map_eq_some_iff]at h
  obtain ⟨v,h1,h2⟩:=h
  exact .inr ⟨o,v,rfl,h2.symm,h1⟩
theorem bound_cases (S:Sim1 u w0 Z0 σ a w Z β κ) {x:Option Operand} {y:Option TV} (h:optGet σ x=some y) {n m d:Nat} (hr:boundR n m d y) :
  (x.map a.eval=none∧m=d)∨∃k:IntKind,m≤n∧x.map a.eval=some (.int k (m:Int)):=by
 rcases optGet_cases h with ⟨rfl,rfl⟩|⟨o,v,rfl,rfl,hg⟩
 ·exact .inl ⟨rfl,hr⟩
 ·right
  unfold boundR at hr
  split at hr
  ·rename_i heq;cases heq
  ·rename_i k q heq
   cases heq
   obtain ⟨h0,h1,rfl⟩:=hr
   exact ⟨k,by omega,by simp only [Option.map_some];rw [S.lit hg,Int.toNat_of_nonneg h0]⟩
  ·exact hr.elim
theorem sliceR_sound (S:Sim1 u w0 Z0 σ a w Z β κ) {lo hi:Option Operand} {lo' hi':Option TV} {n cap l h:Nat} (isS:Bool) (h1:optGet σ lo=some lo') (h2:optGet σ hi=some hi') (hr:sliceR lo' hi' n l h) (hn:n≤cap) :
  (Instr.sliceBounds isS n cap (lo.map a.eval) (hi.map a.eval) none).run C.P w=.ok (l,h,cap) w∧l≤h∧h≤n:=by
 obtain ⟨r1,r2⟩:=hr
 rcases bound_cases S h2 r1 with ⟨e1,rfl⟩|⟨k,b1,e1⟩
 ·rcases bound_cases S h1 r2 with ⟨e2,rfl⟩|⟨k2,b2,e2⟩
  ·exact ⟨by simp [Instr.sliceBounds,e1,e2],Nat.zero_le _,Nat.le_refl _⟩
  ·refine ⟨?_,b2,Nat.le_refl _⟩
   simp [Instr.sliceBounds,e1,e2,Instr.sliceBound,asIntOf,b2]
 ·have b3:(h:Int)≤cap:=by omega
  rcases bound_cases S h1 r2 with ⟨e2,rfl⟩|⟨k2,b2,e2⟩
  ·refine ⟨?_,Nat.zero_le _,b1⟩
   simp [Instr.sliceBounds,e1,e2,Instr.sliceBound,asIntOf,Int.ofNat_le.1 b3]
  ·refine ⟨?_,b2,b1⟩
   simp [Instr.sliceBounds,e1,e2,Instr.sliceBound,asIntOf,b2,Int.ofNat_le.1 b3]
theorem Rd.drop {A:Option Addr} {l:List Nat} (h:Rd w A l) (n:Nat):Rd w (A.map (·.add n)) (l.drop n) :=
 ⟨dig_drop h.1 n,fun hl=>by
  simp at hl
  obtain ⟨b,off,rfl,hb,hc⟩:=h.2 (by omega)
  refine ⟨b,off+n,by simp [add_addr],hb,fun j hj=>?_⟩
  simp at hj
  have:=hc (n+j) (by omega)
  rw [List.getElem_drop,Nat.add_assoc]
  exact this⟩
end
section
variable {C:Ctx} {u:Bool} {w0:Base} {w:World} {Z0 Z:Zone} {σ:AS} {a:Act} {β:Nat→Nat} {κ:Nat→Nat × Nat}
theorem slice_nat {A:Option Addr} {es:List Nat} {c l h:Nat} (hr:Rd w A es) (hc:es.length≤c) (hz:∀b off,A=some ⟨b,off,none⟩→∀j,j<es.length→Z b (off+j)) (h1:l≤h) (h2:h≤es.length):Rep w Z (.nat ((es.take h).drop l)) (.slice (if c=l then A else A.map (·.add (l*1))) (h-l) (c-l)):=by
 have hlen:((es.take h).drop l).length=h-l:=by simp;omega
 rw [←hlen]
 refine .nat ?_ (by omega) ?_
 rotate_left
 ·intro b off e j hj
  split at e
  ·omega
  ·obtain ⟨ab,ao,rfl,_,_⟩:=hr.2 (by omega)
   simp only [Option.map_some,Option.some.injEq]at e
   rw [add_addr]at e
   cases e
   have:=hz _ _ rfl (l+j) (by omega)
   rw [Nat.mul_one,Nat.add_assoc]
   exact this
 split
 ·have:(es.take h).drop l=[]:=List.eq_nil_of_length_eq_zero (by omega)
  rw [this]
  exact Rd.nil _ _
 ·rw [Nat.mul_one]
  exact (hr.take h).drop l
theorem slice_sl {A:Option Addr} {es:List AV} {k c l h:Nat} (hr:Rep w Z (.sl k es) (.slice A es.length c)) (h1:l≤h) (h2:h≤es.length):Rep w Z (.sl k ((es.take h).drop l)) (.slice (if c=l then A else A.map (·.add (l*k))) (h-l) (c-l)):=by
 have hlen:((es.take h).drop l).length=h-l:=by simp;omega
 rw [←hlen]
 by_cases he:h-l=0
 ·have:(es.take h).drop l=[]:=List.eq_nil_of_length_eq_zero (by omega)
  rw [this]
  exact .nil
 ·cases hr with
  | nil=>exact absurd h2 (by simp;omega)
  | sl vs hb hc hk hm hr =>
   rw [if_neg (by omega)]
   simp only [Option.map_some,add_addr]
   have hget:∀i (hi:i<((es.take h).drop l).length) (hi':l+i<es.length),((es.take h).drop l)[i]=es[l+i]:=fun i hi hi'=>by
    rw [List.getElem_drop,List.getElem_take]
   refine .sl (fun i j=>vs (l+i) j) hb (by omega) (fun i hi=>?_) (fun i j hi hj=>?_) (fun i hi j hj=>?_)
   ·rw [hget i hi (by omega)]
    exact hk _ _
   ·have:=hm (l+i) j (by omega) hj
    rw [Nat.add_mul,←Nat.add_assoc]at this
    exact this
   ·have e:=hget i hi (by omega)
    have:=hr (l+i) (by omega) j (by rw [←e];exact hj)
    simp only [e]
    exact this
theorem run_mapM {P:Program} {α γ:Type} (g:α→Sem γ) (f:α→γ) (w:World):∀(l:List α) (acc:Array γ),(∀x∈l,(g x).run P w=.ok (f x) w)→(l.foldlM (fun bs x=>bs.push <$> g x) acc:Sem (Array γ)).run P w=.ok (acc ++ (l.map f).toArray) w
 | [],acc,_=>by simp
 | x :: l,acc,h=>by
  have h1:=h x (by simp)
  have ih:=run_mapM g f w l (acc.push (f x)) (fun y hy=>h y (by simp [hy]))
  simp only [List.foldlM_cons,Sem.run_bind,Sem.run_map,h1,Result.andThen_ok,ih]
  simp
theorem run_places {P:Program} (fds:Array Field) (f:Field→Nat) (hf:∀fd∈fds,(Go.sizeOf fd.type).run P w=.ok (f fd) w) :
  (fds.mapM fun fd=>do pure (fd.offset,←Go.sizeOf fd.type):Sem (Array (Nat × Nat))).run P w=.ok (fds.map fun fd=>(fd.offset,f fd)) w:=by
 rw [Array.mapM_eq_foldlM,←Array.foldlM_toList,run_mapM (P:=P) _ (fun fd=>(fd.offset,f fd)) w fds.toList #[]]
 ·congr 1
  apply Array.ext'
  simp
 ·intro x hx
  have:=hf x (by simpa using hx)
  simp [this]
theorem avsL_sound (S:Sim1 u w0 Z0 σ a w Z β κ):∀(xs:List Operand) (l:List AV),avsL σ xs=some l→l.length=xs.length∧∀(j:Nat) (x:AV) (v:Value),l[j]? = some x→(xs.map a.eval)[j]? = some v→Rep w Z x v
 | [],l,h=>by cases h;exact ⟨rfl,fun j x v h=>by simp at h⟩
 | x :: xs,l,h=>by
  unfold avsL at h
  split at h
  ·rename_i y l' h1 h2
   cases h
   obtain ⟨q1,q2⟩:=avsL_sound S xs l' h2
   refine ⟨by simp [q1],fun j z v h3 h4=>?_⟩
   cases j with
   | zero=>simp at h3 h4;subst h3 h4;exact S.get h1
   | succ j=>simp at h3 h4;exact q2 j z v h3 (by simpa using h4)
  ·cases h
theorem avsL_fn (S:Sim1 u w0 Z0 σ a w Z β κ) {xs:Array Operand} {l:List AV} (h:avsL σ xs.toList=some l):(xs.map a.eval).size=l.length∧∀j (hj:j<l.length) (hj':j<(xs.map a.eval).size),Rep w Z (l[j]'hj) ((xs.map a.eval)[j]'hj'):=by
 obtain ⟨q1,q2⟩:=avsL_sound S _ _ h
 refine ⟨by simp [q1],fun j hj hj'=>q2 j _ _ (List.getElem?_eq_getElem hj) ?_⟩
 have:(xs.toList.map a.eval)[j]? = (xs.map a.eval)[j]?:=by simp
 rw [this]
 exact Array.getElem?_eq_getElem hj'
theorem isByteT_sound {ty:TypeId} (h:isByteT C.T ty=true):C.P.underlying ty=some (.int .u8):=by
 unfold isByteT at h
 split at h
 ·rename_i z b hz
  exact (C.hT _ _ hz).und
 ·cases h
theorem run_bytes {src dst e:TypeId} (hs:C.P.underlying src=some (.slice e)) (he:C.P.underlying e=some (.int .u8)) (hd:C.P.underlying dst=some .string) {b off cap:Nat} {l:List UInt8} (hc:∀i (hi:i<l.length),w.cell? ⟨b,off+i,none⟩=some (.int .u8 ((l[i]).toNat:Nat))) :
  (convert src dst (.slice (some ⟨b,off,none⟩) l.length cap)).run C.P w=.ok (.string ⟨l.toArray⟩) w:=by
 rw [run_convert_bytes_arg w src e hs he b off l.length cap (l.map fun x=>((x.toNat:Nat):Int)) (by simp) (fun i hi=>by rw [hc i hi];simp [List.getD,hi]) dst hd]
 have e:strOfNums (l.map fun x=>((x.toNat:Nat):Int))=⟨l.toArray⟩:=by
  unfold strOfNums
  rw [List.map_map]
  congr 2
  conv=>rhs;rw [←List.map_id l]
  apply List.map_congr_left
  intro x _
  simp
 rw [e]
theorem aval_sound (S:Sim1 u w0 Z0 σ a w Z β κ) (hG:GlobOK w) {o:Oper} {v:TV} (h:aval C σ o v):∃y,(execOp a.eval o).run C.P w=.ok (.value y) w∧RepT w Z β κ v y:=by
 obtain ⟨dst,op,type,pos,after,guard⟩:=o
 cases op with
 | move x=>exact ⟨_,rfl,S.get h⟩
 | assign x=>exact ⟨_,rfl,S.get h⟩
 | pick c x y =>
  obtain ⟨t,h1,h2⟩:=h
  refine ⟨_,?_,S.get h2⟩
  simp only [execOp,S.lit h1,asBool]
  cases t <;> rfl
 | load ty x =>
  obtain ⟨i,cs,y,h1,h2,h3,rfl⟩:=h
  obtain ⟨b,q,e,hc⟩:=lookG_sound S hG h2
  obtain ⟨u,r1,r2⟩:=run_loadVar_A (C.hT _ _ h1) hc h3
  exact ⟨u,by simp [execOp,Instr.loadAt,Instr.sureAddr,e,r1],r2⟩
 | fieldAddr ty x f =>
  obtain ⟨fs,z,bb,o,n,t,h1,h2,h3⟩:=h
  obtain ⟨b,q,e,hr⟩:=offT_sound S h3
  obtain ⟨fds,u1,_,u2⟩:=(C.hT _ _ h1).und
  obtain ⟨fd,v1,rfl,_,v3,fi,v4,v5⟩:=u2 f o n t h2
  refine ⟨_,?_,hr⟩
  have hs:(Go.sizeOf fd.type).run C.P w=.ok fi.size w:=run_size v4 w
  simp [execOp,Instr.fieldAt,run_under u1,v1,Instr.sureAddr,e,fieldPlace,hs,v5,v3,add_addr]
 | field ty x f =>
  obtain ⟨fs,z,bb,o,n,t,cs,i,y,h1,h2,h3,h4,h5,rfl⟩:=h
  have hg:Rep w Z (.agg cs) (a.eval x):=S.get h3
  obtain ⟨fds,u1,_,u2⟩:=(C.hT _ _ h1).und
  obtain ⟨fd,v1,rfl,rfl,_⟩:=u2 f o n t h2
  simp only [execOp]
  generalize a.eval x=u0 at *
  cases hg with
  | agg hl hr =>
   obtain ⟨u,r1,r2⟩:=takeA_part (C.hT _ _ h4) (.agg hl hr) h5
   exact ⟨u,by simp [Instr.field,run_under u1,v1,asAgg,r1],r2⟩
 | extract x i =>
  obtain ⟨vs,y,h1,h2,rfl⟩:=h
  have hg:Rep w Z (.tup vs) (a.eval x):=S.get h1
  simp only [execOp]
  generalize a.eval x=u0 at *
  cases hg with
  | tup hl hr =>
   rename_i us
   obtain ⟨q1,rfl⟩:=List.getElem?_eq_some_iff.1 h2
   exact ⟨us[i]'(by omega),by simp [Instr.extract,Array.getElem?_eq_getElem (show i<us.size by omega)],hr i q1⟩
 | indexAddr ty x ix =>
  obtain ⟨i,s,q,n,h1,h2,h3,h4,h5⟩:=h
  have hu:=(C.hT _ _ h1).und
  have hg:=S.get h2
  unfold idxT at h5
  split at h5
  ·rename_i e0 k l s hk
   rw [hk]at hu
   obtain ⟨u1,ei,u2,u3⟩:=hu
   obtain ⟨e,h5,rfl⟩:=h5
   obtain ⟨b,o,len,cap,r1,r2,r3⟩:=elemA_sound hg h5
   refine ⟨_,?_,r3⟩
   have hlt:n<(len:Int):=by omega
   simp [execOp,Instr.indexAt,S.lit h3,asIntOf,run_under u1,r1,h4,hlt,run_size u2,u3,add_addr]
  ·rename_i e0 k l t k' off len hk
   rw [hk]at hu
   obtain ⟨u1,ei,u2,u3⟩:=hu
   obtain ⟨rfl,hlt0,rfl⟩:=h5
   obtain ⟨_,r1⟩:=hg
   have hlt:n<(len:Int):=by omega
   have e1:off*k'+n.toNat*k'=(off+n.toNat)*k'+0:=by rw [Nat.add_mul];omega
   refine ⟨.pointer (some ⟨(κ t).1,off*k'+n.toNat*k',none⟩),?_,by show Value.pointer _=Value.pointer _;rw [e1]⟩
   simp [execOp,Instr.indexAt,S.lit h3,asIntOf,run_under u1,r1,h4,hlt,run_size u2,u3,add_addr]
  ·rename_i m e0 k t off hk
   rw [hk]at hu
   obtain ⟨u1,ei,u2,u3,_⟩:=hu
   obtain ⟨hlt0,rfl⟩:=h5
   have r1:a.eval x=.pointer (some ⟨β t,off,none⟩):=hg
   have hlt:n<(m:Int):=by omega
   refine ⟨_,?_,rfl⟩
   simp [execOp,Instr.indexAt,S.lit h3,asIntOf,run_under u1,r1,Instr.sureAddr,h4,hlt,run_size u2,u3,add_addr]
  ·rename_i m e0 k cs hk
   rw [hk]at hu
   obtain ⟨u1,ei,u2,u3,_⟩:=hu
   obtain ⟨hlt0,rfl⟩:=h5
   have hlt:n<(m:Int):=by omega
   obtain ⟨b,q,r1⟩:=rep_ptr hg
   rw [r1]at hg
   refine ⟨_,?_,Rep.ptr_drop (n:=n.toNat*k) hg⟩
   simp [execOp,Instr.indexAt,S.lit h3,asIntOf,run_under u1,r1,Instr.sureAddr,h4,hlt,run_size u2,u3,add_addr]
  ·rename_i m e0 k t k' j o hk
   rw [hk]at hu
   obtain ⟨u1,ei,u2,u3,_⟩:=hu
   obtain ⟨hlt0,rfl⟩:=h5
   have r1:a.eval x=.pointer (some ⟨(κ t).1,j*k'+o,none⟩):=hg
   have hlt:n<(m:Int):=by omega
   refine ⟨.pointer (some ⟨(κ t).1,j*k'+o+n.toNat*k,none⟩),?_,by show Value.pointer _=Value.pointer _;rw [Nat.add_assoc]⟩
   simp [execOp,Instr.indexAt,S.lit h3,asIntOf,run_under u1,r1,Instr.sureAddr,h4,hlt,run_size u2,u3,add_addr]
  ·rename_i m e0 k g off hk
   rw [hk]at hu
   obtain ⟨u1,ei,u2,u3,_⟩:=hu
   obtain ⟨hlt0,rfl⟩:=h5
   have r1:a.eval x=.pointer (some ⟨g,off,none⟩):=S.lit h2
   have hlt:n<(m:Int):=by omega
   refine ⟨.pointer (some ⟨g,off+n.toNat*k,none⟩),?_,Rep.lit rfl⟩
   simp [execOp,Instr.indexAt,S.lit h3,asIntOf,run_under u1,r1,Instr.sureAddr,h4,hlt,run_size u2,u3,add_addr]
  ·exact h5.elim
 | index ty x ix =>
  rcases h with h|⟨m,e,k,z,yy,cs,q,n,i,y,h1,h2,h3,h4,h5,h6,h7,rfl⟩
  ·obtain ⟨z,yy,s,q,n,b,h1,h2,h3,h4,h5,rfl⟩:=h
   have u1:C.P.underlying ty=some .string:=(C.hT _ _ h1).und
   refine ⟨.int .u8 (b.toNat:Nat),?_,Rep.lit rfl⟩
   have h6:s[n.toNat]? = some b:=by
    obtain ⟨q1,q2⟩:=List.getElem?_eq_some_iff.1 h5
    have hlt:n.toNat<s.size:=by simpa using q1
    rw [getElem?_pos s n.toNat hlt]
    exact congrArg some q2
   simp [execOp,Instr.index,S.lit h2,S.lit h3,asIntOf,run_under u1,h4,h6]
  ·have hg:Rep w Z (.agg cs) (a.eval x):=S.get h2
   obtain ⟨u1,ei,u2,u3,_⟩:=(C.hT _ _ h1).und
   simp only [execOp,S.lit h3]
   generalize a.eval x=u0 at *
   cases hg with
   | agg hl hr =>
    obtain ⟨u,r1,r2⟩:=takeA_part (C.hT _ _ h6) (.agg hl hr) h7
    exact ⟨u,by simp [Instr.index,asIntOf,run_under u1,h4,h5,run_size u2,u3,r1],r2⟩
 | binOp op ty x y yt =>
  obtain ⟨p,q,r,h1,h2,h3,rfl⟩:=h
  obtain ⟨r1,r2⟩:=binR_sound (P:=C.P) (ty:=ty) (fun hb=>isBoolT_sound hb) h3 x y w
  refine ⟨r,?_,Rep.lit r2⟩
  simp only [execOp,S.lit h1,S.lit h2]
  rw [Sem.run_bind,r1]
  rfl
 | unOp op xt x =>
  obtain ⟨p,r,h1,h2,rfl⟩:=h
  obtain ⟨r1,r2⟩:=unR_sound (P:=C.P) h2 w
  refine ⟨r,?_,Rep.lit r2⟩
  simp only [execOp,S.lit h1]
  rw [Sem.run_bind,r1]
  rfl
 | convert src dst x =>
  obtain ⟨i,j,h1,h2,h4⟩:=h
  have hu:=(C.hT _ _ h1).und
  have hv:=(C.hT _ _ h2).und
  split at h4
  ·rename_i k1 k k2 n hk1 hk2 hx
   rw [hk1]at hu
   rw [hk2]at hv
   subst h4
   refine ⟨_,?_,Rep.lit rfl⟩
   simp [execOp,convert,run_under hu,run_under hv,S.lit hx,Conv.intToInt]
  ·rename_i s hk1 hk2 hx
   rw [hk1]at hu
   rw [hk2]at hv
   subst h4
   refine ⟨_,?_,Rep.lit rfl⟩
   simp [execOp,convert,run_under hu,run_under hv,S.lit hx]
  ·rename_i e0 k lm k' es hk1 hk2 hx
   rw [hk1]at hu
   rw [hk2]at hv
   obtain ⟨h5,rfl,rfl,l,rfl,rfl⟩:=h4
   have hg:Rep w Z (.sl 1 (l.map byteA)) (a.eval x):=S.get hx
   refine ⟨_,?_,Rep.lit rfl⟩
   simp only [execOp]
   generalize a.eval x=v0 at *
   cases hg':l with
   | nil =>
    subst hg'
    cases hg with
    | nil =>
     rename_i A c
     cases A with
     | none=>simp [convert,run_under hu.1,run_under hv,run_under (isByteT_sound h5),Conv.bytesToString];rfl
     | some ad=>simp [convert,run_under hu.1,run_under hv,run_under (isByteT_sound h5),Conv.bytesToString,loadCells,loadCellsFrom];rfl
    | sl vs hb hc hk hm hr=>simp [convert,run_under hu.1,run_under hv,run_under (isByteT_sound h5),Conv.bytesToString,loadCells,loadCellsFrom];rfl
   | cons y ys =>
    rw [←hg']
    generalize hes:l.map byteA=es at *
    cases hg with
    | nil=>rw [hg']at hes;simp at hes
    | sl vs hb hc hk hm hr =>
     have hlen:es.length=l.length:=by rw [←hes];simp
     rw [hlen]
     rw [Sem.run_bind,run_bytes hu.1 (isByteT_sound h5) hv (l:=l) (fun i hi=>?_)]
     ·rfl
     ·have h1:=(hm i 0 (by omega) (by omega)).1
      have h2:=hr i (by omega) 0 (by rw [hk i (by omega)];omega)
      have h3:(es[i]'(by omega))=byteA (l[i]):=by subst hes;simp
      simp only [h3]at h2
      have h4:vs i 0=.int .u8 ((l[i]).toNat:Nat):=Rep.lit_eq h2
      rw [h4]at h1
      simpa using h1
  ·rename_i e0 k lm t k' off len hk1 hk2 hx
   rw [hk1]at hu
   rw [hk2]at hv
   obtain ⟨h5,rfl,rfl,e,l,h6,rfl,rfl,rfl⟩:=h4
   obtain ⟨g1,g2⟩:=(S.get hx:RepT w Z β κ (.osl t 1 0 l.length) (a.eval x))
   obtain ⟨_,cur,c1,c2,c3,c4,c5,c6,c7,c8⟩:=S.own t _ h6
   have hb:Box w (κ t).1 cur e:=c1
   refine ⟨_,?_,Rep.lit rfl⟩
   simp only [execOp,g2,Nat.zero_mul]
   rw [Sem.run_bind,run_bytes hu.1 (isByteT_sound h5) hv (l:=l) (fun i hi=>?_)]
   ·rfl
   ·obtain ⟨p1,p2,p3⟩:=c8 i (by simpa using hi)
    obtain ⟨y,q1,q2⟩:=p3 0 (by rw [p1];omega)
    have h3:((l.map byteA)[i]'(by simpa using hi))=byteA (l[i]):=by simp
    simp only [h3]at q2
    have h4:y=.int .u8 ((l[i]).toNat:Nat):=Rep.lit_eq q2
    rw [h4]at q1
    rw [hb.cell,Nat.zero_add]
    simpa using q1
  ·rename_i e0 k lm hk1 hk2 hx
   rw [hk1]at hu
   rw [hk2]at hv
   obtain ⟨h5,rfl,rfl⟩:=h4
   refine ⟨_,?_,Rep.lit rfl⟩
   simp [execOp,S.lit hx,convert,run_under hu.1,run_under hv,run_under (isByteT_sound h5),Conv.bytesToString]
   rfl
  ·exact h4.elim
 | build ty parts =>
  obtain ⟨fs,z,bb,cs,h1,h2,rfl⟩:=h
  obtain ⟨zv,z1,z2⟩:=run_zero (C.hT _ _ h1) w
  obtain ⟨fds,u1,u0,u2⟩:=(C.hT _ _ h1).und
  have hpl:∃places:Array (Nat × Nat),(fds.mapM fun f=>do pure (f.offset,←Go.sizeOf f.type):Sem (Array (Nat × Nat))).run C.P w=.ok places w∧∀(f o n:Nat) (t:TypeId),fs[f]? = some (o,n,t)→places[f]? = some (o,n):=by
   refine ⟨fds.map fun fd=>(fd.offset,((C.P.info? fd.type).map (·.size)).getD 0),run_places fds _ fun fd hfd=>?_,fun f o n t hf=>?_⟩
   ·obtain ⟨f,hlt,rfl⟩:=Array.mem_iff_getElem.1 hfd
    obtain ⟨⟨o,n,t⟩,hp⟩:∃p,fs[f]? = some p:=⟨_,List.getElem?_eq_getElem (by omega)⟩
    obtain ⟨fd,v1,_,_,_,fi,v4,v5⟩:=u2 f o n t hp
    rw [Array.getElem?_eq_getElem hlt]at v1
    cases v1
    rw [run_size v4,v4]
    rfl
   ·obtain ⟨fd,v1,rfl,rfl,_,fi,v4,rfl⟩:=u2 f o n t hf
    simp [v1,v4]
  obtain ⟨places,p1,p2⟩:=hpl
  obtain ⟨vs',q1,q2⟩:=fill_sound S (place:=(places[·]?)) p2 parts.toList z zv.cells cs (z2 w Z) h2
  refine ⟨.agg vs',?_,q2⟩
  have e:(parts.map fun (i,x)=>(i,a.eval x)).toList=parts.toList.map fun (i,x)=>(i,a.eval x):=by simp
  simp only [execOp,Instr.build,Sem.run_bind,z1,Result.andThen_ok,run_under u1,p1,e,q1]
  rfl
 | makeInterface ty x =>
  obtain ⟨i,y,h1,h2,h3,rfl⟩:=h
  have hu:=(C.hT _ _ h1).und
  refine ⟨.iface ty (a.eval x),?_,Rep.ifc (normA_sound (S.get h3))⟩
  cases hk:i.kind <;> rw [hk]at hu h2 <;> simp only at hu h2
  ·simp [execOp,Instr.makeInterface,run_under hu]
  ·simp [execOp,Instr.makeInterface,run_under hu]
  ·simp [execOp,Instr.makeInterface,run_under hu]
  ·obtain ⟨fds,q1,_⟩:=hu
   simp [execOp,Instr.makeInterface,run_under q1]
  ·simp [execOp,Instr.makeInterface,run_under hu.1]
  ·simp [execOp,Instr.makeInterface,run_under hu.1]
  ·simp [execOp,Instr.makeInterface,run_under hu]
 | makeFunc f first captured =>
  obtain ⟨fs,cs,h1,h2,rfl⟩:=h
  obtain ⟨q1,q2⟩:=avsL_fn S h1
  obtain ⟨r1,r2⟩:=avsL_fn S h2
  exact ⟨_,rfl,Rep.fn q1 (fun j hj=>q2 j hj (by omega)) r1 (fun j hj=>r2 j hj (by omega))⟩
 | slice ty x lo hi mx =>
  cases mx with
  | some m=>exact h.elim
  | none =>
   obtain ⟨i,lo',hi',h1,h2,h3,h4⟩:=h
   have hu:=(C.hT _ _ h1).und
   split at h4
   ·rename_i s hk hx
    rw [hk]at hu
    obtain ⟨l,hh,h5,rfl⟩:=h4
    obtain ⟨b1,b2,b3⟩:=sliceR_sound S (C:=C) (cap:=s.size) false h2 h3 h5 (Nat.le_refl _)
    exact ⟨_,by simp [execOp,Instr.sliceAt,Instr.slice,run_under hu,S.lit hx,b1],Rep.lit rfl⟩
   ·rename_i e0 k lm k' es hk hx
    rw [hk]at hu
    obtain ⟨rfl,l,hh,h5,rfl⟩:=h4
    obtain ⟨u1,ei,u2,u3⟩:=hu
    have hg:Rep w Z (.sl k es) (a.eval x):=S.get hx
    have hg2:∃A c,a.eval x=.slice A es.length c∧es.length≤c:=by
     obtain ⟨A,c,e⟩:=lenA_sound hg rfl
     refine ⟨A,c,e,?_⟩
     rw [e]at hg
     cases hg with
     | nil=>simp
     | sl vs hb hc hk hm hr=>exact hc
    obtain ⟨A,c,e,hc⟩:=hg2
    rw [e]at hg
    obtain ⟨b1,b2,b3⟩:=sliceR_sound S (C:=C) (cap:=c) true h2 h3 h5 hc
    refine ⟨_,?_,slice_sl (l:=l) (h:=hh) hg b2 b3⟩
    simp [execOp,Instr.sliceAt,Instr.slice,run_under u1,e,b1,run_size u2,u3]
   ·rename_i e0 k lm es hk hx
    rw [hk]at hu
    obtain ⟨rfl,l,hh,h5,rfl⟩:=h4
    obtain ⟨u1,ei,u2,u3⟩:=hu
    have hg:Rep w Z (.nat es) (a.eval x):=S.get hx
    simp only [execOp]
    generalize a.eval x=u0 at *
    cases hg with
    | nat hr hc hz =>
     obtain ⟨b1,b2,b3⟩:=sliceR_sound S (C:=C) true h2 h3 h5 hc
     refine ⟨_,?_,slice_nat (l:=l) (h:=hh) hr hc hz b2 b3⟩
     simp [Instr.sliceAt,Instr.slice,run_under u1,b1,run_size u2,u3]
   ·rename_i e0 k bb t k' off len hk hx
    rw [hk]at hu
    obtain ⟨rfl,l,hh,h5,h6⟩:=h4
    obtain ⟨u1,ei,u2,u3⟩:=hu
    obtain ⟨g1,g2⟩:=(S.get hx:RepT w Z β κ (.osl t k off len) (a.eval x))
    obtain ⟨b1,b2,b3⟩:=sliceR_sound S (C:=C) (cap:=(κ t).2-off) true h2 h3 h5 (by omega)
    have hrun:(execOp a.eval ⟨dst,.slice ty x lo hi none,type,pos,after,guard⟩).run C.P w=.ok (.value (.slice (if (κ t).2-off=l then some ⟨(κ t).1,off*k,none⟩ else some ⟨(κ t).1,off*k+l*k,none⟩) (hh-l) ((κ t).2-off-l))) w:=by
     simp [execOp,Instr.sliceAt,Instr.slice,run_under u1,g2,b1,run_size u2,u3,add_addr]
    rcases h6 with ⟨h6,rfl⟩|⟨rfl,rfl⟩
    ·refine ⟨_,hrun,by omega,?_⟩
     rw [if_neg (by omega)]
     have e1:off*k+l*k=(off+l)*k:=by rw [Nat.add_mul]
     have e2:(κ t).2-off-l=(κ t).2-(off+l):=by omega
     rw [e1,e2]
    ·refine ⟨_,hrun,?_⟩
     rw [Nat.sub_self]
     cases bb
     ·exact Rep.nil
     ·exact Rep.nat (l:=[]) (Rd.nil _ _) (by simp) (fun _ _ _ j hj=>by simp at hj)
   ·rename_i n e0 k cs hk hx
    rw [hk]at hu
    obtain ⟨hlen,hone,l,hh,h5,rfl⟩:=h4
    obtain ⟨u1,ei,u2,u3,u4⟩:=hu
    have hg:Rep w Z (.ptr cs) (a.eval x):=S.get hx
    obtain ⟨b1,b2,b3⟩:=sliceR_sound S (C:=C) (cap:=n) false h2 h3 h5 (Nat.le_refl _)
    generalize hv:a.eval x=v0 at hg
    cases hg with
    | ptr vs hm hr =>
     rename_i b o
     have hcl:=chunk_len k n (cs.take (n*k))
     have hR:Rep w Z (.sl k (chunk k n (cs.take (n*k)))) (.slice (some ⟨b,o,none⟩) (chunk k n (cs.take (n*k))).length n):=by
      by_cases hn:n=0
      ·subst hn
       exact .nil
      ·have hpos:0<n*k:=Nat.mul_pos (by omega) (by omega)
       have hget:=chunk_get k (by omega) n (cs.take (n*k)) (by simp;omega) hone
       have hlt:∀i j,i<n→j<k→i*k+j<n*k:=fun i j hi hj=>by
        have h1:(i+1)*k≤n*k:=Nat.mul_le_mul_right k hi
        rw [Nat.add_mul]at h1
        omega
       refine .sl (fun i j=>vs (i*k+j)) (World.block_lt_of_cell? w _ (hm 0 (by omega)).1) (by omega) (fun i hi=>(hget i hi).1) (fun i j hi hj=>?_) (fun i hi j hj=>?_)
       ·have h1:=hlt i j (by omega) hj
        have:=hm (i*k+j) (by omega)
        rw [←Nat.add_assoc]at this
        exact this
       ·have hj':j<k:=by rw [(hget i hi).1]at hj;exact hj
        have h1:=hlt i j (by omega) hj'
        have h2:=(hget i hi).2 j hj'
        rw [List.getElem?_eq_getElem hj,List.getElem?_take_of_lt h1,List.getElem?_eq_getElem (show i*k+j<cs.length by omega)]at h2
        rw [Option.some.inj h2]
        exact hr _ _
     have hrun:(execOp a.eval ⟨dst,.slice ty x lo hi none,type,pos,after,guard⟩).run C.P w=.ok (.value (.slice (if n=l then some ⟨b,o,none⟩ else some ⟨b,o+l*k,none⟩) (hh-l) (n-l))) w:=by
      simp only [execOp,Instr.sliceAt,Sem.run_bind,run_under u1,Result.andThen_ok,hv,Instr.sureAddr,b1,run_size u2,u3,Sem.run_pure]
      split <;> simp_all [add_addr]
     refine ⟨_,hrun,?_⟩
     have h6:=slice_sl (l:=l) (h:=hh) hR b2 (by omega)
     have e:(if n=l then some (⟨b,o,none⟩:Addr) else some ⟨b,o+l*k,none⟩)=(if n=l then some ⟨b,o,none⟩ else (some (⟨b,o,none⟩:Addr)).map (·.add (l*k))):=by
      split
      ·rfl
      ·simp [add_addr]
     rw [e]
     exact h6
   ·exact h4.elim
 | lookup ty x q ok =>
  obtain ⟨k,e,z,bb,ki,ei,t,m,kv,a0,h1,h2,h3,h4,h5,hx,ho,hq,hk,hv⟩:=h
  have u1:C.P.underlying ty=some (.map k e):=(C.hT _ _ h1).und
  obtain ⟨d,u2,u3⟩:=keyT_of (C.hT _ _ h2) hk
  obtain ⟨zv,r1,r2⟩:=zero_take (w:=w) (Z:=Z) (C.hT _ _ h3) h4 h5
  obtain ⟨_,es,clock,o1,o2,o3,o4⟩:=S.own t _ ho
  obtain ⟨y,q1,q2⟩:=lookup_run u1 u2 u3 o1 o4 hk r1 r2 ok
  have ex:a.eval x=.map (some (κ t).1):=S.get hx
  refine ⟨y,by simp [execOp,ex,S.lit hq,q1],?_⟩
  cases ok <;> (subst hv;exact q2)
 | nilCheck x =>
  simp only [aval]at h
  split at h
  ·rename_i t off hx
   subst h
   have e:a.eval x=.pointer (some ⟨β t,off,none⟩):=S.get hx
   exact ⟨_,by simp [execOp,e],rfl⟩
  ·rename_i cs hx
   subst h
   have hg:=S.get hx
   obtain ⟨b,q,e⟩:=rep_ptr hg
   rw [e]at hg
   exact ⟨_,by simp [execOp,e],hg⟩
  ·rename_i t k i o hx
   subst h
   have e:a.eval x=.pointer (some ⟨(κ t).1,i*k+o,none⟩):=S.get hx
   exact ⟨_,by simp [execOp,e],rfl⟩
  ·rename_i t b hx
   subst h
   have hg:Rep w Z (.ifc t b) (a.eval x):=S.get hx
   simp only [execOp]
   generalize a.eval x=v0 at *
   cases hg with
   | ifc hr=>exact ⟨_,rfl,Rep.ifc hr⟩
  ·rename_i f fs cs hx
   subst h
   have hg:Rep w Z (.fn (.func f) fs cs) (a.eval x):=S.get hx
   simp only [execOp]
   generalize a.eval x=v0 at *
   cases hg with
   | fn h1 h2 h3 h4=>exact ⟨_,rfl,Rep.fn h1 h2 h3 h4⟩
  ·exact h.elim
 | call c =>
  simp only [aval]at h
  split at h
  ·rename_i hc
   obtain ⟨x,ty,i,h1,h2,h3,h4⟩:=h
   obtain ⟨callee,args,argTypes⟩:=c
   simp only at hc h1 h2
   subst hc h1 h2
   have hu:=(C.hT _ _ h3).und
   split at h4
   ·rename_i s hk hx
    rw [hk]at hu
    subst h4
    exact ⟨_,by simp [execOp,resolve,invoke,builtin,Builtin.len_,run_under hu,S.lit hx,goInt],Rep.lit rfl⟩
   ·rename_i e0 k lm s hk hx
    rw [hk]at hu
    obtain ⟨n,h5,rfl⟩:=h4
    obtain ⟨A,c,e⟩:=lenT_sound (S.get hx) h5
    exact ⟨_,by simp [execOp,resolve,invoke,builtin,Builtin.len_,run_under hu.1,e,goInt],Rep.lit rfl⟩
   ·exact h4.elim
  ·rename_i hc
   obtain ⟨x,y,p,q,r,h1,h2,h3,h4,rfl⟩:=h
   obtain ⟨callee,args,argTypes⟩:=c
   simp only at hc h1
   subst hc h1
   unfold maxR at h4
   split at h4
   ·obtain ⟨rfl,rfl⟩:=h4
    exact ⟨_,by simp [execOp,resolve,invoke,builtin,Builtin.max_,Builtin.max2,S.lit h2,S.lit h3],Rep.lit rfl⟩
   ·exact h4.elim
  ·rename_i hc
   obtain ⟨x,y,p,q,r,h1,h2,h3,h4,rfl⟩:=h
   obtain ⟨callee,args,argTypes⟩:=c
   simp only at hc h1
   subst hc h1
   unfold minR at h4
   split at h4
   ·obtain ⟨rfl,rfl⟩:=h4
    exact ⟨_,by simp [execOp,resolve,invoke,builtin,Builtin.min_,Builtin.min2,S.lit h2,S.lit h3],Rep.lit rfl⟩
   ·exact h4.elim
  ·exact h.elim
 | _=>exact h.elim
end
end Go.Proofs.YtmekiphpjpblpaaGreat
