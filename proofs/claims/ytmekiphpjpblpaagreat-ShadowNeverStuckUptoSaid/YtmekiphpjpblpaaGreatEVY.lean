import Derived.Test.YtmekiphpjpblpaaGreatEVB
import Derived.MapKept
import Derived.Carry
/- Text VY. -/
set_option linter.unusedSimpArgs false
set_option linter.unusedVariables false
set_option maxHeartbeats 40000000
set_option maxRecDepth 100000
namespace Go.Proofs.YtmekiphpjpblpaaGreat
open Go.RowKit Lim
section
variable {P:Program} {w:World} {Z:Zone} {kd:TK} {d:TypeDesc}
def keyT:TK→TypeDesc→Prop
 | .int k,.int k'=>k=k'
 | .str,.string=>True
 | .bool,.bool=>True
 | _,_=>False
theorem keyT_of {ty:TypeId} {i:TI} (h:TIOK P ty i) {v:Value} (hk:keyB i.kind v=true):∃d,P.underlying ty=some d∧keyT i.kind d:=by
 have hu:=h.und
 cases hi:i.kind with
 | int k=>rw [hi]at hu;exact ⟨_,hu,rfl⟩
 | str=>rw [hi]at hu;exact ⟨_,hu,trivial⟩
 | bool=>rw [hi]at hu;exact ⟨_,hu,trivial⟩
 | _=>rw [hi]at hk;cases v <;> cases hk
theorem isKey_of {a:Value} (h:keyT kd d) (ha:keyB kd a=true):MapKept.IsKey d a:=by
 cases kd with
 | int k =>
  cases d <;> first|exact h.elim|skip
  obtain rfl:=(h:_=_)
  cases a <;> first|(cases ha;done)|skip
  simp only [keyB,decide_eq_true_eq]at ha
  exact ha.symm
 | str=>cases d <;> first|exact h.elim|(cases a <;> first|trivial|(cases ha;done))
 | bool=>cases d <;> first|exact h.elim|(cases a <;> first|trivial|(cases ha;done))
 | _=>cases d <;> exact h.elim
theorem sameNow_of {a b:Value} (h:keyT kd d) (ha:keyB kd a=true) (hb:keyB kd b=true):Instr.sameNow d a b=some (keyEq a b):=by
 cases kd with
 | int k =>
  cases d <;> first|exact h.elim|skip
  obtain rfl:=(h:_=_)
  cases a <;> first|(cases ha;done)|skip
  cases b <;> first|(cases hb;done)|skip
  simp only [keyB,decide_eq_true_eq]at ha hb
  subst ha
  subst hb
  simp [Instr.sameNow,keyEq]
 | str =>
  cases d <;> first|exact h.elim|skip
  cases a <;> first|(cases ha;done)|skip
  cases b <;> first|(cases hb;done)|skip
  rfl
 | bool =>
  cases d <;> first|exact h.elim|skip
  cases a <;> first|(cases ha;done)|skip
  cases b <;> first|(cases hb;done)|skip
  rfl
 | _=>cases d <;> exact h.elim
theorem ba_beq {a b:ByteArray} (h:(a == b)=true):a=b:=by
 cases a
 cases b
 rename_i x y
 have h:(x == y)=true:=h
 rw [eq_of_beq h]
theorem ba_refl (a:ByteArray):(a == a)=true:=by
 cases a
 rename_i x
 show (x == x)=true
 exact beq_self_eq_true x
theorem sameBits_of {a b:Value} (h:keyEq a b=true) (n:Nat):Instr.sameBits n b a=true:=by
 cases a <;> cases b <;> first|(cases h;done)|skip
 ·simp only [keyEq,beq_iff_eq]at h;subst h;simp [Instr.sameBits]
 ·simp only [keyEq,Bool.and_eq_true,decide_eq_true_eq,beq_iff_eq]at h;obtain ⟨rfl,rfl⟩:=h;simp [Instr.sameBits]
 ·have h:=ba_beq h;subst h;simp [Instr.sameBits,ba_refl]
theorem find_none (h:keyT kd d) {q:Value} (hq:keyB kd q=true):∀{m:List (Value × AV)} {es:List MapEntry} (i:Nat),MapR w Z kd m es→mgetA m q=none→Instr.findNow d q es i=some none
 | [],[],_,_,_=>rfl
 | [],_ :: _,_,hm,_=>hm.elim
 | _ :: _,[],_,hm,_=>hm.elim
 | p :: m,e :: es,i,hm,hn=>by
  obtain ⟨h1,h2,h3,h4⟩:=hm
  unfold mgetA at hn
  cases hk:keyEq q p.1 with
  | true=>rw [hk]at hn;simp at hn
  | false =>
   rw [hk]at hn
   simp only [Bool.false_eq_true,if_false]at hn
   unfold Instr.findNow
   rw [h1,sameNow_of h hq h2,hk]
   exact find_none h hq (i+1) h4 hn
theorem find_some (h:keyT kd d) {q:Value} (hq:keyB kd q=true):∀{m:List (Value × AV)} {es:List MapEntry} (i:Nat) {x:AV},MapR w Z kd m es→mgetA m q=some x →
  ∃j e,Instr.findNow d q es i=some (some (i+j,e.val))∧es[j]? = some e∧keyEq q e.key=true∧Rep w Z x e.val
 | [],[],_,_,_,hn=>by cases hn
 | [],_ :: _,_,_,hm,_=>hm.elim
 | _ :: _,[],_,_,hm,_=>hm.elim
 | p :: m,e :: es,i,x,hm,hn=>by
  obtain ⟨h1,h2,h3,h4⟩:=hm
  unfold mgetA at hn
  cases hk:keyEq q p.1 with
  | true =>
   rw [hk]at hn
   simp only [if_true,Option.some.injEq]at hn
   subst hn
   refine ⟨0,e,?_,rfl,by rw [h1];exact hk,h3⟩
   unfold Instr.findNow
   rw [h1,sameNow_of h hq h2,hk]
   rfl
  | false =>
   rw [hk]at hn
   simp only [Bool.false_eq_true,if_false]at hn
   obtain ⟨j,e',q1,q2,q3,q4⟩:=find_some h hq (i+1) h4 hn
   refine ⟨j+1,e',?_,by simpa using q2,q3,q4⟩
   unfold Instr.findNow
   rw [h1,sameNow_of h hq h2,hk]
   simp only
   rw [q1,Nat.add_right_comm,Nat.add_assoc]
theorem find_ge {q:Value}:∀(es:List MapEntry) {i k:Nat} {v:Value},Instr.findNow d q es i=some (some (k,v))→i≤k
 | [],_,_,_,hn=>by cases hn
 | e :: es,i,k,v,hn=>by
  unfold Instr.findNow at hn
  split at hn
  ·cases hn;exact Nat.le_refl _
  ·have:=find_ge es hn;omega
  ·cases hn
theorem MapR.put {q:Value} (hq:keyB kd q=true) (f:MapEntry→MapEntry) (hf:∀e,(f e).key=q) {y:AV} (hy:∀e,Rep w Z y (f e).val):∀{m:List (Value × AV)} {es:List MapEntry} (i:Nat) {j:Nat} {v:Value},keyT kd d→MapR w Z kd m es→Instr.findNow d q es i=some (some (i+j,v))→MapR w Z kd (mputA m q y) (es.modify j f)
 | [],[],_,_,_,_,_,hn=>by cases hn
 | [],_ :: _,_,_,_,_,hm,_=>hm.elim
 | _ :: _,[],_,_,_,_,hm,_=>hm.elim
 | p :: m,e :: es,i,j,v,h,hm,hn=>by
  obtain ⟨h1,h2,h3,h4⟩:=hm
  unfold Instr.findNow at hn
  rw [h1,sameNow_of h hq h2]at hn
  unfold mputA
  cases hk:keyEq q p.1 with
  | true =>
   rw [hk]at hn
   simp only [Option.some.injEq,Prod.mk.injEq]at hn
   have hj:j=0:=by omega
   subst hj
   simp only [if_true]
   exact ⟨hf e,hq,hy e,h4⟩
  | false =>
   rw [hk]at hn
   simp only at hn
   simp only [Bool.false_eq_true,if_false]
   cases j with
   | zero =>
    exfalso
    have:=find_ge es hn
    omega
   | succ j =>
    refine ⟨h1,h2,h3,?_⟩
    exact MapR.put hq f hf hy (i+1) h h4 (by rw [hn,Nat.add_right_comm,Nat.add_assoc])
theorem MapR.push {q:Value} (hq:keyB kd q=true) {y:AV} {v:Value} (hy:Rep w Z y v) (b:Nat):∀{m:List (Value × AV)} {es:List MapEntry},MapR w Z kd m es→mgetA m q=none→MapR w Z kd (mputA m q y) (es ++ [⟨q,v,b⟩])
 | [],[],_,_=>⟨rfl,hq,hy,trivial⟩
 | [],_ :: _,hm,_=>hm.elim
 | _ :: _,[],hm,_=>hm.elim
 | p :: m,e :: es,hm,hn=>by
  obtain ⟨h1,h2,h3,h4⟩:=hm
  unfold mgetA at hn
  unfold mputA
  cases hk:keyEq q p.1 with
  | true=>rw [hk]at hn;simp at hn
  | false =>
   rw [hk]at hn
   simp only [Bool.false_eq_true,if_false]at hn ⊢
   exact ⟨h1,h2,h3,MapR.push hq hy b h4 hn⟩
variable {ty k e:TypeId} {g clock:Nat} {es:Array MapEntry} {m:List (Value × AV)} {q:Value}
theorem rep_tup2 {a b:AV} {x y:Value} (h1:Rep w Z a x) (h2:Rep w Z b y):Rep w Z (.tup [a,b]) (.tuple #[x,y]) :=
 .tup rfl fun j hj=>by
  match j,hj with
  | 0,_=>exact h1
  | 1,_=>exact h2
theorem lookup_run (ht:P.underlying ty=some (.map k e)) (hk:P.underlying k=some d) (hkt:keyT kd d) (hb:w.heap[g]? = some (.map es clock)) (hm:MapR w Z kd m es.toList) (hq:keyB kd q=true) {zv:Value} (hz:(zeroValue e).run P w=.ok zv w) {a0:AV} (h0:Rep w Z a0 zv) (ok:Bool) :
  ∃v,(Instr.lookup ty (.map (some g)) q ok).run P w=.ok v w∧Rep w Z (bif ok then .tup [(mgetA m q).getD a0,.lit (.bool (mgetA m q).isSome)] else (mgetA m q).getD a0) v:=by
 have hc:=fun b=>MapKept.run_checkKey hk (isKey_of hkt hq) b 9999 (w:=w)
 cases hg:mgetA m q with
 | none =>
  have hf:=MapKept.run_findKey (w:=w) hk (find_none hkt hq 0 hm hg)
  refine ⟨if ok then .tuple #[zv,.bool false] else zv,?_,?_⟩
  ·simp [Instr.lookup,run_underlying ht,MapKept.run_getObj_map hb,hc,hf,hz,Result.andThen]
  ·cases ok
   ·exact h0
   ·exact rep_tup2 h0 (.lit rfl)
 | some x =>
  obtain ⟨j,e0,h1,h2,h3,h4⟩:=find_some hkt hq 0 hm hg
  have hf:=MapKept.run_findKey (w:=w) hk h1
  refine ⟨if ok then .tuple #[e0.val,.bool true] else e0.val,?_,?_⟩
  ·simp [Instr.lookup,run_underlying ht,MapKept.run_getObj_map hb,hc,hf,Result.andThen]
  ·cases ok
   ·exact h4
   ·exact rep_tup2 h4 (.lit rfl)
theorem update_run (ht:P.underlying ty=some (.map k e)) (hk:P.underlying k=some d) (hkt:keyT kd d) (hb:w.heap[g]? = some (.map es clock)) (hm:MapR w Z kd m es.toList) (hq:keyB kd q=true) {y:AV} {v:Value} (hy:Rep w Z y v) :
  ∃es' clock',(Instr.mapUpdate ty (.map (some g)) q v).run P w=.ok () { w with heap:=w.heap.setIfInBounds g (.map es' clock') }∧MapR w Z kd (mputA m q y) es'.toList:=by
 have hc:=fun b=>MapKept.run_checkKey hk (isKey_of hkt hq) b 9999 (w:=w)
 cases hg:mgetA m q with
 | none =>
  have hf:=MapKept.run_findKey (w:=w) hk (find_none hkt hq 0 hm hg)
  refine ⟨es.push ⟨q,v,clock⟩,clock+1,?_,?_⟩
  ·simp [Instr.mapUpdate,run_underlying ht,MapKept.run_getObj_map hb,hc,hf,MapKept.run_setObj_map _ hb,Result.andThen]
  ·rw [Array.toList_push];exact MapR.push hq hy clock hm hg
 | some x =>
  obtain ⟨j,e0,h1,h2,h3,h4⟩:=find_some hkt hq 0 hm hg
  have hf:=MapKept.run_findKey (w:=w) hk h1
  have hs:(Instr.keyThatStays e0.key q).run P w=.ok q w:=by simp [Instr.keyThatStays,sameBits_of h3]
  have h2':es[j]? = some e0:=by simpa using h2
  refine ⟨es.modify j (fun x=>{ x with key:=q,val:=v }),clock,?_,?_⟩
  ·simp [Instr.mapUpdate,run_underlying ht,MapKept.run_getObj_map hb,hc,hf,h2',hs,MapKept.run_setObj_map _ hb,Result.andThen]
  ·rw [Array.toList_modify]
   exact MapR.put hq (fun x=>{ x with key:=q,val:=v }) (fun _=>rfl) (fun _=>hy) 0 hkt hm h1
theorem zero_take {i:TI} {ty:TypeId} (h:TIOK P ty i) {a:AV} (ha:i.zero=[a]) (hk:flatK i.kind=true):∃zv,(zeroValue ty).run P w=.ok zv w∧Rep w Z a zv:=by
 obtain ⟨info,zv,h1,h2,h3,h4,h5⟩:=h.inf
 have hr:(zeroValue ty).run P w=.ok zv w:=by
  simp [zeroValue,typeInfo,h1,h4,Result.andThen]
 refine ⟨zv,hr,?_⟩
 have h6:=h5 w Z
 have ho:zv.oneCell'=true:=by
  have h7:=h.one
  cases hi:i.kind <;> rw [hi]at h7 hk <;> first|exact h7 info zv h1 h4|cases hk
 rw [ha,one_cells ho]at h6
 obtain ⟨l1,l2⟩:=Rep.agg_iff.1 h6
 exact l2 0 a zv rfl rfl
end
end Go.Proofs.YtmekiphpjpblpaaGreat
