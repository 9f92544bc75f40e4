import Derived.Test.YtmegoiaijfeilaaGreatDoorB3
import Derived.BigQuiet
import Derived.Deep.RegionWith
import Derived.Deep.DeepCutAuto
/- Texts merged: Qe Wi9 Rh Ul Ri Rj Wu1 Wu2 Wu3 Wj4 Wj5 Wj6 Wj7 Rl Wj8 Rk Rm Wj9 WjA WiA. -/
set_option linter.unusedSimpArgs false
set_option linter.unusedVariables false
namespace Go.Proofs.YtmegoiaijfeilaaGreatDoor
open Go.RowKit Lim
noncomputable section
noncomputable def primA:List (Nat × PrimK):=(6,kMemo probA probR) :: (29,kPrint 20) :: primKL
theorem primA_ok:∀p∈primA,∀args r,p.2 args=some r→AT p.1 args r :=
 List.forall_mem_cons.2 ⟨fun _ _ h=>kMemo_ok (KR_calls prob_k) h,List.forall_mem_cons.2 ⟨fun _ _=>kPrint_ok,primKL_ok⟩⟩
theorem awake_k:KRp primA 30 9 []=some (.lit (.bool true)):=by kernel_rfl
theorem awake_c:AC 9 [] (boo true):=(KRp_calls primA_ok awake_k).ofT
end
end Go.Proofs.YtmegoiaijfeilaaGreatDoor
set_option linter.unusedSimpArgs false
set_option linter.unusedVariables false
namespace Go.Proofs.YtmegoiaijfeilaaGreatDoor
open Go.RowKit Lim
end Go.Proofs.YtmegoiaijfeilaaGreatDoor
set_option linter.unusedSimpArgs false
set_option linter.unusedVariables false
namespace Go.Proofs.YtmegoiaijfeilaaGreatDoor
open Go.RowKit Lim
theorem ids_cons {y:PI} {ys:List PI} {a:Int} (h:idsE (y :: ys) a=true):a<y.1∧idsE ys y.1=true:=by
 unfold idsE at h
 cases hn:numB y.1 with
 | false=>rw [hn]at h;simp at h
 | true =>
  rw [hn]at h
  by_cases h1:y.1≤a
  ·simp [h1]at h
  ·exact ⟨by omega,by simpa [h1]using h⟩
theorem ids_lt:∀{pool:List PI} {a:Int},idsE pool a=true→∀y∈pool,a<y.1
 | [],_,_,y,hy=>absurd hy List.not_mem_nil
 | x :: xs,a,h,y,hy=>by
  obtain ⟨h1,h2⟩:=ids_cons h
  rcases List.mem_cons.1 hy with rfl|hy
  ·exact h1
  ·have:=ids_lt h2 y hy;omega
theorem rises_cons {c:Int}:∀{cs:List Int},risesB (c :: cs)=true→risesB cs=true∧∀d∈cs,c<d
 | [],_=>⟨rfl,fun d hd=>absurd hd List.not_mem_nil⟩
 | e :: cs,h=>by
  unfold risesB at h
  obtain ⟨h1,h2⟩:=Bool.and_eq_true_iff.1 h
  have h1:=of_decide_eq_true h1
  refine ⟨h2,fun d hd=>?_⟩
  rcases List.mem_cons.1 hd with rfl|hd
  ·exact h1
  ·have:=(rises_cons h2).2 d hd;omega
theorem pick_skip {y:PI} {ys:List PI}:∀(ch:List Int) (acc:List PI),(∀c∈ch,y.1≠c)→pickE (y :: ys) ch acc=pickE ys ch acc
 | [],_,_=>rfl
 | c :: cs,acc,h=>by
  have hc:idP c y=false:=by unfold idP;simpa using h c (by simp)
  unfold pickE
  rw [List.find?_cons,hc]
  cases ys.find? (idP c)with
  | none=>rfl
  | some z=>exact pick_skip cs _ fun d hd=>h d (by simp [hd])
theorem pick_filter:∀(pool:List PI) (a:Int) (ch:List Int) (acc items:List PI),idsE pool a=true→risesB ch=true→pickE pool ch acc=(items,0)→items=acc ++ pool.filter (fun y=>decide (y.1∈ch))∧∀c∈ch,∃y∈pool,y.1=c
 | [],a,[],acc,items,_,_,h=>by
  refine ⟨?_,fun c hc=>absurd hc List.not_mem_nil⟩
  have:acc=items:=congrArg Prod.fst h
  simp [this]
 | [],a,c :: cs,acc,items,_,_,h=>by
  have:(6:Int)=0:=congrArg Prod.snd h
  omega
 | y :: ys,a,[],acc,items,_,_,h=>by
  refine ⟨?_,fun c hc=>absurd hc List.not_mem_nil⟩
  have:acc=items:=congrArg Prod.fst h
  simp [this]
 | y :: ys,a,c :: cs,acc,items,hi,hr,h=>by
  obtain ⟨h1,h2⟩:=ids_cons hi
  obtain ⟨r1,r2⟩:=rises_cons hr
  have hys:=ids_lt h2
  by_cases hc:y.1=c
  ·have hf:pickE (y :: ys) (c :: cs) acc=pickE (y :: ys) cs (acc ++ [y]):=by
    conv=>lhs;unfold pickE
    have:idP c y=true:=by unfold idP;simpa using hc
    rw [List.find?_cons,this]
   rw [hf,pick_skip cs _ fun d hd=>by have:=r2 d hd;omega]at h
   obtain ⟨q1,q2⟩:=pick_filter ys y.1 cs _ _ h2 r1 h
   refine ⟨?_,fun d hd=>?_⟩
   ·rw [q1,List.filter_cons_of_pos (by simp [hc])]
    rw [List.append_assoc]
    congr 1
    show [y] ++ _=y :: _
    rw [List.singleton_append]
    congr 1
    refine List.filter_congr fun z hz=>?_
    have:=hys z hz
    have hne:z.1≠c:=by omega
    simp [hne]
   ·rcases List.mem_cons.1 hd with rfl|hd
    ·exact ⟨y,by simp,hc⟩
    ·obtain ⟨z,hz,e⟩:=q2 d hd
     exact ⟨z,by simp [hz],e⟩
  ·by_cases hlt:c<y.1
   ·exfalso
    have hn:(y :: ys).find? (idP c)=none:=by
     rw [List.find?_eq_none]
     intro z hz
     have hz1:y.1≤z.1:=by
      rcases List.mem_cons.1 hz with rfl|hz
      ·omega
      ·have:=hys z hz;omega
     unfold idP
     simp
     omega
    unfold pickE at h
    rw [hn]at h
    have:(6:Int)=0:=congrArg Prod.snd h
    omega
   ·have hall:∀d∈c :: cs,y.1≠d:=fun d hd=>by
     rcases List.mem_cons.1 hd with rfl|hd
     ·exact hc
     ·have:=r2 d hd;omega
    rw [pick_skip _ _ hall]at h
    obtain ⟨q1,q2⟩:=pick_filter ys y.1 (c :: cs) _ _ h2 hr h
    refine ⟨?_,fun d hd=>?_⟩
    ·rw [q1,List.filter_cons_of_neg]
     simp only [decide_eq_true_eq]
     exact fun hm=>hall _ hm rfl
    ·obtain ⟨z,hz,e⟩:=q2 d hd
     exact ⟨z,by simp [hz],e⟩
def sumM (m:PI→Int):List PI→Int
 | []=>0
 | y :: l=>m y+sumM m l
theorem sum_nonneg {m:PI→Int}:∀{l:List PI},(∀y∈l,0≤m y)→0≤sumM m l
 | [],_=>Int.le_refl _
 | y :: l,h=>by
  have h1:=h y (by simp)
  have h2:=sum_nonneg (m:=m) (l:=l) fun z hz=>h z (by simp [hz])
  unfold sumM
  omega
theorem tot_sum {m:PI→Int}:∀(l:List PI) (s:Int),0≤s→s+2000*(l.length:Nat)≤1000000→(∀y∈l,0≤m y∧m y≤2000)→totE m l s=s+sumM m l
 | [],s,_,_,_=>by simp [totE,sumM]
 | y :: l,s,h0,h1,h=>by
  have hy:=h y (by simp)
  rw [List.length_cons]at h1
  have hw:IntKind.i64.wrap (s+m y)=s+m y:=IntWalk.i64_in _ (by omega)
  unfold totE sumM
  rw [hw,tot_sum l (s+m y) (by omega) (by omega) fun z hz=>h z (by simp [hz])]
  omega
theorem dup_iff:∀(l seen:List Int),dupA seen l≠[] ↔ ∃x,seen.count x<2∧2≤seen.count x+l.count x
 | [],seen=>⟨fun h=>absurd rfl h,fun ⟨x,h1,h2⟩=>by simp at h2;omega⟩
 | y :: l,seen=>by
  have ih:=dup_iff l (y :: seen)
  unfold dupA
  by_cases h:seen.count y=1
  ·rw [if_pos h]
   refine ⟨fun _=>⟨y,by omega,by rw [List.count_cons_self];omega⟩,fun _=>by simp⟩
  ·rw [if_neg h,ih]
   constructor
   ·rintro ⟨x,h1,h2⟩
    by_cases hx:x=y
    ·subst hx
     rw [List.count_cons_self]at h1 h2
     exact ⟨x,by omega,by rw [List.count_cons_self];omega⟩
    ·have hne:(y == x)=false:=by simpa using fun e=>hx e.symm
     rw [List.count_cons,hne]at h1 h2
     exact ⟨x,by simpa using h1,by rw [List.count_cons,hne];simpa using h2⟩
   ·rintro ⟨x,h1,h2⟩
    by_cases hx:x=y
    ·subst hx
     rw [List.count_cons_self]at h2
     refine ⟨x,?_,?_⟩
     ·rw [List.count_cons_self];omega
     ·rw [List.count_cons_self];omega
    ·have hne:(y == x)=false:=by simpa using fun e=>hx e.symm
     rw [List.count_cons,hne]at h2
     exact ⟨x,by rw [List.count_cons,hne];simpa using h1,by rw [List.count_cons,hne];simpa using h2⟩
theorem rep_iff (items:List PI):(!(repE items).isEmpty)=true ↔ ∃x,2≤(famL items).count x:=by
 have h1:(!(repE items).isEmpty)=true ↔ dupA [] (famL items)≠[]:=by
  unfold repE
  rw [Bool.not_eq_true',List.isEmpty_eq_false_iff]
  constructor
  ·intro h e
   rw [e]at h
   exact h (by simp)
  ·intro h e
   have:=congrArg List.length e
   rw [List.length_mergeSort]at this
   exact h (List.length_eq_zero_iff.1 (by simpa using this))
 rw [h1,dup_iff]
 simp
end Go.Proofs.YtmegoiaijfeilaaGreatDoor
set_option linter.unusedSimpArgs false
set_option linter.unusedVariables false
namespace Go.Proofs.YtmegoiaijfeilaaGreatDoor
open Go.RowKit Lim
theorem rules_chk:∀{rs:List RuleV},rulesE rs=0→∀r∈rs,demOk r=true∧chkE r=0
 | [],_,r,hr=>absurd hr List.not_mem_nil
 | x :: rs,h,r,hr=>by
  unfold rulesE at h
  by_cases h1:ruleE x≠0
  ·rw [if_pos h1]at h;exact absurd h h1
  rw [if_neg h1]at h
  rcases List.mem_cons.1 hr with rfl|hr
  ·cases hd:demOk r with
   | true=>rw [chk_ok hd]at h1;exact ⟨rfl,by simpa using h1⟩
   | false=>rw [chk_no hd]at h1;exact absurd (by decide:(1:Int)≠0) h1
  ·exact rules_chk h r hr
end Go.Proofs.YtmegoiaijfeilaaGreatDoor
set_option linter.unusedSimpArgs false
set_option linter.unusedVariables false
namespace Go.Proofs.YtmegoiaijfeilaaGreatDoor
open Go.RowKit Lim
theorem ite_no {c:Bool} {e:Int} {x:Int} (h:(bif c then e else x)=0) (he:e≠0):c=false∧x=0:=by
 cases c with
 | true=>exact absurd h he
 | false=>exact ⟨rfl,h⟩
theorem it_ok {y:PI} {k:Int} (h:itE y k=0):(0≤y.2.2.2.2.1∧y.2.2.2.2.1≤2000)∧(0≤y.2.2.2.2.2.1∧y.2.2.2.2.2.1≤2000)∧(0≤y.2.2.2.2.2.2.1∧y.2.2.2.2.2.2.1≤2000):=by
 unfold itE at h
 obtain ⟨_,h⟩:=ite_no h (by decide)
 obtain ⟨_,h⟩:=ite_no h (by decide)
 obtain ⟨_,h⟩:=ite_no h (by decide)
 obtain ⟨_,h⟩:=ite_no h (by decide)
 obtain ⟨_,h⟩:=ite_no h (by decide)
 obtain ⟨c1,h⟩:=ite_no h (by decide)
 obtain ⟨c2,h⟩:=ite_no h (by decide)
 obtain ⟨c3,h⟩:=ite_no h (by decide)
 obtain ⟨c4,h⟩:=ite_no h (by decide)
 obtain ⟨c5,h⟩:=ite_no h (by decide)
 obtain ⟨c6,h⟩:=ite_no h (by decide)
 simp only [decide_eq_false_iff_not]at c1 c2 c3 c4 c5 c6
 omega
theorem its_ok {k:Int}:∀{pool:List PI},itsE k pool=0→∀y∈pool,itE y k=0
 | [],_,y,hy=>absurd hy List.not_mem_nil
 | x :: xs,h,y,hy=>by
  unfold itsE at h
  by_cases h1:itE x k≠0
  ·rw [if_pos h1]at h;exact absurd h h1
  ·rw [if_neg h1]at h
   rcases List.mem_cons.1 hy with rfl|hy
   ·exact Classical.not_not.1 h1
   ·exact its_ok h y hy
theorem pool_ok {pool:List PI} {k:Int} (h:poolE pool k=0):idsE pool 0=true∧∀y∈pool,itE y k=0:=by
 unfold poolE at h
 split at h
 ·exact absurd h (by decide)
 ·split at h
  ·exact absurd h (by decide)
  ·rename_i h2
   exact ⟨by simpa using h2,its_ok h⟩
theorem one_rng (b:Bool):0≤oneI b∧oneI b≤2000:=by cases b <;> decide
theorem msr_rng {y:PI} {k:Int} (h:itE y k=0) (r:RuleV):0≤msr r y∧msr r y≤2000:=by
 obtain ⟨h1,h2,h3⟩:=it_ok h
 unfold msr
 split
 ·exact one_rng _
 split
 ·exact h1
 split
 ·exact h2
 split
 ·exact h3
 ·exact one_rng _
theorem set_rng (n:Int) (y:PI):0≤setM n y∧setM n y≤2000:=one_rng _
section
variable {pool:List PI} {k:Int} {p q:PI→Bool}
theorem tot_filter (h18:pool.length≤18) {m:PI→Int} (hm:∀y∈pool,0≤m y∧m y≤2000) (p:PI→Bool):totE m (pool.filter p) 0=sumM m (pool.filter p):=by
 have hl:=List.length_filter_le p pool
 rw [tot_sum _ 0 (Int.le_refl _) (by omega) fun y hy=>hm y (List.mem_filter.1 hy).1]
 omega
end
theorem idxs_len:∀(l:List Bool) (i:Nat),(idxs l i).length≤l.length
 | [],_=>by simp [idxs]
 | b :: l,i=>by
  have:=idxs_len l (i+1)
  unfold idxs
  split <;> simp <;> omega
theorem judge_len (w c:Bool) (fs:List Bool):(judgeE w c fs).length≤fs.length+2:=by
 have:=idxs_len fs 0
 unfold judgeE
 cases w <;> cases c <;> simp <;> omega
theorem exd_len {n:Int} {rs:List RuleV} {pool:List PI} {l:List (Int × Int)} {ch:List Int}:(exdE n rs pool l ch).1.length≤rs.length+2:=by
 unfold exdE
 split
 ·simp
 ·split
  ·simp
  ·have:=judge_len (decide (n<(((selE pool ch).1.length:Nat):Int))) (!(conflE l ch).isEmpty) (rs.map fun r=>excE r (selE pool ch).1)
   simpa using this
theorem bro_len {n:Int} {rs:List RuleV} {pool:List PI} {l:List (Int × Int)} {ch:List Int}:(broE n rs pool l ch).1.length≤rs.length+2:=by
 unfold broE
 split
 ·simp
 ·split
  ·simp
  ·have:=judge_len ((((selE pool ch).1.length:Nat):Int) != n) (!(conflE l ch).isEmpty) (rs.map fun r=>brkE r (selE pool ch).1)
   simpa using this
end Go.Proofs.YtmegoiaijfeilaaGreatDoor
set_option linter.unusedSimpArgs false
set_option linter.unusedVariables false
namespace Go.Proofs.YtmegoiaijfeilaaGreatDoor
open Go.RowKit Lim
theorem task_in {n:Int} {rs:List RuleV} {pool:List PI} {l:List (Int × Int)} (h:taskE n rs pool l=0):specE n rs=0∧poolE pool (rowsN pool)=0:=by
 unfold taskE at h
 by_cases h1:specE n rs≠0
 ·rw [if_pos h1]at h;exact absurd h h1
 rw [if_neg h1]at h
 by_cases h2:poolE pool (rowsN pool)≠0
 ·rw [if_pos h2]at h;exact absurd h h2
 exact ⟨Classical.not_not.1 h1,Classical.not_not.1 h2⟩
theorem spec_dem {n:Int} {rs:List RuleV} (h:specE n rs=0):∀r∈rs,demOk r=true∧chkE r=0:=by
 unfold specE at h
 split at h
 ·exact absurd h (by decide)
 ·split at h
  ·exact absurd h (by decide)
  ·exact rules_chk h
theorem sel_filter {pool:List PI} {ch:List Int} (hid:idsE pool 0=true) (h:(selE pool ch).2=0):(selE pool ch).1=pool.filter (fun y=>decide (y.1∈ch))∧∀c∈ch,∃y∈pool,y.1=c:=by
 unfold selE at h ⊢
 cases hr:risesB ch with
 | false=>rw [hr,if_neg (by simp)]at h;exact absurd (show (23:Int)=0 from h) (by decide)
 | true =>
  rw [hr,if_pos rfl]at h
  rw [if_pos rfl]
  obtain ⟨e1,e2⟩:=pick_filter pool 0 ch [] (pickE pool ch []).1 hid hr (by rw [←h])
  exact ⟨by rw [e1,List.nil_append],e2⟩
end Go.Proofs.YtmegoiaijfeilaaGreatDoor
set_option linter.unusedSimpArgs false
set_option linter.unusedVariables false
namespace Go.Proofs.YtmegoiaijfeilaaGreatDoor
open Go.RowKit Lim
def r13:List UInt8→Nat→Nat→Bool
 | [],sg,sz=>decide (0<sz) && decide (sg≤5)
 | c :: r,sg,sz=>if c.toNat=46 then (if sz=0 then false else r13 r (sg+1) 0) else if okByte c=false then false else if 8<sz+1 then false else r13 r sg (sz+1)
def r13V (s:List UInt8):Bool:=!(decide ((24:Int)<(s.length:Nat))) && r13 s 1 0
set_option maxHeartbeats 1000000 in
theorem r13_c (s:List UInt8):AT 100 [str s] (boo (r13V s)):=by
 unfold r13V
 cases c1:decide ((24:Int)<(s.length:Nat))with
 | true =>
  refine ACalls.of ⟨7,[],[]⟩ (fn:=Tryz.f100) Tryz.func100 rfl rfl rfl (by kernel_rfl) (by kernel_rfl) (Nat.le_of_ble_eq_true rfl) ?_
  simp (maxSteps:=1000000) -implicitDefEqProofs only [bs_size,c1,go_sem,awp_seq,Nat.reduceBEq,Nat.reduceLeDiff,Nat.reduceLT]
 | false =>
  have hs:s.length≤24:=by simp at c1;omega
  obtain ⟨R,hR⟩:∃R,R=r13 s 1 0:=⟨_,rfl⟩
  rw [←hR]
  refine ACalls.of ⟨7,[],[]⟩ (fn:=Tryz.f100) Tryz.func100 rfl rfl rfl (by kernel_rfl) (by kernel_rfl) (Nat.le_of_ble_eq_true rfl) ?_
  simp (maxSteps:=1000000) -implicitDefEqProofs only [bs_size,c1,go_sem,awp_seq,Nat.reduceBEq,Nat.reduceLeDiff,Nat.reduceLT]
  refine loop_mk (α:={x:Nat × Nat × Nat // x.1≤s.length∧x.2.1≤x.1+1∧x.2.2≤x.1∧R=r13 (s.drop x.1) x.2.1 x.2.2}) (fun x=>[(0,some (.av (str s))),(2,some (.av (boo false))),(3,some (.av (i64 (x.1.2.1:Nat)))),(4,some (.av (i64 (x.1.2.2:Nat)))),(5,some (.av (i64 (x.1.1:Nat))))]) (fun _=>[]) (fun _=>[]) (fun x=>s.length-x.1.1) ⟨(0,1,0),Nat.zero_le _,by simp,by simp,hR⟩ ?_ ?_
  ·simp (maxSteps:=1000000) -implicitDefEqProofs only [go_sem,awp_seq,Nat.reduceBEq,Int.cast_ofNat_Int]
  ·clear hR
   rintro ⟨⟨k,sg,sz⟩,hk,h1,h2,hR⟩
   dsimp only at hk h1 h2 hR
   by_cases hlt:k<s.length
   ·have g1:decide (((k:Nat):Int)<(s.length:Nat))=true:=by simp;omega
    have e1:s[k]? = some s[k]:=List.getElem?_eq_getElem hlt
    have w1:IntKind.i64.wrap ((k:Int)+1)=((k+1:Nat):Int):=by rw [IntWalk.i64_in _ (by omega)];omega
    have w2:IntKind.i64.wrap ((sg:Int)+1)=((sg+1:Nat):Int):=by rw [IntWalk.i64_in _ (by omega)];omega
    have w3:IntKind.i64.wrap ((sz:Int)+1)=((sz+1:Nat):Int):=by rw [IntWalk.i64_in _ (by omega)];omega
    rw [List.drop_eq_getElem_cons hlt]at hR
    generalize s[k]=c at *
    unfold r13 at hR
    by_cases h46:c.toNat=46
    ·have g2:((c.toNat:Int) == 46)=true:=by simp;omega
     rw [if_pos h46]at hR
     by_cases h0:sz=0
     ·have g3:(((sz:Nat):Int) == 0)=true:=by simp;omega
      rw [if_pos h0]at hR
      subst hR
      simp (maxSteps:=1000000) -implicitDefEqProofs only [bs_size,strK_bs,g1,g2,g3,e1,Int.toNat_natCast,Int.natCast_nonneg,go_sem,awp_seq,Nat.reduceBEq,Nat.reduceLeDiff,Nat.reduceLT]
     ·have g3:(((sz:Nat):Int) == 0)=false:=by simp;omega
      rw [if_neg h0]at hR
      simp (maxSteps:=1000000) -implicitDefEqProofs only [bs_size,strK_bs,g1,g2,g3,e1,w1,w2,Int.toNat_natCast,Int.natCast_nonneg,go_sem,awp_seq,Nat.reduceBEq,Nat.reduceLeDiff,Nat.reduceLT]
      refine roundK_mk ⟨(k+1,sg+1,0),by show k+1≤_;omega,by show sg+1≤k+1+1;omega,by show 0≤k+1;omega,hR⟩ ?_ (by show s.length-(k+1)<s.length-k;omega)
      simp (maxSteps:=1000000) -implicitDefEqProofs only [go_sem,awp_seq,Nat.reduceBEq,Int.cast_ofNat_Int]
    ·have g2:((c.toNat:Int) == 46)=false:=by simp;omega
     rw [if_neg h46]at hR
     have fin:okByte c=true→R=(if 8<sz+1 then false else r13 (s.drop (k+1)) sg (sz+1)):=fun h=>by rw [if_neg (by simp [h])]at hR;exact hR
     have bad:okByte c=false→R=false:=fun h=>by rw [if_pos h]at hR;exact hR
     clear hR
     cases b1:decide ((c.toNat:Int)<65)with
     | true =>
      cases b3:decide ((c.toNat:Int)<48)with
      | true =>
       have:=bad (by simp [okByte,b1,b3])
       subst this
       simp (maxSteps:=1000000) -implicitDefEqProofs only [bs_size,strK_bs,g1,g2,e1,b1,b3,Int.toNat_natCast,Int.natCast_nonneg,go_sem,awp_seq,Nat.reduceBEq,Nat.reduceLeDiff,Nat.reduceLT]
      | false =>
       cases b4:decide ((57:Int)<c.toNat)with
       | true =>
        have:=bad (by simp [okByte,b1,b4])
        subst this
        simp (maxSteps:=1000000) -implicitDefEqProofs only [bs_size,strK_bs,g1,g2,e1,b1,b3,b4,Int.toNat_natCast,Int.natCast_nonneg,go_sem,awp_seq,Nat.reduceBEq,Nat.reduceLeDiff,Nat.reduceLT]
       | false =>
        have hR:=fin (by simp [okByte,b1,b3,b4])
        by_cases h8:8<sz+1
        ·have g8:decide ((8:Int)<((sz+1:Nat):Int))=true:=by simp;omega
         rw [if_pos h8]at hR
         subst hR
         simp (maxSteps:=1000000) -implicitDefEqProofs only [bs_size,strK_bs,g1,g2,e1,b1,b3,b4,w3,g8,Int.toNat_natCast,Int.natCast_nonneg,go_sem,awp_seq,Nat.reduceBEq,Nat.reduceLeDiff,Nat.reduceLT]
        ·have g8:decide ((8:Int)<((sz+1:Nat):Int))=false:=by simp;omega
         rw [if_neg h8]at hR
         simp (maxSteps:=1000000) -implicitDefEqProofs only [bs_size,strK_bs,g1,g2,e1,b1,b3,b4,w1,w3,g8,Int.toNat_natCast,Int.natCast_nonneg,go_sem,awp_seq,Nat.reduceBEq,Nat.reduceLeDiff,Nat.reduceLT]
         refine roundK_mk ⟨(k+1,sg,sz+1),by show k+1≤_;omega,by show sg≤k+1+1;omega,by show sz+1≤k+1;omega,hR⟩ ?_ (by show s.length-(k+1)<s.length-k;omega)
         simp (maxSteps:=1000000) -implicitDefEqProofs only [go_sem,awp_seq,Nat.reduceBEq]
     | false =>
      cases b2:decide ((90:Int)<c.toNat)with
      | true =>
       cases b3:decide ((c.toNat:Int)<48)with
       | true =>
        have:=bad (by simp [okByte,b2,b3])
        subst this
        simp (maxSteps:=1000000) -implicitDefEqProofs only [bs_size,strK_bs,g1,g2,e1,b1,b2,b3,Int.toNat_natCast,Int.natCast_nonneg,go_sem,awp_seq,Nat.reduceBEq,Nat.reduceLeDiff,Nat.reduceLT]
       | false =>
        cases b4:decide ((57:Int)<c.toNat)with
        | true =>
         have:=bad (by simp [okByte,b2,b4])
         subst this
         simp (maxSteps:=1000000) -implicitDefEqProofs only [bs_size,strK_bs,g1,g2,e1,b1,b2,b3,b4,Int.toNat_natCast,Int.natCast_nonneg,go_sem,awp_seq,Nat.reduceBEq,Nat.reduceLeDiff,Nat.reduceLT]
        | false =>
         have hR:=fin (by simp [okByte,b1,b2,b3,b4])
         by_cases h8:8<sz+1
         ·have g8:decide ((8:Int)<((sz+1:Nat):Int))=true:=by simp;omega
          rw [if_pos h8]at hR
          subst hR
          simp (maxSteps:=1000000) -implicitDefEqProofs only [bs_size,strK_bs,g1,g2,e1,b1,b2,b3,b4,w3,g8,Int.toNat_natCast,Int.natCast_nonneg,go_sem,awp_seq,Nat.reduceBEq,Nat.reduceLeDiff,Nat.reduceLT]
         ·have g8:decide ((8:Int)<((sz+1:Nat):Int))=false:=by simp;omega
          rw [if_neg h8]at hR
          simp (maxSteps:=1000000) -implicitDefEqProofs only [bs_size,strK_bs,g1,g2,e1,b1,b2,b3,b4,w1,w3,g8,Int.toNat_natCast,Int.natCast_nonneg,go_sem,awp_seq,Nat.reduceBEq,Nat.reduceLeDiff,Nat.reduceLT]
          refine roundK_mk ⟨(k+1,sg,sz+1),by show k+1≤_;omega,by show sg≤k+1+1;omega,by show sz+1≤k+1;omega,hR⟩ ?_ (by show s.length-(k+1)<s.length-k;omega)
          simp (maxSteps:=1000000) -implicitDefEqProofs only [go_sem,awp_seq,Nat.reduceBEq]
      | false =>
       have hR:=fin (by simp [okByte,b1,b2])
       by_cases h8:8<sz+1
       ·have g8:decide ((8:Int)<((sz+1:Nat):Int))=true:=by simp;omega
        rw [if_pos h8]at hR
        subst hR
        simp (maxSteps:=1000000) -implicitDefEqProofs only [bs_size,strK_bs,g1,g2,e1,b1,b2,w3,g8,Int.toNat_natCast,Int.natCast_nonneg,go_sem,awp_seq,Nat.reduceBEq,Nat.reduceLeDiff,Nat.reduceLT]
       ·have g8:decide ((8:Int)<((sz+1:Nat):Int))=false:=by simp;omega
        rw [if_neg h8]at hR
        simp (maxSteps:=1000000) -implicitDefEqProofs only [bs_size,strK_bs,g1,g2,e1,b1,b2,w1,w3,g8,Int.toNat_natCast,Int.natCast_nonneg,go_sem,awp_seq,Nat.reduceBEq,Nat.reduceLeDiff,Nat.reduceLT]
        refine roundK_mk ⟨(k+1,sg,sz+1),by show k+1≤_;omega,by show sg≤k+1+1;omega,by show sz+1≤k+1;omega,hR⟩ ?_ (by show s.length-(k+1)<s.length-k;omega)
        simp (maxSteps:=1000000) -implicitDefEqProofs only [go_sem,awp_seq,Nat.reduceBEq]
   ·have g1:decide (((k:Nat):Int)<(s.length:Nat))=false:=by simp;omega
    rw [List.drop_of_length_le (by omega)]at hR
    unfold r13 at hR
    subst hR
    have q1:decide ((0:Int)<((sz:Nat):Int))=decide (0<sz):=by simp
    have q2:decide (((sg:Nat):Int)≤5)=decide (sg≤5):=by simp;omega
    rcases Bool.eq_false_or_eq_true (decide (0<sz))with c3|c3
    ·simp (maxSteps:=1000000) -implicitDefEqProofs only [bs_size,g1,q1,q2,c3,go_sem,awp_seq,Nat.reduceBEq,Nat.reduceLeDiff,Nat.reduceLT]
    ·simp (maxSteps:=1000000) -implicitDefEqProofs only [bs_size,g1,q1,q2,c3,go_sem,awp_seq,Nat.reduceBEq,Nat.reduceLeDiff,Nat.reduceLT]
theorem index_miss {s:List UInt8} (h:(46:UInt8) ∉ s):Lib.index s [46] = -1:=by
 induction s with
 | nil=>rfl
 | cons c s ih =>
  simp only [List.mem_cons,not_or]at h
  unfold Lib.index
  have:([46]:List UInt8).isPrefixOf (c :: s)=false:=by
   simp [List.isPrefixOf]
   exact h.1
  rw [this,ih h.2]
  rfl
theorem index_at {a b:List UInt8} (h:(46:UInt8) ∉ a):Lib.index (a ++ 46 :: b) [46]=(a.length:Int):=by
 induction a with
 | nil =>
  rw [List.nil_append]
  unfold Lib.index
  simp [List.isPrefixOf]
 | cons c a ih =>
  simp only [List.mem_cons,not_or]at h
  rw [List.cons_append]
  unfold Lib.index
  have:([46]:List UInt8).isPrefixOf (c :: (a ++ 46 :: b))=false:=by
   simp [List.isPrefixOf]
   exact h.1
  rw [this,ih h.2]
  have h2:((a.length:Int) == -1)=false:=by rw [beq_eq_false_iff_ne];omega
  simp [h2]
theorem cut_miss {s:List UInt8} (h:(46:UInt8) ∉ s):Lib.cut s [46]=(s,[],false):=by
 unfold Lib.cut
 rw [index_miss h]
 rfl
theorem cut_at {a b:List UInt8} (h:(46:UInt8) ∉ a):Lib.cut (a ++ 46 :: b) [46]=(a,b,true):=by
 unfold Lib.cut
 rw [index_at h,if_pos (by omega)]
 simp
theorem cut_cases (s:List UInt8):((46:UInt8) ∉ s)∨∃a b,s=a ++ 46 :: b∧(46:UInt8) ∉ a:=by
 induction s with
 | nil=>left;simp
 | cons c s ih =>
  by_cases hc:c=46
  ·exact .inr ⟨[],s,by rw [hc];rfl,by simp⟩
  ·rcases ih with h|⟨a,b,rfl,h⟩
   ·left;simp [h];exact fun hq=>hc hq.symm
   ·exact .inr ⟨c :: a,b,rfl,by simp [h];exact fun hq=>hc hq.symm⟩
theorem cut_point (s:List UInt8):Lib.cut (46 :: s) [46]=([],s,true):=cut_at (a:=[]) (by simp)
theorem cut_cons {c:UInt8} (h:c≠46) (s:List UInt8):Lib.cut (c :: s) [46]=(c :: (Lib.cut s [46]).1,(Lib.cut s [46]).2.1,(Lib.cut s [46]).2.2):=by
 rcases cut_cases s with hs|⟨a,b,rfl,hs⟩
 ·rw [cut_miss hs,cut_miss (by simp [hs];exact fun hq=>h hq.symm)]
 ·rw [cut_at hs,←List.cons_append,cut_at (by simp [hs];exact fun hq=>h hq.symm)]
theorem r13_many:∀(s:List UInt8) (sg sz:Nat),5<sg→r13 s sg sz=false
 | [],sg,sz,h=>by simp [r13];omega
 | c :: s,sg,sz,h=>by
  unfold r13
  rw [r13_many s (sg+1) 0 (by omega),r13_many s sg (sz+1) h]
  simp
def segH (sz:Nat) (h:List UInt8):Bool:=h.all okByte && (decide (1≤sz+h.length) && decide (sz+h.length≤8))
theorem segH_zero (h:List UInt8):segH 0 h=segB h:=by
 unfold segH segB
 congr 2
 ·apply decide_eq_decide.2;omega
 ·apply decide_eq_decide.2;omega
theorem segH_cons (sz:Nat) (c:UInt8) (h:List UInt8):segH sz (c :: h)=(okByte c && segH (sz+1) h):=by
 unfold segH
 have e1:decide (1≤sz+(c :: h).length)=decide (1≤sz+1+h.length):=decide_eq_decide.2 (by simp only [List.length_cons];omega)
 have e2:decide (sz+(c :: h).length≤8)=decide (sz+1+h.length≤8):=decide_eq_decide.2 (by simp only [List.length_cons];omega)
 rw [e1,e2,List.all_cons,Bool.and_assoc]
theorem point_bad {c:UInt8} (h:c.toNat=46):c=46:=UInt8.toNat_inj.1 h
def segsB (r:List (List UInt8) × Bool) (sz:Nat):Bool:=r.2 && (match r.1 with|[]=>false|h :: t=>segH sz h && t.all segB)
theorem r13_segs:∀(s:List UInt8) (n sg sz:Nat),sg+n=5→sz≤8→r13 s sg sz=segsB (segL (n+1) s) sz
 | [],n,sg,sz,h1,h2=>by
  have e:Lib.cut [] [46]=(([]:List UInt8),[],false):=cut_miss (by simp)
  unfold segL
  rw [e]
  have q1:decide (sg≤5)=true:=by simp;omega
  have q2:decide (sz≤8)=true:=by simp [h2]
  have q3:decide (0<sz)=decide (1≤sz):=decide_eq_decide.2 (by omega)
  simp only [r13,segsB,segH,q1,q2,q3,Bool.false_eq_true,if_false,List.all_nil,List.length_nil,Nat.add_zero,Bool.and_true,Bool.true_and]
 | c :: s,n,sg,sz,h1,h2=>by
  unfold r13
  by_cases hc:c.toNat=46
  ·rw [if_pos hc,point_bad hc]
   unfold segL
   rw [cut_point]
   simp only [if_true,segsB,segH]
   by_cases h0:sz=0
   ·rw [if_pos h0]
    simp [h0]
   ·rw [if_neg h0]
    cases n with
    | zero=>rw [r13_many s (sg+1) 0 (by omega)];simp [segL]
    | succ m =>
     rw [r13_segs s m (sg+1) 0 (by omega) (by omega)]
     unfold segsB
     have hne:(segL (m+1) s).1≠[]:=by unfold segL;split <;> simp
     cases hs:(segL (m+1) s).1 with
     | nil=>exact absurd hs hne
     | cons a t =>
      simp only [segH_zero,List.all_cons,List.all_nil,List.length_nil,Nat.add_zero,Bool.true_and]
      have:decide (1≤sz)=true:=by simp;omega
      have h8:decide (sz≤8)=true:=by simp [h2]
      rw [this,h8]
      simp
  ·rw [if_neg hc]
   have hc':c≠46:=fun h=>hc (by rw [h];rfl)
   have e:segsB (segL (n+1) (c :: s)) sz=(segsB (segL (n+1) s) (sz+1) && okByte c):=by
    unfold segL
    rw [cut_cons hc']
    cases (Lib.cut s [46]).2.2 with
    | true =>
     simp only [if_true,segsB,segH_cons]
     cases okByte c <;> simp
    | false =>
     simp only [Bool.false_eq_true,if_false,segsB,segH_cons]
     cases okByte c <;> simp
   rw [e]
   cases ho:okByte c with
   | false=>simp
   | true =>
    rw [if_neg (by simp),Bool.and_true]
    by_cases h8:8<sz+1
    ·rw [if_pos h8]
     unfold segsB segH
     symm
     cases (segL (n+1) s).1 with
     | nil=>simp
     | cons a t =>
      have:decide (sz+1+a.length≤8)=false:=by simp;omega
      simp [this]
    ·rw [if_neg h8]
     exact r13_segs s n sg (sz+1) h1 (by omega)
theorem content_r13 (s:List UInt8):contentB s=r13V s:=by
 unfold contentB r13V
 rw [r13_segs s 4 1 0 (by omega) (by omega)]
 unfold segsB
 have hne:(segL 5 s).1≠[]:=by unfold segL;split <;> simp
 cases hs:(segL 5 s).1 with
 | nil=>exact absurd hs hne
 | cons a t=>simp only [List.all_cons,segH_zero]
end Go.Proofs.YtmegoiaijfeilaaGreatDoor
set_option linter.unusedSimpArgs false
set_option linter.unusedVariables false
namespace Go.Proofs.YtmegoiaijfeilaaGreatDoor
open Go.RowKit Lim
def withinB (n lo hi:Int):Bool:=decide (lo≤n) && decide (n≤hi)
theorem within33_c (n lo hi:Int):AT 23 [i64 n,i64 lo,i64 hi] (boo (withinB n lo hi)):=by
 unfold withinB
 cases c1:decide (lo≤n)with
 | true =>
  refine ACalls.of ⟨7,[],[]⟩ (fn:=Tryz.f23) Tryz.func23 rfl rfl rfl (by kernel_rfl) (by kernel_rfl) (Nat.le_of_ble_eq_true rfl) ?_
  simp (maxSteps:=1000000) -implicitDefEqProofs only [c1,go_sem,awp_seq,Nat.reduceBEq,Nat.reduceAdd,Nat.reduceLT]
 | false =>
  refine ACalls.of ⟨7,[],[]⟩ (fn:=Tryz.f23) Tryz.func23 rfl rfl rfl (by kernel_rfl) (by kernel_rfl) (Nat.le_of_ble_eq_true rfl) ?_
  simp (maxSteps:=1000000) -implicitDefEqProofs only [c1,go_sem,awp_seq,Nat.reduceBEq,Nat.reduceAdd,Nat.reduceLT]
theorem uses1:AT 99 [i64 1] (.tup [boo true,boo false,boo true,boo true]):=by
 refine ACalls.of ⟨18,[],[]⟩ (fn:=Tryz.f99) Tryz.func99 rfl rfl rfl (by kernel_rfl) (by kernel_rfl) (Nat.le_of_ble_eq_true rfl) ?_
 simp (maxSteps:=1000000) -implicitDefEqProofs only [go_sem,awp_seq,Nat.reduceBEq,Nat.reduceLT,Int.reduceBEq]
theorem uses2:AT 99 [i64 2] (.tup [boo false,boo false,boo false,boo true]):=by
 refine ACalls.of ⟨18,[],[]⟩ (fn:=Tryz.f99) Tryz.func99 rfl rfl rfl (by kernel_rfl) (by kernel_rfl) (Nat.le_of_ble_eq_true rfl) ?_
 simp (maxSteps:=1000000) -implicitDefEqProofs only [go_sem,awp_seq,Nat.reduceBEq,Nat.reduceLT,Int.reduceBEq]
theorem uses3:AT 99 [i64 3] (.tup [boo false,boo false,boo false,boo true]):=by
 refine ACalls.of ⟨18,[],[]⟩ (fn:=Tryz.f99) Tryz.func99 rfl rfl rfl (by kernel_rfl) (by kernel_rfl) (Nat.le_of_ble_eq_true rfl) ?_
 simp (maxSteps:=1000000) -implicitDefEqProofs only [go_sem,awp_seq,Nat.reduceBEq,Nat.reduceLT,Int.reduceBEq]
theorem uses4:AT 99 [i64 4] (.tup [boo false,boo false,boo true,boo true]):=by
 refine ACalls.of ⟨18,[],[]⟩ (fn:=Tryz.f99) Tryz.func99 rfl rfl rfl (by kernel_rfl) (by kernel_rfl) (Nat.le_of_ble_eq_true rfl) ?_
 simp (maxSteps:=1000000) -implicitDefEqProofs only [go_sem,awp_seq,Nat.reduceBEq,Nat.reduceLT,Int.reduceBEq]
theorem uses5:AT 99 [i64 5] (.tup [boo false,boo true,boo true,boo true]):=by
 refine ACalls.of ⟨18,[],[]⟩ (fn:=Tryz.f99) Tryz.func99 rfl rfl rfl (by kernel_rfl) (by kernel_rfl) (Nat.le_of_ble_eq_true rfl) ?_
 simp (maxSteps:=1000000) -implicitDefEqProofs only [go_sem,awp_seq,Nat.reduceBEq,Nat.reduceLT,Int.reduceBEq]
theorem uses6:AT 99 [i64 6] (.tup [boo false,boo true,boo true,boo true]):=by
 refine ACalls.of ⟨18,[],[]⟩ (fn:=Tryz.f99) Tryz.func99 rfl rfl rfl (by kernel_rfl) (by kernel_rfl) (Nat.le_of_ble_eq_true rfl) ?_
 simp (maxSteps:=1000000) -implicitDefEqProofs only [go_sem,awp_seq,Nat.reduceBEq,Nat.reduceLT,Int.reduceBEq]
theorem uses7:AT 99 [i64 7] (.tup [boo false,boo true,boo false,boo false]):=by
 refine ACalls.of ⟨18,[],[]⟩ (fn:=Tryz.f99) Tryz.func99 rfl rfl rfl (by kernel_rfl) (by kernel_rfl) (Nat.le_of_ble_eq_true rfl) ?_
 simp (maxSteps:=1000000) -implicitDefEqProofs only [go_sem,awp_seq,Nat.reduceBEq,Nat.reduceLT,Int.reduceBEq]
theorem uses8:AT 99 [i64 8] (.tup [boo false,boo true,boo false,boo false]):=by
 refine ACalls.of ⟨18,[],[]⟩ (fn:=Tryz.f99) Tryz.func99 rfl rfl rfl (by kernel_rfl) (by kernel_rfl) (Nat.le_of_ble_eq_true rfl) ?_
 simp (maxSteps:=1000000) -implicitDefEqProofs only [go_sem,awp_seq,Nat.reduceBEq,Nat.reduceLeDiff,Nat.reduceLT,Int.reduceBEq]
theorem uses9:AT 99 [i64 9] (.tup [boo false,boo false,boo false,boo false]):=by
 refine ACalls.of ⟨18,[],[]⟩ (fn:=Tryz.f99) Tryz.func99 rfl rfl rfl (by kernel_rfl) (by kernel_rfl) (Nat.le_of_ble_eq_true rfl) ?_
 simp (maxSteps:=1000000) -implicitDefEqProofs only [go_sem,awp_seq,Nat.reduceBEq,Nat.reduceLeDiff,Nat.reduceLT,Int.reduceBEq]
def r33E1 (n lo hi:Int) (code:List UInt8):Int:=bif (n != 0) then 1 else bif !(r13V code) then 2 else bif !(withinB lo 0 9999999) then 3 else bif !(withinB hi 0 9999999) then 3 else bif decide (hi<lo) then 23 else 0
set_option maxRecDepth 10000 in
set_option maxHeartbeats 2000000 in
theorem rule1_c (n lo hi:Int) (code:List UInt8):AT 73 [ruleA ⟨1,n,lo,hi,code⟩] (i64 (r33E1 n lo hi code)):=by
 unfold r33E1
 have W0:=within33_c 1 1 9
 rw [show withinB 1 1 9=true from rfl]at W0
 have C1:=r13_c code
 have C2:=within33_c lo 0 9999999
 have C3:=within33_c hi 0 9999999
 generalize r13V code=q1 at *
 generalize withinB lo 0 9999999=q2 at *
 generalize withinB hi 0 9999999=q3 at *
 refine ACalls.of ⟨8,[],[]⟩ (fn:=Tryz.f73) Tryz.func73 rfl rfl rfl (by kernel_rfl) (by kernel_rfl) (Nat.le_of_ble_eq_true rfl) ?_
 simp (maxSteps:=1000000) -implicitDefEqProofs only [go_sem,awp_seq,Nat.reduceBEq,Nat.reduceLT]
 refine callA_tt W0 ?_
 simp (maxSteps:=1000000) -implicitDefEqProofs only [go_sem,awp_seq,Nat.reduceBEq,Nat.reduceLeDiff,Nat.reduceLT]
 refine callA_tt uses1 ?_
 simp (maxSteps:=1000000) -implicitDefEqProofs only [mk_bs,toList_bs,seq_nil,go_sem,awp_seq,Nat.reduceBEq,Nat.reduceLeDiff,Nat.reduceLT]
 cases c0:(n != 0)with
 | true=>simp (maxSteps:=1000000) -implicitDefEqProofs only [c0,go_sem,awp_seq,Nat.reduceBEq,Nat.reduceLeDiff,Nat.reduceLT]
 | false =>
 simp (maxSteps:=1000000) -implicitDefEqProofs only [c0,go_sem,awp_seq,Nat.reduceBEq,Nat.reduceLeDiff,Nat.reduceLT]
 refine callA_tt C1 ?_
 cases q1 with
 | false=>simp (maxSteps:=1000000) -implicitDefEqProofs only [go_sem,awp_seq,Nat.reduceBEq,Nat.reduceLeDiff,Nat.reduceLT]
 | true =>
 simp (maxSteps:=1000000) -implicitDefEqProofs only [go_sem,awp_seq,Nat.reduceBEq,Nat.reduceLeDiff,Nat.reduceLT]
 refine callA_tt C2 ?_
 cases q2 with
 | false=>simp (maxSteps:=1000000) -implicitDefEqProofs only [go_sem,awp_seq,Nat.reduceBEq,Nat.reduceLeDiff,Nat.reduceLT]
 | true =>
 simp (maxSteps:=1000000) -implicitDefEqProofs only [go_sem,awp_seq,Nat.reduceBEq]
 refine callA_tt C3 ?_
 cases q3 with
 | false=>simp (maxSteps:=1000000) -implicitDefEqProofs only [go_sem,awp_seq,Nat.reduceBEq,Nat.reduceLeDiff,Nat.reduceLT]
 | true =>
 simp (maxSteps:=1000000) -implicitDefEqProofs only [go_sem,awp_seq,Nat.reduceBEq,Nat.reduceLeDiff,Nat.reduceLT,Int.reduceBEq]
 cases c4:decide (hi<lo)with
 | true=>simp (maxSteps:=1000000) -implicitDefEqProofs only [c4,go_sem,awp_seq,Nat.reduceBEq,Nat.reduceLeDiff,Nat.reduceLT]
 | false=>simp (maxSteps:=1000000) -implicitDefEqProofs only [c4,go_sem,awp_seq,Nat.reduceBEq,Nat.reduceLeDiff,Nat.reduceLT]
def r33E2 (n lo hi:Int) (code:List UInt8):Int:=bif !(code.isEmpty) then 1 else bif (n != 0) then 1 else bif (lo != 0) then 1 else bif !(withinB lo 0 9999999) then 3 else bif !(withinB hi 0 9999999) then 3 else bif decide (hi<lo) then 23 else 0
set_option maxRecDepth 10000 in
set_option maxHeartbeats 2000000 in
theorem rule2_c (n lo hi:Int) (code:List UInt8):AT 73 [ruleA ⟨2,n,lo,hi,code⟩] (i64 (r33E2 n lo hi code)):=by
 unfold r33E2
 have W0:=within33_c 2 1 9
 rw [show withinB 2 1 9=true from rfl]at W0
 have C3:=within33_c lo 0 9999999
 have C4:=within33_c hi 0 9999999
 generalize withinB lo 0 9999999=q3 at *
 generalize withinB hi 0 9999999=q4 at *
 refine ACalls.of ⟨8,[],[]⟩ (fn:=Tryz.f73) Tryz.func73 rfl rfl rfl (by kernel_rfl) (by kernel_rfl) (Nat.le_of_ble_eq_true rfl) ?_
 simp (maxSteps:=1000000) -implicitDefEqProofs only [go_sem,awp_seq,Nat.reduceBEq,Nat.reduceLT]
 refine callA_tt W0 ?_
 simp (maxSteps:=1000000) -implicitDefEqProofs only [go_sem,awp_seq,Nat.reduceBEq,Nat.reduceLeDiff,Nat.reduceLT]
 refine callA_tt uses2 ?_
 simp (maxSteps:=1000000) -implicitDefEqProofs only [mk_bs,toList_bs,seq_nil,go_sem,awp_seq,Nat.reduceBEq,Nat.reduceLeDiff,Nat.reduceLT]
 cases c0:code.isEmpty with
 | false=>simp (maxSteps:=1000000) -implicitDefEqProofs only [c0,go_sem,awp_seq,Nat.reduceBEq,Nat.reduceLeDiff,Nat.reduceLT]
 | true =>
 simp (maxSteps:=1000000) -implicitDefEqProofs only [c0,go_sem,awp_seq,Nat.reduceBEq,Nat.reduceLeDiff,Nat.reduceLT]
 cases c1:(n != 0)with
 | true=>simp (maxSteps:=1000000) -implicitDefEqProofs only [c1,go_sem,awp_seq,Nat.reduceBEq,Nat.reduceLeDiff,Nat.reduceLT]
 | false =>
 simp (maxSteps:=1000000) -implicitDefEqProofs only [c1,go_sem,awp_seq,Nat.reduceBEq,Nat.reduceLeDiff,Nat.reduceLT]
 cases c2:(lo != 0)with
 | true=>simp (maxSteps:=1000000) -implicitDefEqProofs only [c2,go_sem,awp_seq,Nat.reduceBEq,Nat.reduceLeDiff,Nat.reduceLT]
 | false =>
 simp (maxSteps:=1000000) -implicitDefEqProofs only [c2,go_sem,awp_seq,Nat.reduceBEq,Nat.reduceLeDiff,Nat.reduceLT]
 refine callA_tt C3 ?_
 cases q3 with
 | false=>simp (maxSteps:=1000000) -implicitDefEqProofs only [go_sem,awp_seq,Nat.reduceBEq,Nat.reduceLeDiff,Nat.reduceLT]
 | true =>
 simp (maxSteps:=1000000) -implicitDefEqProofs only [go_sem,awp_seq,Nat.reduceBEq]
 refine callA_tt C4 ?_
 cases q4 with
 | false=>simp (maxSteps:=1000000) -implicitDefEqProofs only [go_sem,awp_seq,Nat.reduceBEq,Nat.reduceLeDiff,Nat.reduceLT]
 | true =>
 simp (maxSteps:=1000000) -implicitDefEqProofs only [go_sem,awp_seq,Nat.reduceBEq,Nat.reduceLeDiff,Nat.reduceLT,Int.reduceBEq]
 cases c5:decide (hi<lo)with
 | true=>simp (maxSteps:=1000000) -implicitDefEqProofs only [c5,go_sem,awp_seq,Nat.reduceBEq,Nat.reduceLeDiff,Nat.reduceLT]
 | false=>simp (maxSteps:=1000000) -implicitDefEqProofs only [c5,go_sem,awp_seq,Nat.reduceBEq,Nat.reduceLeDiff,Nat.reduceLT]
def r33E3 (n lo hi:Int) (code:List UInt8):Int:=bif !(code.isEmpty) then 1 else bif (n != 0) then 1 else bif (lo != 0) then 1 else bif !(withinB lo 0 9999999) then 3 else bif !(withinB hi 0 9999999) then 3 else bif decide (hi<lo) then 23 else 0
set_option maxRecDepth 10000 in
set_option maxHeartbeats 2000000 in
theorem rule3_c (n lo hi:Int) (code:List UInt8):AT 73 [ruleA ⟨3,n,lo,hi,code⟩] (i64 (r33E3 n lo hi code)):=by
 unfold r33E3
 have W0:=within33_c 3 1 9
 rw [show withinB 3 1 9=true from rfl]at W0
 have C3:=within33_c lo 0 9999999
 have C4:=within33_c hi 0 9999999
 generalize withinB lo 0 9999999=q3 at *
 generalize withinB hi 0 9999999=q4 at *
 refine ACalls.of ⟨8,[],[]⟩ (fn:=Tryz.f73) Tryz.func73 rfl rfl rfl (by kernel_rfl) (by kernel_rfl) (Nat.le_of_ble_eq_true rfl) ?_
 simp (maxSteps:=1000000) -implicitDefEqProofs only [go_sem,awp_seq,Nat.reduceBEq,Nat.reduceLT]
 refine callA_tt W0 ?_
 simp (maxSteps:=1000000) -implicitDefEqProofs only [go_sem,awp_seq,Nat.reduceBEq,Nat.reduceLeDiff,Nat.reduceLT]
 refine callA_tt uses3 ?_
 simp (maxSteps:=1000000) -implicitDefEqProofs only [mk_bs,toList_bs,seq_nil,go_sem,awp_seq,Nat.reduceBEq,Nat.reduceLeDiff,Nat.reduceLT]
 cases c0:code.isEmpty with
 | false=>simp (maxSteps:=1000000) -implicitDefEqProofs only [c0,go_sem,awp_seq,Nat.reduceBEq,Nat.reduceLeDiff,Nat.reduceLT]
 | true =>
 simp (maxSteps:=1000000) -implicitDefEqProofs only [c0,go_sem,awp_seq,Nat.reduceBEq,Nat.reduceLeDiff,Nat.reduceLT]
 cases c1:(n != 0)with
 | true=>simp (maxSteps:=1000000) -implicitDefEqProofs only [c1,go_sem,awp_seq,Nat.reduceBEq,Nat.reduceLeDiff,Nat.reduceLT]
 | false =>
 simp (maxSteps:=1000000) -implicitDefEqProofs only [c1,go_sem,awp_seq,Nat.reduceBEq,Nat.reduceLeDiff,Nat.reduceLT]
 cases c2:(lo != 0)with
 | true=>simp (maxSteps:=1000000) -implicitDefEqProofs only [c2,go_sem,awp_seq,Nat.reduceBEq,Nat.reduceLeDiff,Nat.reduceLT]
 | false =>
 simp (maxSteps:=1000000) -implicitDefEqProofs only [c2,go_sem,awp_seq,Nat.reduceBEq,Nat.reduceLeDiff,Nat.reduceLT]
 refine callA_tt C3 ?_
 cases q3 with
 | false=>simp (maxSteps:=1000000) -implicitDefEqProofs only [go_sem,awp_seq,Nat.reduceBEq,Nat.reduceLeDiff,Nat.reduceLT]
 | true =>
 simp (maxSteps:=1000000) -implicitDefEqProofs only [go_sem,awp_seq,Nat.reduceBEq]
 refine callA_tt C4 ?_
 cases q4 with
 | false=>simp (maxSteps:=1000000) -implicitDefEqProofs only [go_sem,awp_seq,Nat.reduceBEq,Nat.reduceLeDiff,Nat.reduceLT]
 | true =>
 simp (maxSteps:=1000000) -implicitDefEqProofs only [go_sem,awp_seq,Nat.reduceBEq,Nat.reduceLeDiff,Nat.reduceLT,Int.reduceBEq]
 cases c5:decide (hi<lo)with
 | true=>simp (maxSteps:=1000000) -implicitDefEqProofs only [c5,go_sem,awp_seq,Nat.reduceBEq,Nat.reduceLeDiff,Nat.reduceLT]
 | false=>simp (maxSteps:=1000000) -implicitDefEqProofs only [c5,go_sem,awp_seq,Nat.reduceBEq,Nat.reduceLeDiff,Nat.reduceLT]
def r33E4 (n lo hi:Int) (code:List UInt8):Int:=bif !(code.isEmpty) then 1 else bif (n != 0) then 1 else bif !(withinB lo 0 9999999) then 3 else bif !(withinB hi 0 9999999) then 3 else bif decide (hi<lo) then 23 else 0
set_option maxRecDepth 10000 in
set_option maxHeartbeats 2000000 in
theorem rule4_c (n lo hi:Int) (code:List UInt8):AT 73 [ruleA ⟨4,n,lo,hi,code⟩] (i64 (r33E4 n lo hi code)):=by
 unfold r33E4
 have W0:=within33_c 4 1 9
 rw [show withinB 4 1 9=true from rfl]at W0
 have C2:=within33_c lo 0 9999999
 have C3:=within33_c hi 0 9999999
 generalize withinB lo 0 9999999=q2 at *
 generalize withinB hi 0 9999999=q3 at *
 refine ACalls.of ⟨8,[],[]⟩ (fn:=Tryz.f73) Tryz.func73 rfl rfl rfl (by kernel_rfl) (by kernel_rfl) (Nat.le_of_ble_eq_true rfl) ?_
 simp (maxSteps:=1000000) -implicitDefEqProofs only [go_sem,awp_seq,Nat.reduceBEq,Nat.reduceLT]
 refine callA_tt W0 ?_
 simp (maxSteps:=1000000) -implicitDefEqProofs only [go_sem,awp_seq,Nat.reduceBEq,Nat.reduceLeDiff,Nat.reduceLT]
 refine callA_tt uses4 ?_
 simp (maxSteps:=1000000) -implicitDefEqProofs only [mk_bs,toList_bs,seq_nil,go_sem,awp_seq,Nat.reduceBEq,Nat.reduceLeDiff,Nat.reduceLT]
 cases c0:code.isEmpty with
 | false=>simp (maxSteps:=1000000) -implicitDefEqProofs only [c0,go_sem,awp_seq,Nat.reduceBEq,Nat.reduceLeDiff,Nat.reduceLT]
 | true =>
 simp (maxSteps:=1000000) -implicitDefEqProofs only [c0,go_sem,awp_seq,Nat.reduceBEq,Nat.reduceLeDiff,Nat.reduceLT]
 cases c1:(n != 0)with
 | true=>simp (maxSteps:=1000000) -implicitDefEqProofs only [c1,go_sem,awp_seq,Nat.reduceBEq,Nat.reduceLeDiff,Nat.reduceLT]
 | false =>
 simp (maxSteps:=1000000) -implicitDefEqProofs only [c1,go_sem,awp_seq,Nat.reduceBEq,Nat.reduceLeDiff,Nat.reduceLT]
 refine callA_tt C2 ?_
 cases q2 with
 | false=>simp (maxSteps:=1000000) -implicitDefEqProofs only [go_sem,awp_seq,Nat.reduceBEq,Nat.reduceLeDiff,Nat.reduceLT]
 | true =>
 simp (maxSteps:=1000000) -implicitDefEqProofs only [go_sem,awp_seq,Nat.reduceBEq]
 refine callA_tt C3 ?_
 cases q3 with
 | false=>simp (maxSteps:=1000000) -implicitDefEqProofs only [go_sem,awp_seq,Nat.reduceBEq,Nat.reduceLeDiff,Nat.reduceLT]
 | true =>
 simp (maxSteps:=1000000) -implicitDefEqProofs only [go_sem,awp_seq,Nat.reduceBEq,Nat.reduceLeDiff,Nat.reduceLT,Int.reduceBEq]
 cases c4:decide (hi<lo)with
 | true=>simp (maxSteps:=1000000) -implicitDefEqProofs only [c4,go_sem,awp_seq,Nat.reduceBEq,Nat.reduceLeDiff,Nat.reduceLT]
 | false=>simp (maxSteps:=1000000) -implicitDefEqProofs only [c4,go_sem,awp_seq,Nat.reduceBEq,Nat.reduceLeDiff,Nat.reduceLT]
def r33E5 (n lo hi:Int) (code:List UInt8):Int:=bif !(code.isEmpty) then 1 else bif !(withinB lo 0 9999999) then 3 else bif !(withinB hi 0 9999999) then 3 else bif !(withinB n 1 10) then 3 else bif decide (hi<lo) then 23 else 0
set_option maxRecDepth 10000 in
set_option maxHeartbeats 2000000 in
theorem rule5_c (n lo hi:Int) (code:List UInt8):AT 73 [ruleA ⟨5,n,lo,hi,code⟩] (i64 (r33E5 n lo hi code)):=by
 unfold r33E5
 have W0:=within33_c 5 1 9
 rw [show withinB 5 1 9=true from rfl]at W0
 have C1:=within33_c lo 0 9999999
 have C2:=within33_c hi 0 9999999
 have C3:=within33_c n 1 10
 generalize withinB lo 0 9999999=q1 at *
 generalize withinB hi 0 9999999=q2 at *
 generalize withinB n 1 10=q3 at *
 refine ACalls.of ⟨8,[],[]⟩ (fn:=Tryz.f73) Tryz.func73 rfl rfl rfl (by kernel_rfl) (by kernel_rfl) (Nat.le_of_ble_eq_true rfl) ?_
 simp (maxSteps:=1000000) -implicitDefEqProofs only [go_sem,awp_seq,Nat.reduceBEq,Nat.reduceLT]
 refine callA_tt W0 ?_
 simp (maxSteps:=1000000) -implicitDefEqProofs only [go_sem,awp_seq,Nat.reduceBEq,Nat.reduceLeDiff,Nat.reduceLT]
 refine callA_tt uses5 ?_
 simp (maxSteps:=1000000) -implicitDefEqProofs only [mk_bs,toList_bs,seq_nil,go_sem,awp_seq,Nat.reduceBEq,Nat.reduceLeDiff,Nat.reduceLT]
 cases c0:code.isEmpty with
 | false=>simp (maxSteps:=1000000) -implicitDefEqProofs only [c0,go_sem,awp_seq,Nat.reduceBEq,Nat.reduceLeDiff,Nat.reduceLT]
 | true =>
 simp (maxSteps:=1000000) -implicitDefEqProofs only [c0,go_sem,awp_seq,Nat.reduceBEq,Nat.reduceLeDiff,Nat.reduceLT]
 refine callA_tt C1 ?_
 cases q1 with
 | false=>simp (maxSteps:=1000000) -implicitDefEqProofs only [go_sem,awp_seq,Nat.reduceBEq,Nat.reduceLeDiff,Nat.reduceLT]
 | true =>
 simp (maxSteps:=1000000) -implicitDefEqProofs only [go_sem,awp_seq,Nat.reduceBEq]
 refine callA_tt C2 ?_
 cases q2 with
 | false=>simp (maxSteps:=1000000) -implicitDefEqProofs only [go_sem,awp_seq,Nat.reduceBEq,Nat.reduceLeDiff,Nat.reduceLT]
 | true =>
 simp (maxSteps:=1000000) -implicitDefEqProofs only [go_sem,awp_seq,Nat.reduceBEq,Nat.reduceLeDiff,Nat.reduceLT,Int.reduceBEq]
 refine callA_tt C3 ?_
 cases q3 with
 | false=>simp (maxSteps:=1000000) -implicitDefEqProofs only [go_sem,awp_seq,Nat.reduceBEq,Nat.reduceLeDiff,Nat.reduceLT,Int.reduceBEq]
 | true =>
 simp (maxSteps:=1000000) -implicitDefEqProofs only [go_sem,awp_seq,Nat.reduceBEq,Nat.reduceLeDiff,Nat.reduceLT,Int.reduceBEq]
 cases c4:decide (hi<lo)with
 | true=>simp (maxSteps:=1000000) -implicitDefEqProofs only [c4,go_sem,awp_seq,Nat.reduceBEq,Nat.reduceLeDiff,Nat.reduceLT]
 | false=>simp (maxSteps:=1000000) -implicitDefEqProofs only [c4,go_sem,awp_seq,Nat.reduceBEq,Nat.reduceLeDiff,Nat.reduceLT]
def r33E6 (n lo hi:Int) (code:List UInt8):Int:=bif !(code.isEmpty) then 1 else bif !(withinB lo 0 9999999) then 3 else bif !(withinB hi 0 9999999) then 3 else bif !(withinB n 1 9999999) then 3 else bif (lo == 0) then 3 else bif decide (hi<lo) then 23 else 0
set_option maxRecDepth 10000 in
set_option maxHeartbeats 2000000 in
theorem rule6_c (n lo hi:Int) (code:List UInt8):AT 73 [ruleA ⟨6,n,lo,hi,code⟩] (i64 (r33E6 n lo hi code)):=by
 unfold r33E6
 have W0:=within33_c 6 1 9
 rw [show withinB 6 1 9=true from rfl]at W0
 have C1:=within33_c lo 0 9999999
 have C2:=within33_c hi 0 9999999
 have C3:=within33_c n 1 9999999
 generalize withinB lo 0 9999999=q1 at *
 generalize withinB hi 0 9999999=q2 at *
 generalize withinB n 1 9999999=q3 at *
 refine ACalls.of ⟨8,[],[]⟩ (fn:=Tryz.f73) Tryz.func73 rfl rfl rfl (by kernel_rfl) (by kernel_rfl) (Nat.le_of_ble_eq_true rfl) ?_
 simp (maxSteps:=1000000) -implicitDefEqProofs only [go_sem,awp_seq,Nat.reduceBEq,Nat.reduceLT]
 refine callA_tt W0 ?_
 simp (maxSteps:=1000000) -implicitDefEqProofs only [go_sem,awp_seq,Nat.reduceBEq,Nat.reduceLeDiff,Nat.reduceLT]
 refine callA_tt uses6 ?_
 simp (maxSteps:=1000000) -implicitDefEqProofs only [mk_bs,toList_bs,seq_nil,go_sem,awp_seq,Nat.reduceBEq,Nat.reduceLeDiff,Nat.reduceLT]
 cases c0:code.isEmpty with
 | false=>simp (maxSteps:=1000000) -implicitDefEqProofs only [c0,go_sem,awp_seq,Nat.reduceBEq,Nat.reduceLeDiff,Nat.reduceLT]
 | true =>
 simp (maxSteps:=1000000) -implicitDefEqProofs only [c0,go_sem,awp_seq,Nat.reduceBEq,Nat.reduceLeDiff,Nat.reduceLT]
 refine callA_tt C1 ?_
 cases q1 with
 | false=>simp (maxSteps:=1000000) -implicitDefEqProofs only [go_sem,awp_seq,Nat.reduceBEq,Nat.reduceLeDiff,Nat.reduceLT]
 | true =>
 simp (maxSteps:=1000000) -implicitDefEqProofs only [go_sem,awp_seq,Nat.reduceBEq]
 refine callA_tt C2 ?_
 cases q2 with
 | false=>simp (maxSteps:=1000000) -implicitDefEqProofs only [go_sem,awp_seq,Nat.reduceBEq,Nat.reduceLeDiff,Nat.reduceLT]
 | true =>
 simp (maxSteps:=1000000) -implicitDefEqProofs only [go_sem,awp_seq,Nat.reduceBEq,Nat.reduceLeDiff,Nat.reduceLT,Int.reduceBEq]
 refine callA_tt C3 ?_
 cases q3 with
 | false=>simp (maxSteps:=1000000) -implicitDefEqProofs only [go_sem,awp_seq,Nat.reduceBEq,Nat.reduceLeDiff,Nat.reduceLT,Int.reduceBEq]
 | true =>
 simp (maxSteps:=1000000) -implicitDefEqProofs only [go_sem,awp_seq,Nat.reduceBEq,Nat.reduceLeDiff,Nat.reduceLT,Int.reduceBEq]
 cases c4:(lo == 0)with
 | true=>simp (maxSteps:=1000000) -implicitDefEqProofs only [c4,go_sem,awp_seq,Nat.reduceBEq,Nat.reduceLeDiff,Nat.reduceLT]
 | false =>
 simp (maxSteps:=1000000) -implicitDefEqProofs only [c4,go_sem,awp_seq,Nat.reduceBEq,Nat.reduceLeDiff,Nat.reduceLT]
 cases c5:decide (hi<lo)with
 | true=>simp (maxSteps:=1000000) -implicitDefEqProofs only [c5,go_sem,awp_seq,Nat.reduceBEq,Nat.reduceLeDiff,Nat.reduceLT]
 | false=>simp (maxSteps:=1000000) -implicitDefEqProofs only [c5,go_sem,awp_seq,Nat.reduceBEq,Nat.reduceLeDiff,Nat.reduceLT]
def r33E7 (n lo hi:Int) (code:List UInt8):Int:=bif !(code.isEmpty) then 1 else bif (lo != 0) then 1 else bif (hi != 0) then 1 else bif !(withinB lo 0 9999999) then 3 else bif !(withinB hi 0 9999999) then 3 else bif !(withinB n 1 9999999) then 3 else bif decide (hi<lo) then 23 else 0
set_option maxRecDepth 10000 in
set_option maxHeartbeats 2000000 in
theorem rule7_c (n lo hi:Int) (code:List UInt8):AT 73 [ruleA ⟨7,n,lo,hi,code⟩] (i64 (r33E7 n lo hi code)):=by
 unfold r33E7
 have W0:=within33_c 7 1 9
 rw [show withinB 7 1 9=true from rfl]at W0
 have C3:=within33_c lo 0 9999999
 have C4:=within33_c hi 0 9999999
 have C5:=within33_c n 1 9999999
 generalize withinB lo 0 9999999=q3 at *
 generalize withinB hi 0 9999999=q4 at *
 generalize withinB n 1 9999999=q5 at *
 refine ACalls.of ⟨8,[],[]⟩ (fn:=Tryz.f73) Tryz.func73 rfl rfl rfl (by kernel_rfl) (by kernel_rfl) (Nat.le_of_ble_eq_true rfl) ?_
 simp (maxSteps:=1000000) -implicitDefEqProofs only [go_sem,awp_seq,Nat.reduceBEq,Nat.reduceLT]
 refine callA_tt W0 ?_
 simp (maxSteps:=1000000) -implicitDefEqProofs only [go_sem,awp_seq,Nat.reduceBEq,Nat.reduceLeDiff,Nat.reduceLT]
 refine callA_tt uses7 ?_
 simp (maxSteps:=1000000) -implicitDefEqProofs only [mk_bs,toList_bs,seq_nil,go_sem,awp_seq,Nat.reduceBEq,Nat.reduceLeDiff,Nat.reduceLT]
 cases c0:code.isEmpty with
 | false=>simp (maxSteps:=1000000) -implicitDefEqProofs only [c0,go_sem,awp_seq,Nat.reduceBEq,Nat.reduceLeDiff,Nat.reduceLT]
 | true =>
 simp (maxSteps:=1000000) -implicitDefEqProofs only [c0,go_sem,awp_seq,Nat.reduceBEq,Nat.reduceLeDiff,Nat.reduceLT]
 cases c1:(lo != 0)with
 | true=>simp (maxSteps:=1000000) -implicitDefEqProofs only [c1,go_sem,awp_seq,Nat.reduceBEq,Nat.reduceLeDiff,Nat.reduceLT]
 | false =>
 simp (maxSteps:=1000000) -implicitDefEqProofs only [c1,go_sem,awp_seq,Nat.reduceBEq,Nat.reduceLeDiff,Nat.reduceLT]
 cases c2:(hi != 0)with
 | true=>simp (maxSteps:=1000000) -implicitDefEqProofs only [c2,go_sem,awp_seq,Nat.reduceBEq,Nat.reduceLeDiff,Nat.reduceLT]
 | false =>
 simp (maxSteps:=1000000) -implicitDefEqProofs only [c2,go_sem,awp_seq,Nat.reduceBEq,Nat.reduceLeDiff,Nat.reduceLT]
 refine callA_tt C3 ?_
 cases q3 with
 | false=>simp (maxSteps:=1000000) -implicitDefEqProofs only [go_sem,awp_seq,Nat.reduceBEq,Nat.reduceLeDiff,Nat.reduceLT]
 | true =>
 simp (maxSteps:=1000000) -implicitDefEqProofs only [go_sem,awp_seq,Nat.reduceBEq]
 refine callA_tt C4 ?_
 cases q4 with
 | false=>simp (maxSteps:=1000000) -implicitDefEqProofs only [go_sem,awp_seq,Nat.reduceBEq,Nat.reduceLeDiff,Nat.reduceLT]
 | true =>
 simp (maxSteps:=1000000) -implicitDefEqProofs only [go_sem,awp_seq,Nat.reduceBEq,Nat.reduceLeDiff,Nat.reduceLT,Int.reduceBEq]
 refine callA_tt C5 ?_
 cases q5 with
 | false=>simp (maxSteps:=1000000) -implicitDefEqProofs only [go_sem,awp_seq,Nat.reduceBEq,Nat.reduceLeDiff,Nat.reduceLT,Int.reduceBEq]
 | true =>
 simp (maxSteps:=1000000) -implicitDefEqProofs only [go_sem,awp_seq,Nat.reduceBEq,Nat.reduceLeDiff,Nat.reduceLT,Int.reduceBEq]
 cases c6:decide (hi<lo)with
 | true=>simp (maxSteps:=1000000) -implicitDefEqProofs only [c6,go_sem,awp_seq,Nat.reduceBEq,Nat.reduceLeDiff,Nat.reduceLT]
 | false=>simp (maxSteps:=1000000) -implicitDefEqProofs only [c6,go_sem,awp_seq,Nat.reduceBEq,Nat.reduceLeDiff,Nat.reduceLT]
def r33E8 (n lo hi:Int) (code:List UInt8):Int:=bif !(code.isEmpty) then 1 else bif (lo != 0) then 1 else bif (hi != 0) then 1 else bif !(withinB lo 0 9999999) then 3 else bif !(withinB hi 0 9999999) then 3 else bif !(withinB n 1 9999999) then 3 else bif decide (hi<lo) then 23 else 0
set_option maxRecDepth 10000 in
set_option maxHeartbeats 2000000 in
theorem rule8_c (n lo hi:Int) (code:List UInt8):AT 73 [ruleA ⟨8,n,lo,hi,code⟩] (i64 (r33E8 n lo hi code)):=by
 unfold r33E8
 have W0:=within33_c 8 1 9
 rw [show withinB 8 1 9=true from rfl]at W0
 have C3:=within33_c lo 0 9999999
 have C4:=within33_c hi 0 9999999
 have C5:=within33_c n 1 9999999
 generalize withinB lo 0 9999999=q3 at *
 generalize withinB hi 0 9999999=q4 at *
 generalize withinB n 1 9999999=q5 at *
 refine ACalls.of ⟨8,[],[]⟩ (fn:=Tryz.f73) Tryz.func73 rfl rfl rfl (by kernel_rfl) (by kernel_rfl) (Nat.le_of_ble_eq_true rfl) ?_
 simp (maxSteps:=1000000) -implicitDefEqProofs only [go_sem,awp_seq,Nat.reduceBEq,Nat.reduceLT]
 refine callA_tt W0 ?_
 simp (maxSteps:=1000000) -implicitDefEqProofs only [go_sem,awp_seq,Nat.reduceBEq,Nat.reduceLeDiff,Nat.reduceLT]
 refine callA_tt uses8 ?_
 simp (maxSteps:=1000000) -implicitDefEqProofs only [mk_bs,toList_bs,seq_nil,go_sem,awp_seq,Nat.reduceBEq,Nat.reduceLeDiff,Nat.reduceLT]
 cases c0:code.isEmpty with
 | false=>simp (maxSteps:=1000000) -implicitDefEqProofs only [c0,go_sem,awp_seq,Nat.reduceBEq,Nat.reduceLeDiff,Nat.reduceLT]
 | true =>
 simp (maxSteps:=1000000) -implicitDefEqProofs only [c0,go_sem,awp_seq,Nat.reduceBEq,Nat.reduceLeDiff,Nat.reduceLT]
 cases c1:(lo != 0)with
 | true=>simp (maxSteps:=1000000) -implicitDefEqProofs only [c1,go_sem,awp_seq,Nat.reduceBEq,Nat.reduceLeDiff,Nat.reduceLT]
 | false =>
 simp (maxSteps:=1000000) -implicitDefEqProofs only [c1,go_sem,awp_seq,Nat.reduceBEq,Nat.reduceLeDiff,Nat.reduceLT]
 cases c2:(hi != 0)with
 | true=>simp (maxSteps:=1000000) -implicitDefEqProofs only [c2,go_sem,awp_seq,Nat.reduceBEq,Nat.reduceLeDiff,Nat.reduceLT]
 | false =>
 simp (maxSteps:=1000000) -implicitDefEqProofs only [c2,go_sem,awp_seq,Nat.reduceBEq,Nat.reduceLeDiff,Nat.reduceLT]
 refine callA_tt C3 ?_
 cases q3 with
 | false=>simp (maxSteps:=1000000) -implicitDefEqProofs only [go_sem,awp_seq,Nat.reduceBEq,Nat.reduceLeDiff,Nat.reduceLT]
 | true =>
 simp (maxSteps:=1000000) -implicitDefEqProofs only [go_sem,awp_seq,Nat.reduceBEq]
 refine callA_tt C4 ?_
 cases q4 with
 | false=>simp (maxSteps:=1000000) -implicitDefEqProofs only [go_sem,awp_seq,Nat.reduceBEq,Nat.reduceLeDiff,Nat.reduceLT]
 | true =>
 simp (maxSteps:=1000000) -implicitDefEqProofs only [go_sem,awp_seq,Nat.reduceBEq,Nat.reduceLeDiff,Nat.reduceLT,Int.reduceBEq]
 refine callA_tt C5 ?_
 cases q5 with
 | false=>simp (maxSteps:=1000000) -implicitDefEqProofs only [go_sem,awp_seq,Nat.reduceBEq,Nat.reduceLeDiff,Nat.reduceLT,Int.reduceBEq]
 | true =>
 simp (maxSteps:=1000000) -implicitDefEqProofs only [go_sem,awp_seq,Nat.reduceBEq,Nat.reduceLeDiff,Nat.reduceLT,Int.reduceBEq]
 cases c6:decide (hi<lo)with
 | true=>simp (maxSteps:=1000000) -implicitDefEqProofs only [c6,go_sem,awp_seq,Nat.reduceBEq,Nat.reduceLeDiff,Nat.reduceLT]
 | false=>simp (maxSteps:=1000000) -implicitDefEqProofs only [c6,go_sem,awp_seq,Nat.reduceBEq,Nat.reduceLeDiff,Nat.reduceLT]
def r33E9 (n lo hi:Int) (code:List UInt8):Int:=bif !(code.isEmpty) then 1 else bif (n != 0) then 1 else bif (lo != 0) then 1 else bif (hi != 0) then 1 else bif !(withinB lo 0 9999999) then 3 else bif !(withinB hi 0 9999999) then 3 else bif decide (hi<lo) then 23 else 0
set_option maxRecDepth 10000 in
set_option maxHeartbeats 2000000 in
theorem rule9_c (n lo hi:Int) (code:List UInt8):AT 73 [ruleA ⟨9,n,lo,hi,code⟩] (i64 (r33E9 n lo hi code)):=by
 unfold r33E9
 have W0:=within33_c 9 1 9
 rw [show withinB 9 1 9=true from rfl]at W0
 have C4:=within33_c lo 0 9999999
 have C5:=within33_c hi 0 9999999
 generalize withinB lo 0 9999999=q4 at *
 generalize withinB hi 0 9999999=q5 at *
 refine ACalls.of ⟨8,[],[]⟩ (fn:=Tryz.f73) Tryz.func73 rfl rfl rfl (by kernel_rfl) (by kernel_rfl) (Nat.le_of_ble_eq_true rfl) ?_
 simp (maxSteps:=1000000) -implicitDefEqProofs only [go_sem,awp_seq,Nat.reduceBEq,Nat.reduceLT]
 refine callA_tt W0 ?_
 simp (maxSteps:=1000000) -implicitDefEqProofs only [go_sem,awp_seq,Nat.reduceBEq,Nat.reduceLeDiff,Nat.reduceLT]
 refine callA_tt uses9 ?_
 simp (maxSteps:=1000000) -implicitDefEqProofs only [mk_bs,toList_bs,seq_nil,go_sem,awp_seq,Nat.reduceBEq,Nat.reduceLeDiff,Nat.reduceLT]
 cases c0:code.isEmpty with
 | false=>simp (maxSteps:=1000000) -implicitDefEqProofs only [c0,go_sem,awp_seq,Nat.reduceBEq,Nat.reduceLeDiff,Nat.reduceLT]
 | true =>
 simp (maxSteps:=1000000) -implicitDefEqProofs only [c0,go_sem,awp_seq,Nat.reduceBEq,Nat.reduceLeDiff,Nat.reduceLT]
 cases c1:(n != 0)with
 | true=>simp (maxSteps:=1000000) -implicitDefEqProofs only [c1,go_sem,awp_seq,Nat.reduceBEq,Nat.reduceLeDiff,Nat.reduceLT]
 | false =>
 simp (maxSteps:=1000000) -implicitDefEqProofs only [c1,go_sem,awp_seq,Nat.reduceBEq,Nat.reduceLeDiff,Nat.reduceLT]
 cases c2:(lo != 0)with
 | true=>simp (maxSteps:=1000000) -implicitDefEqProofs only [c2,go_sem,awp_seq,Nat.reduceBEq,Nat.reduceLeDiff,Nat.reduceLT]
 | false =>
 simp (maxSteps:=1000000) -implicitDefEqProofs only [c2,go_sem,awp_seq,Nat.reduceBEq,Nat.reduceLeDiff,Nat.reduceLT]
 cases c3:(hi != 0)with
 | true=>simp (maxSteps:=1000000) -implicitDefEqProofs only [c3,go_sem,awp_seq,Nat.reduceBEq,Nat.reduceLeDiff,Nat.reduceLT]
 | false =>
 simp (maxSteps:=1000000) -implicitDefEqProofs only [c3,go_sem,awp_seq,Nat.reduceBEq,Nat.reduceLeDiff,Nat.reduceLT]
 refine callA_tt C4 ?_
 cases q4 with
 | false=>simp (maxSteps:=1000000) -implicitDefEqProofs only [go_sem,awp_seq,Nat.reduceBEq,Nat.reduceLeDiff,Nat.reduceLT]
 | true =>
 simp (maxSteps:=1000000) -implicitDefEqProofs only [go_sem,awp_seq,Nat.reduceBEq]
 refine callA_tt C5 ?_
 cases q5 with
 | false=>simp (maxSteps:=1000000) -implicitDefEqProofs only [go_sem,awp_seq,Nat.reduceBEq,Nat.reduceLeDiff,Nat.reduceLT]
 | true =>
 simp (maxSteps:=1000000) -implicitDefEqProofs only [go_sem,awp_seq,Nat.reduceBEq,Nat.reduceLeDiff,Nat.reduceLT,Int.reduceBEq]
 cases c6:decide (hi<lo)with
 | true=>simp (maxSteps:=1000000) -implicitDefEqProofs only [c6,go_sem,awp_seq,Nat.reduceBEq,Nat.reduceLeDiff,Nat.reduceLT]
 | false=>simp (maxSteps:=1000000) -implicitDefEqProofs only [c6,go_sem,awp_seq,Nat.reduceBEq,Nat.reduceLeDiff,Nat.reduceLT]
theorem ruleNone_c (r:RuleV) (h:r.k<1∨9<r.k):AT 73 [ruleA r] (i64 1):=by
 have W0:=within33_c r.k 1 9
 rw [show withinB r.k 1 9=false by simp [withinB];omega]at W0
 refine ACalls.of ⟨8,[],[]⟩ (fn:=Tryz.f73) Tryz.func73 rfl rfl rfl (by kernel_rfl) (by kernel_rfl) (Nat.le_of_ble_eq_true rfl) ?_
 simp (maxSteps:=1000000) -implicitDefEqProofs only [go_sem,awp_seq,Nat.reduceBEq,Nat.reduceLT]
 refine callA_tt W0 ?_
 simp (maxSteps:=1000000) -implicitDefEqProofs only [go_sem,awp_seq,Nat.reduceBEq,Nat.reduceLeDiff,Nat.reduceLT]
end Go.Proofs.YtmegoiaijfeilaaGreatDoor
set_option linter.unusedSimpArgs false
set_option linter.unusedVariables false
namespace Go.Proofs.YtmegoiaijfeilaaGreatDoor
open Go.RowKit Lim
def bndE (lo hi:Int) (e:Int):Int:=if lo<0∨9999999<lo∨hi<0∨9999999<hi then 3 else e
theorem boundsE_eq (a b:Int):boundsE a b=bndE a b (if b<a then 23 else 0):=by
 unfold boundsE bndE
 simp only [Bool.or_eq_true,decide_eq_true_eq,or_assoc]
theorem within_bnd (lo hi e:Int):(bif !(withinB lo 0 9999999) then 3 else bif !(withinB hi 0 9999999) then 3 else e)=bndE lo hi e:=by
 have h1:withinB lo 0 9999999=decide (0≤lo∧lo≤9999999):=by simp [withinB]
 have h2:withinB hi 0 9999999=decide (0≤hi∧hi≤9999999):=by simp [withinB]
 rw [h1,h2]
 unfold bndE
 by_cases k1:0≤lo∧lo≤9999999
 ·by_cases k2:0≤hi∧hi≤9999999
  ·rw [decide_eq_true k1,decide_eq_true k2,if_neg (by omega)];rfl
  ·rw [decide_eq_true k1,decide_eq_false k2,if_pos (by omega)];rfl
 ·rw [decide_eq_false k1,if_pos (by omega)];rfl
theorem ord_eq (lo hi:Int):(bif decide (hi<lo) then (23:Int) else 0)=if hi<lo then 23 else 0:=by by_cases h:hi<lo <;> simp [h]
theorem within_n (n m:Int):withinB n 1 m=!(decide (n<1) || decide (m<n)):=by
 unfold withinB
 by_cases h1:1≤n <;> by_cases h2:n≤m
 ·rw [decide_eq_true h1,decide_eq_true h2,decide_eq_false (by omega),decide_eq_false (by omega)];rfl
 ·rw [decide_eq_true h1,decide_eq_false h2,decide_eq_false (by omega),decide_eq_true (by omega)];rfl
 ·rw [decide_eq_false h1,decide_eq_true (by omega:n<1)];rfl
 ·rw [decide_eq_false h1,decide_eq_true (by omega:n<1)];rfl
theorem bne_bool (x:Int):(x != 0)=!(x == 0):=rfl
section
variable (n lo hi:Int) (code:List UInt8)
theorem eq1:ruleE ⟨1,n,lo,hi,code⟩=r33E1 n lo hi code:=by
 have e:ruleE ⟨1,n,lo,hi,code⟩=if n == 0 then contE lo hi code else 1:=rfl
 rw [e,r33E1,within_bnd,ord_eq,contE,boundsE_eq,content_r13,bne_bool]
 cases n == 0 <;> cases r13V code <;> rfl
theorem eq2:ruleE ⟨2,n,lo,hi,code⟩=r33E2 n lo hi code:=by
 have e:ruleE ⟨2,n,lo,hi,code⟩=if (n == 0) && (lo == 0) && code.isEmpty then boundsE lo hi else 1:=rfl
 rw [e,r33E2,within_bnd,ord_eq,boundsE_eq,bne_bool,bne_bool]
 cases n == 0 <;> cases lo == 0 <;> cases code.isEmpty <;> rfl
theorem eq3:ruleE ⟨3,n,lo,hi,code⟩=r33E3 n lo hi code:=by
 have e:ruleE ⟨3,n,lo,hi,code⟩=if (n == 0) && (lo == 0) && code.isEmpty then boundsE lo hi else 1:=rfl
 rw [e,r33E3,within_bnd,ord_eq,boundsE_eq,bne_bool,bne_bool]
 cases n == 0 <;> cases lo == 0 <;> cases code.isEmpty <;> rfl
theorem eq4:ruleE ⟨4,n,lo,hi,code⟩=r33E4 n lo hi code:=by
 have e:ruleE ⟨4,n,lo,hi,code⟩=if (n == 0) && code.isEmpty then boundsE lo hi else 1:=rfl
 rw [e,r33E4,within_bnd,ord_eq,boundsE_eq,bne_bool]
 cases n == 0 <;> cases code.isEmpty <;> simp
theorem eq5:ruleE ⟨5,n,lo,hi,code⟩=r33E5 n lo hi code:=by
 have e:ruleE ⟨5,n,lo,hi,code⟩=if code.isEmpty then keyE lo hi n else 1:=by unfold ruleE demOk chkE;simp
 rw [e,r33E5,within_bnd,ord_eq,keyE,boundsE_eq,within_n]
 unfold bndE
 cases code.isEmpty <;> cases (decide (n<1) || decide (10<n)) <;> simp
theorem eq6:ruleE ⟨6,n,lo,hi,code⟩=r33E6 n lo hi code:=by
 have e:ruleE ⟨6,n,lo,hi,code⟩=if code.isEmpty then setE lo hi n else 1:=rfl
 rw [e,r33E6,within_bnd,ord_eq,setE,boundsE_eq,show numB n=withinB n 1 9999999 from rfl]
 unfold bndE
 cases code.isEmpty <;> cases withinB n 1 9999999 <;> cases lo == 0 <;> simp
theorem eq7:ruleE ⟨7,n,lo,hi,code⟩=r33E7 n lo hi code:=by
 have e:ruleE ⟨7,n,lo,hi,code⟩=if (lo == 0) && (hi == 0) && code.isEmpty then (if numB n then 0 else 3) else 1:=rfl
 rw [e,r33E7,within_bnd,ord_eq,show numB n=withinB n 1 9999999 from rfl,bne_bool,bne_bool]
 by_cases h1:lo=0
 ·by_cases h2:hi=0
  ·subst h1 h2;cases code.isEmpty <;> cases withinB n 1 9999999 <;> rfl
  ·have:(hi == 0)=false:=by simp [h2]
   rw [this];cases code.isEmpty <;> cases lo == 0 <;> rfl
 ·have:(lo == 0)=false:=by simp [h1]
  rw [this];cases code.isEmpty <;> rfl
theorem eq8:ruleE ⟨8,n,lo,hi,code⟩=r33E8 n lo hi code:=by
 have e:ruleE ⟨8,n,lo,hi,code⟩=if (lo == 0) && (hi == 0) && code.isEmpty then (if numB n then 0 else 3) else 1:=rfl
 rw [e,r33E8,within_bnd,ord_eq,show numB n=withinB n 1 9999999 from rfl,bne_bool,bne_bool]
 by_cases h1:lo=0
 ·by_cases h2:hi=0
  ·subst h1 h2;cases code.isEmpty <;> cases withinB n 1 9999999 <;> rfl
  ·have:(hi == 0)=false:=by simp [h2]
   rw [this];cases code.isEmpty <;> cases lo == 0 <;> rfl
 ·have:(lo == 0)=false:=by simp [h1]
  rw [this];cases code.isEmpty <;> rfl
theorem eq9:ruleE ⟨9,n,lo,hi,code⟩=r33E9 n lo hi code:=by
 have e:ruleE ⟨9,n,lo,hi,code⟩=if (n == 0) && (lo == 0) && (hi == 0) && code.isEmpty then 0 else 1:=rfl
 rw [e,r33E9,within_bnd,ord_eq,bne_bool,bne_bool,bne_bool]
 by_cases h1:lo=0
 ·by_cases h2:hi=0
  ·subst h1 h2;cases code.isEmpty <;> cases n == 0 <;> rfl
  ·have:(hi == 0)=false:=by simp [h2]
   rw [this];cases code.isEmpty <;> cases lo == 0 <;> cases n == 0 <;> rfl
 ·have:(lo == 0)=false:=by simp [h1]
  rw [this];cases code.isEmpty <;> cases n == 0 <;> rfl
end
theorem rule33_c (r:RuleV):AT 73 [ruleA r] (i64 (ruleE r)):=by
 by_cases h0:r.k<1∨9<r.k
 ·have e:demOk r=false:=by unfold demOk;repeat rw [if_neg (by omega)]
  rw [chk_no e]
  exact ruleNone_c r h0
 obtain ⟨k,n,lo,hi,code⟩:=r
 dsimp only at h0
 have h:k=1∨k=2∨k=3∨k=4∨k=5∨k=6∨k=7∨k=8∨k=9:=by omega
 rcases h with rfl|rfl|rfl|rfl|rfl|rfl|rfl|rfl|rfl
 ·rw [eq1];exact rule1_c n lo hi code
 ·rw [eq2];exact rule2_c n lo hi code
 ·rw [eq3];exact rule3_c n lo hi code
 ·rw [eq4];exact rule4_c n lo hi code
 ·rw [eq5];exact rule5_c n lo hi code
 ·rw [eq6];exact rule6_c n lo hi code
 ·rw [eq7];exact rule7_c n lo hi code
 ·rw [eq8];exact rule8_c n lo hi code
 ·rw [eq9];exact rule9_c n lo hi code
theorem valid33_c (n:Int) (rs:List RuleV):AT 50 [.agg [i64 n,rulesA rs]] (i64 (specE n rs)):=by
 have W:=within33_c n 1 18
 rw [within_n]at W
 unfold specE
 cases c1:(decide (n<1) || decide (18<n))with
 | true =>
  rw [c1]at W
  rw [if_pos rfl]
  refine ACalls.of ⟨18,[],[]⟩ (fn:=Tryz.f50) Tryz.func50 rfl rfl rfl (by kernel_rfl) (by kernel_rfl) (Nat.le_of_ble_eq_true rfl) ?_
  simp (maxSteps:=1000000) -implicitDefEqProofs only [go_sem,awp_seq,Nat.reduceBEq,Nat.reduceLT]
  refine callA_tt W ?_
  simp (maxSteps:=1000000) -implicitDefEqProofs only [go_sem,awp_seq,Nat.reduceBNe,Nat.reduceBEq,Nat.reduceLT]
 | false =>
 rw [c1]at W
 rw [if_neg (by simp)]
 by_cases h3:20<rs.length
 ·have g3:decide ((20:Int)<(rs.length:Nat))=true:=by simp;omega
  rw [if_pos h3]
  refine ACalls.of ⟨18,[],[]⟩ (fn:=Tryz.f50) Tryz.func50 rfl rfl rfl (by kernel_rfl) (by kernel_rfl) (Nat.le_of_ble_eq_true rfl) ?_
  simp (maxSteps:=1000000) -implicitDefEqProofs only [go_sem,awp_seq,Nat.reduceBEq,Nat.reduceLT]
  refine callA_tt W ?_
  simp (maxSteps:=1000000) -implicitDefEqProofs only [g3,List.length_map,go_sem,awp_seq,Nat.reduceBNe,Nat.reduceBEq,Nat.reduceLT]
 have g3:decide ((20:Int)<(rs.length:Nat))=false:=by simp;omega
 rw [if_neg h3]
 obtain ⟨R,hR⟩:∃R,R=rulesE rs:=⟨_,rfl⟩
 rw [←hR]
 refine ACalls.of ⟨18,[],[]⟩ (fn:=Tryz.f50) Tryz.func50 rfl rfl rfl (by kernel_rfl) (by kernel_rfl) (Nat.le_of_ble_eq_true rfl) ?_
 simp (maxSteps:=1000000) -implicitDefEqProofs only [go_sem,awp_seq,Nat.reduceBEq,Nat.reduceLT]
 refine callA_tt W ?_
 simp (maxSteps:=1000000) -implicitDefEqProofs only [g3,List.length_map,go_sem,awp_seq,Nat.reduceBNe,Nat.reduceBEq,Nat.reduceLT]
 refine loop_mk (α:={k:Nat // k≤rs.length∧R=rulesE (rs.drop k)}) (fun k=>[(0,some (.av (.agg [i64 n,rulesA rs]))),(1,some (.ref 1 0)),(2,some (.av (i64 0))),(15,some (.av (rulesA rs))),(16,some (.av (i64 (rs.length:Nat)))),(17,some (.av (i64 (k.1:Nat))))]) (fun _=>[(1,[i64 n,rulesA rs])]) (fun _=>[]) (fun k=>rs.length-k.1) ⟨0,Nat.zero_le _,hR⟩ ?_ ?_
 ·simp (maxSteps:=1000000) -implicitDefEqProofs only [go_sem,awp_seq,Nat.reduceBEq,Int.cast_ofNat_Int]
 ·clear hR
  rintro ⟨k,hk,hR⟩
  by_cases hlt:k<rs.length
  ·have g1:decide (((k:Nat):Int)<(rs.length:Nat))=true:=by simp;omega
   have e1:=map_get ruleA rs hlt
   have w1:IntKind.i64.wrap ((k:Int)+1)=((k+1:Nat):Int):=by rw [IntWalk.i64_in _ (by omega)];omega
   rw [List.drop_eq_getElem_cons hlt]at hR
   generalize rs[k]=r at *
   have D:=rule33_c r
   unfold rulesE at hR
   generalize ruleE r=e at *
   by_cases h5:e≠0
   ·have g5:(e != 0)=true:=by simpa using h5
    rw [if_pos h5]at hR
    subst hR
    simp (maxSteps:=1000000) -implicitDefEqProofs only [g1,e1,Int.toNat_natCast,Int.natCast_nonneg,go_sem,awp_seq,Nat.reduceBEq,Nat.reduceAdd,Nat.reduceLeDiff,Nat.reduceLT,Nat.reduceEqDiff]
    refine callA_tt D ?_
    simp (maxSteps:=1000000) -implicitDefEqProofs only [g5,go_sem,awp_seq,Nat.reduceBEq,Nat.reduceLeDiff,Nat.reduceLT]
   ·have g5:(e != 0)=false:=by simpa using h5
    rw [if_neg h5]at hR
    simp (maxSteps:=1000000) -implicitDefEqProofs only [g1,e1,Int.toNat_natCast,Int.natCast_nonneg,go_sem,awp_seq,Nat.reduceBEq,Nat.reduceAdd,Nat.reduceLeDiff,Nat.reduceLT,Nat.reduceEqDiff]
    refine callA_tt D ?_
    simp (maxSteps:=1000000) -implicitDefEqProofs only [g5,w1,go_sem,awp_seq,Nat.reduceBEq,Nat.reduceLeDiff,Nat.reduceLT]
    refine roundK_mk ⟨k+1,by omega,hR⟩ ?_ (by show rs.length-(k+1)<rs.length-k;omega)
    simp (maxSteps:=1000000) -implicitDefEqProofs only [go_sem,awp_seq,Nat.reduceBEq]
  ·have g1:decide (((k:Nat):Int)<(rs.length:Nat))=false:=by simp;omega
   rw [List.drop_of_length_le (by omega)]at hR
   have hR:R=0:=hR
   subst hR
   simp (maxSteps:=1000000) -implicitDefEqProofs only [g1,go_sem,awp_seq,Nat.reduceBEq,Nat.reduceLT]
end Go.Proofs.YtmegoiaijfeilaaGreatDoor
set_option linter.unusedSimpArgs false
set_option linter.unusedVariables false
namespace Go.Proofs.YtmegoiaijfeilaaGreatDoor
open Go.RowKit Lim
set_option maxHeartbeats 1000000 in
theorem row19_c (l:List Int) (c:Nat) (h6:c≤6):AT 117 [.sl 1 (l.map fun z=>i64 z),i64 (c:Nat)] (i64 (if l.length≠c then 1 else rowE l 0)):=by
 by_cases h:l.length≠c
 ·rw [if_pos h]
  have q:(((l.length:Nat):Int) != (c:Nat))=true:=by simp;omega
  refine ACalls.of ⟨7,[],[]⟩ (fn:=Tryz.f117) Tryz.func117 rfl rfl rfl (by kernel_rfl) (by kernel_rfl) (Nat.le_of_ble_eq_true rfl) ?_
  simp (maxSteps:=1000000) -implicitDefEqProofs only [q,List.length_map,go_sem,awp_seq,Nat.reduceBEq,Nat.reduceAdd,Nat.reduceLeDiff,Nat.reduceLT]
 rw [if_neg h]
 have q:(((l.length:Nat):Int) != (c:Nat))=false:=by simp;omega
 have hl6:l.length≤6:=by omega
 obtain ⟨Q,hQ⟩:∃Q,Q=rowE l 0:=⟨_,rfl⟩
 rw [←hQ]
 refine ACalls.of ⟨7,[],[]⟩ (fn:=Tryz.f117) Tryz.func117 rfl rfl rfl (by kernel_rfl) (by kernel_rfl) (Nat.le_of_ble_eq_true rfl) ?_
 simp (maxSteps:=1000000) -implicitDefEqProofs only [q,List.length_map,go_sem,awp_seq,Nat.reduceBEq,Nat.reduceAdd,Nat.reduceLeDiff,Nat.reduceLT]
 refine loop_mk (α:={x:Nat × Int // x.1≤l.length∧Q=rowE (l.drop x.1) x.2∧0≤x.2∧x.2≤1000*(x.1:Nat)}) (fun x=>[(0,some (.av (.sl 1 (l.map fun z=>i64 z)))),(1,some (.av (i64 (c:Nat)))),(4,some (.av (i64 0))),(5,some (.av (i64 x.1.2))),(6,some (.av (i64 (x.1.1:Nat))))]) (fun _=>[]) (fun _=>[]) (fun x=>l.length-x.1.1) ⟨(0,0),Nat.zero_le _,hQ,Int.le_refl _,Int.le_refl _⟩ ?_ ?_
 ·simp (maxSteps:=1000000) -implicitDefEqProofs only [go_sem,awp_seq,Nat.reduceBEq,Int.cast_ofNat_Int]
 clear hQ
 rintro ⟨⟨i,m⟩,hi,hm,hm0,hm1⟩
 dsimp only at hi hm hm0 hm1
 by_cases hlt2:i<l.length
 ·have p1:decide (((i:Nat):Int)<(l.length:Nat))=true:=by simp;omega
  have e2:=map_get (fun z=>i64 z) l hlt2
  have w2:IntKind.i64.wrap ((i:Int)+1)=((i+1:Nat):Int):=by rw [IntWalk.i64_in _ (by omega)];omega
  rw [List.drop_eq_getElem_cons hlt2]at hm
  generalize l[i]=y at *
  unfold rowE at hm
  by_cases h7:y<1
  ·rw [if_pos h7]at hm
   subst hm
   have p2:=decide_eq_true h7
   simp (maxSteps:=1000000) -implicitDefEqProofs only [p1,p2,e2,List.length_map,Int.toNat_natCast,Int.natCast_nonneg,go_sem,awp_seq,Nat.reduceBEq,Nat.reduceLeDiff,Nat.reduceLT]
  rw [if_neg h7]at hm
  have p2:=decide_eq_false h7
  by_cases h8:1000<y
  ·rw [if_pos h8]at hm
   subst hm
   have p3:=decide_eq_true h8
   simp (maxSteps:=1000000) -implicitDefEqProofs only [p1,p2,p3,e2,List.length_map,Int.toNat_natCast,Int.natCast_nonneg,go_sem,awp_seq,Nat.reduceBEq,Nat.reduceLeDiff,Nat.reduceLT]
  rw [if_neg h8]at hm
  have p3:=decide_eq_false h8
  have w3:IntKind.i64.wrap (m+y)=m+y:=IntWalk.i64_in _ (by omega)
  simp (maxSteps:=1000000) -implicitDefEqProofs only [p1,p2,p3,w2,w3,e2,List.length_map,Int.toNat_natCast,Int.natCast_nonneg,go_sem,awp_seq,Nat.reduceBEq,Nat.reduceLeDiff,Nat.reduceLT]
  refine roundK_mk ⟨(i+1,m+y),by omega,hm,by dsimp only;omega,by dsimp only;omega⟩ ?_ (by show l.length-(i+1)<l.length-i;omega)
  simp (maxSteps:=1000000) -implicitDefEqProofs only [go_sem,awp_seq,Nat.reduceBEq]
 ·have p1:decide (((i:Nat):Int)<(l.length:Nat))=false:=by simp;omega
  rw [List.drop_of_length_le (by omega)]at hm
  unfold rowE at hm
  by_cases h7:m=1000
  ·rw [if_pos h7]at hm
   subst hm
   have p2:(m != 1000)=false:=by simpa using h7
   simp (maxSteps:=1000000) -implicitDefEqProofs only [p1,p2,List.length_map,go_sem,awp_seq,Nat.reduceBEq,Nat.reduceLeDiff,Nat.reduceLT]
  ·rw [if_neg h7]at hm
   subst hm
   have p2:(m != 1000)=true:=by simpa using h7
   simp (maxSteps:=1000000) -implicitDefEqProofs only [p1,p2,List.length_map,go_sem,awp_seq,Nat.reduceBEq,Nat.reduceLeDiff,Nat.reduceLT]
set_option maxHeartbeats 2000000 in
theorem model19_c (rows:List (List Int)) (k:Int):AT 101 [.agg [rowsA rows],i64 k] (i64 (modelE rows k)):=by
 unfold modelE
 by_cases h1:k<1
 ·rw [if_pos h1]
  have g1:=decide_eq_true h1
  refine ACalls.of ⟨8,[],[]⟩ (fn:=Tryz.f101) Tryz.func101 rfl rfl rfl (by kernel_rfl) (by kernel_rfl) (Nat.le_of_ble_eq_true rfl) ?_
  simp (maxSteps:=1000000) -implicitDefEqProofs only [g1,List.length_map,go_sem,awp_seq,Nat.reduceBEq,Nat.reduceAdd,Nat.reduceLeDiff,Nat.reduceLT]
 rw [if_neg h1]
 have g1:=decide_eq_false h1
 by_cases h2:21<k
 ·rw [if_pos h2]
  have g2:=decide_eq_true h2
  refine ACalls.of ⟨8,[],[]⟩ (fn:=Tryz.f101) Tryz.func101 rfl rfl rfl (by kernel_rfl) (by kernel_rfl) (Nat.le_of_ble_eq_true rfl) ?_
  simp (maxSteps:=1000000) -implicitDefEqProofs only [g1,g2,List.length_map,go_sem,awp_seq,Nat.reduceBEq,Nat.reduceAdd,Nat.reduceLeDiff,Nat.reduceLT]
 rw [if_neg h2]
 have g2:=decide_eq_false h2
 by_cases h3:(rows.length:Int)≠k
 ·rw [if_pos h3]
  have g3:(((rows.length:Nat):Int) != k)=true:=by simpa using h3
  refine ACalls.of ⟨8,[],[]⟩ (fn:=Tryz.f101) Tryz.func101 rfl rfl rfl (by kernel_rfl) (by kernel_rfl) (Nat.le_of_ble_eq_true rfl) ?_
  simp (maxSteps:=1000000) -implicitDefEqProofs only [g1,g2,g3,List.length_map,go_sem,awp_seq,Nat.reduceBEq,Nat.reduceAdd,Nat.reduceLeDiff,Nat.reduceLT]
 rw [if_neg h3]
 have h3:(rows.length:Int)=k:=Classical.not_not.1 h3
 have g3:(((rows.length:Nat):Int) != k)=false:=by simpa using h3
 cases rows with
 | nil=>exact absurd h3 (by simp only [List.length_nil];omega)
 | cons r rs =>
 dsimp only
 have g4:decide (((r.length:Nat):Int)<2)=decide (r.length<2):=decide_eq_decide.2 (by omega)
 have g5:decide ((6:Int)<((r.length:Nat):Int))=decide (6<r.length):=decide_eq_decide.2 (by omega)
 by_cases h4:r.length<2
 ·rw [if_pos h4]
  rw [decide_eq_true h4]at g4
  simp only [List.length_cons]at g3
  refine ACalls.of ⟨8,[],[]⟩ (fn:=Tryz.f101) Tryz.func101 rfl rfl rfl (by kernel_rfl) (by kernel_rfl) (Nat.le_of_ble_eq_true rfl) ?_
  simp (maxSteps:=1000000) -implicitDefEqProofs only [g1,g2,g3,g4,List.map_cons,List.length_map,List.length_cons,List.getElem?_cons_zero,go_sem,awp_seq,Nat.reduceBEq,Nat.reduceAdd,Nat.reduceLeDiff,Nat.reduceLT,Int.reduceLE,Int.reduceToNat]
 rw [if_neg h4]
 rw [decide_eq_false h4]at g4
 by_cases h5:6<r.length
 ·rw [if_pos h5]
  rw [decide_eq_true h5]at g5
  simp only [List.length_cons]at g3
  refine ACalls.of ⟨8,[],[]⟩ (fn:=Tryz.f101) Tryz.func101 rfl rfl rfl (by kernel_rfl) (by kernel_rfl) (Nat.le_of_ble_eq_true rfl) ?_
  simp (maxSteps:=1000000) -implicitDefEqProofs only [g1,g2,g3,g4,g5,List.map_cons,List.length_map,List.length_cons,List.getElem?_cons_zero,go_sem,awp_seq,Nat.reduceBEq,Nat.reduceAdd,Nat.reduceLeDiff,Nat.reduceLT,Int.reduceLE,Int.reduceToNat]
 rw [if_neg h5]
 rw [decide_eq_false h5]at g5
 have e0:(List.map (fun r=>AV.sl 1 (List.map (fun z=>i64 z) r)) (r :: rs))[0]? = some (.sl 1 (r.map fun z=>i64 z)):=rfl
 obtain ⟨c,hc⟩:∃c,c=r.length:=⟨_,rfl⟩
 rw [←hc]at g4 g5 h4 h5 ⊢
 obtain ⟨R,hR⟩:∃R,R=r :: rs:=⟨_,rfl⟩
 rw [←hR]at e0 h3 g3 ⊢
 clear hR
 have hR21:R.length≤21:=by omega
 obtain ⟨E,hE⟩:∃E,E=rowsE c R:=⟨_,rfl⟩
 rw [←hE]
 have hc6:c≤6:=by omega
 refine ACalls.of ⟨8,[],[]⟩ (fn:=Tryz.f101) Tryz.func101 rfl rfl rfl (by kernel_rfl) (by kernel_rfl) (Nat.le_of_ble_eq_true rfl) ?_
 simp (maxSteps:=1000000) -implicitDefEqProofs only [g1,g2,g3,e0,←hc,g4,g5,List.length_map,go_sem,awp_seq,Nat.reduceBEq,Nat.reduceAdd,Nat.reduceLeDiff,Nat.reduceLT,Int.reduceLE,Int.reduceToNat]
 refine loop_mk (α:={j:Nat // j≤R.length∧E=rowsE c (R.drop j)}) (fun j=>[(1,some (.av (i64 k))),(2,some (.ref 2 0)),(4,some (.av (i64 0))),(5,some (.av (i64 (c:Nat)))),(6,some (.av (i64 (j.1:Nat))))]) (fun _=>[(2,[rowsA R])]) (fun _=>[]) (fun j=>R.length-j.1) ⟨0,Nat.zero_le _,hE⟩ ?_ ?_
 ·simp (maxSteps:=1000000) -implicitDefEqProofs only [go_sem,awp_seq,Nat.reduceBEq,Int.cast_ofNat_Int]
 clear hE
 rintro ⟨j,hj,hE⟩
 by_cases hlt:j<R.length
 case neg =>
  have q1:decide (((j:Nat):Int)<k)=false:=by simp;omega
  rw [List.drop_of_length_le (by omega)]at hE
  have hE:E=0:=hE
  subst hE
  simp (maxSteps:=1000000) -implicitDefEqProofs only [q1,go_sem,awp_seq,Nat.reduceBEq,Nat.reduceLeDiff,Nat.reduceLT]
 have q1:decide (((j:Nat):Int)<k)=true:=by simp;omega
 have e1:=map_get (fun r:List Int=>AV.sl 1 (r.map fun z=>i64 z)) R hlt
 have w1:IntKind.i64.wrap ((j:Int)+1)=((j+1:Nat):Int):=by rw [IntWalk.i64_in _ (by omega)];omega
 rw [List.drop_eq_getElem_cons hlt]at hE
 generalize R[j]=l at *
 have C:=row19_c l c hc6
 unfold rowsE at hE
 by_cases h6:l.length≠c
 ·rw [if_pos h6]at hE C
  subst hE
  simp (maxSteps:=1000000) -implicitDefEqProofs only [q1,e1,List.length_map,Int.toNat_natCast,Int.natCast_nonneg,go_sem,awp_seq,Nat.reduceBEq,Nat.reduceLeDiff,Nat.reduceLT]
  refine callA_tt C ?_
  simp (maxSteps:=1000000) -implicitDefEqProofs only [go_sem,awp_seq,Nat.reduceBEq,Nat.reduceLeDiff,Nat.reduceLT,Int.reduceBNe]
 rw [if_neg h6]at hE C
 by_cases h7:rowE l 0≠0
 ·rw [if_pos h7]at hE
  rw [←hE]at C h7
  have q2:(E != 0)=true:=by simpa using h7
  simp (maxSteps:=1000000) -implicitDefEqProofs only [q1,e1,List.length_map,Int.toNat_natCast,Int.natCast_nonneg,go_sem,awp_seq,Nat.reduceBEq,Nat.reduceLeDiff,Nat.reduceLT]
  refine callA_tt C ?_
  simp (maxSteps:=1000000) -implicitDefEqProofs only [q2,go_sem,awp_seq,Nat.reduceBEq,Nat.reduceLeDiff,Nat.reduceLT]
 rw [if_neg h7]at hE
 rw [Classical.not_not.1 h7]at C
 simp (maxSteps:=1000000) -implicitDefEqProofs only [q1,e1,List.length_map,Int.toNat_natCast,Int.natCast_nonneg,go_sem,awp_seq,Nat.reduceBEq,Nat.reduceLeDiff,Nat.reduceLT]
 refine callA_tt C ?_
 simp (maxSteps:=1000000) -implicitDefEqProofs only [w1,go_sem,awp_seq,Nat.reduceBEq,Nat.reduceLeDiff,Nat.reduceLT]
 refine roundK_mk ⟨j+1,by omega,hE⟩ ?_ (by show R.length-(j+1)<R.length-j;omega)
 simp (maxSteps:=1000000) -implicitDefEqProofs only [go_sem,awp_seq,Nat.reduceBEq]
theorem within_bif (a lo hi e:Int):(bif decide (a<lo) then 3 else bif decide (hi<a) then 3 else e)=bif !(withinB a lo hi) then 3 else e:=by
 unfold withinB
 by_cases h1:a<lo
 ·rw [decide_eq_true h1,decide_eq_false (show ¬lo≤a by omega)];rfl
 ·by_cases h2:hi<a
  ·rw [decide_eq_false h1,decide_eq_true h2,decide_eq_true (show lo≤a by omega),decide_eq_false (show ¬a≤hi by omega)];rfl
  ·rw [decide_eq_false h1,decide_eq_false h2,decide_eq_true (show lo≤a by omega),decide_eq_true (show a≤hi by omega)];rfl
set_option maxHeartbeats 2000000 in
theorem item33_c (y:PI) (k:Int):AT 74 [itA y,i64 k] (i64 (itE y k)):=by
 obtain ⟨id,s1,n0,n1,n2,n3,n4,n5,rows⟩:=y
 have C:=r13_c s1
 have M:=model19_c rows k
 have W0:=within33_c n0 0 9999999
 have W1:=within33_c n1 0 9999999
 have W2:=within33_c n2 0 2000
 have W3:=within33_c n3 1 2000
 have W4:=within33_c n4 1 5
 have W5:=within33_c n5 0 10
 show AT 74 [.agg [i64 id,str s1,i64 n0,i64 n1,i64 n2,i64 n3,i64 n4,i64 n5,rowsA rows],i64 k] (i64 (itE (id,s1,n0,n1,n2,n3,n4,n5,rows) k))
 unfold itE
 dsimp only
 rw [within_bif,within_bif,within_bif,within_bif,within_bif,within_bif]
 rw [←content_r13]at C
 generalize modelE rows k=e at *
 generalize (rows.map fun r=>AV.sl 1 (r.map fun z=>i64 z))=R at *
 generalize contentB s1=cb at *
 generalize withinB n0 0 9999999=b0 at *
 generalize withinB n1 0 9999999=b1 at *
 generalize withinB n2 0 2000=b2 at *
 generalize withinB n3 1 2000=b3 at *
 generalize withinB n4 1 5=b4 at *
 generalize withinB n5 0 10=b5 at *
 cases cb with
 | false =>
  refine ACalls.of ⟨5,[],[]⟩ (fn:=Tryz.f74) Tryz.func74 rfl rfl rfl (by kernel_rfl) (by kernel_rfl) (Nat.le_of_ble_eq_true rfl) ?_
  simp (maxSteps:=1000000) -implicitDefEqProofs only [go_sem,awp_seq,Nat.reduceBEq,Nat.reduceAdd,Nat.reduceLT]
  refine callA_tt C ?_
  simp (maxSteps:=1000000) -implicitDefEqProofs only [Bool.not_false,go_sem,awp_seq,Nat.reduceBEq,Nat.reduceLeDiff,Nat.reduceLT]
 | true =>
 cases b0 with
 | false =>
  refine ACalls.of ⟨5,[],[]⟩ (fn:=Tryz.f74) Tryz.func74 rfl rfl rfl (by kernel_rfl) (by kernel_rfl) (Nat.le_of_ble_eq_true rfl) ?_
  simp (maxSteps:=1000000) -implicitDefEqProofs only [go_sem,awp_seq,Nat.reduceBEq,Nat.reduceAdd,Nat.reduceLT]
  refine callA_tt C ?_
  simp (maxSteps:=1000000) -implicitDefEqProofs only [Bool.not_true,go_sem,awp_seq,Nat.reduceBEq,Nat.reduceLeDiff,Nat.reduceLT]
  refine callA_tt W0 ?_
  simp (maxSteps:=1000000) -implicitDefEqProofs only [Bool.not_true,Bool.not_false,go_sem,awp_seq,Nat.reduceBEq,Nat.reduceLeDiff,Nat.reduceLT]
 | true =>
 cases b1 with
 | false =>
  refine ACalls.of ⟨5,[],[]⟩ (fn:=Tryz.f74) Tryz.func74 rfl rfl rfl (by kernel_rfl) (by kernel_rfl) (Nat.le_of_ble_eq_true rfl) ?_
  simp (maxSteps:=1000000) -implicitDefEqProofs only [go_sem,awp_seq,Nat.reduceBEq,Nat.reduceAdd,Nat.reduceLT]
  refine callA_tt C ?_
  simp (maxSteps:=1000000) -implicitDefEqProofs only [Bool.not_true,go_sem,awp_seq,Nat.reduceBEq,Nat.reduceLeDiff,Nat.reduceLT]
  refine callA_tt W0 ?_
  simp (maxSteps:=1000000) -implicitDefEqProofs only [Bool.not_true,Bool.not_false,go_sem,awp_seq,Nat.reduceBEq]
  refine callA_tt W1 ?_
  simp (maxSteps:=1000000) -implicitDefEqProofs only [Bool.not_true,Bool.not_false,go_sem,awp_seq,Nat.reduceBEq,Nat.reduceLeDiff,Nat.reduceLT]
 | true =>
 cases b2 with
 | false =>
  refine ACalls.of ⟨5,[],[]⟩ (fn:=Tryz.f74) Tryz.func74 rfl rfl rfl (by kernel_rfl) (by kernel_rfl) (Nat.le_of_ble_eq_true rfl) ?_
  simp (maxSteps:=1000000) -implicitDefEqProofs only [go_sem,awp_seq,Nat.reduceBEq,Nat.reduceAdd,Nat.reduceLT]
  refine callA_tt C ?_
  simp (maxSteps:=1000000) -implicitDefEqProofs only [Bool.not_true,go_sem,awp_seq,Nat.reduceBEq,Nat.reduceLeDiff,Nat.reduceLT]
  refine callA_tt W0 ?_
  simp (maxSteps:=1000000) -implicitDefEqProofs only [Bool.not_true,Bool.not_false,go_sem,awp_seq,Nat.reduceBEq]
  refine callA_tt W1 ?_
  simp (maxSteps:=1000000) -implicitDefEqProofs only [Bool.not_true,Bool.not_false,go_sem,awp_seq,Nat.reduceBEq,Nat.reduceLeDiff,Nat.reduceLT]
  refine callA_tt W2 ?_
  simp (maxSteps:=1000000) -implicitDefEqProofs only [Bool.not_true,Bool.not_false,go_sem,awp_seq,Nat.reduceBEq,Nat.reduceLeDiff,Nat.reduceLT]
 | true =>
 cases b3 with
 | false =>
  refine ACalls.of ⟨5,[],[]⟩ (fn:=Tryz.f74) Tryz.func74 rfl rfl rfl (by kernel_rfl) (by kernel_rfl) (Nat.le_of_ble_eq_true rfl) ?_
  simp (maxSteps:=1000000) -implicitDefEqProofs only [go_sem,awp_seq,Nat.reduceBEq,Nat.reduceAdd,Nat.reduceLT]
  refine callA_tt C ?_
  simp (maxSteps:=1000000) -implicitDefEqProofs only [Bool.not_true,go_sem,awp_seq,Nat.reduceBEq,Nat.reduceLeDiff,Nat.reduceLT]
  refine callA_tt W0 ?_
  simp (maxSteps:=1000000) -implicitDefEqProofs only [Bool.not_true,Bool.not_false,go_sem,awp_seq,Nat.reduceBEq]
  refine callA_tt W1 ?_
  simp (maxSteps:=1000000) -implicitDefEqProofs only [Bool.not_true,Bool.not_false,go_sem,awp_seq,Nat.reduceBEq,Nat.reduceLeDiff,Nat.reduceLT]
  refine callA_tt W2 ?_
  simp (maxSteps:=1000000) -implicitDefEqProofs only [Bool.not_true,Bool.not_false,go_sem,awp_seq,Nat.reduceBEq,Nat.reduceLeDiff,Nat.reduceLT]
  refine callA_tt W3 ?_
  simp (maxSteps:=1000000) -implicitDefEqProofs only [Bool.not_true,Bool.not_false,go_sem,awp_seq,Nat.reduceBEq,Nat.reduceLeDiff,Nat.reduceLT]
 | true =>
 cases b4 with
 | false =>
  refine ACalls.of ⟨5,[],[]⟩ (fn:=Tryz.f74) Tryz.func74 rfl rfl rfl (by kernel_rfl) (by kernel_rfl) (Nat.le_of_ble_eq_true rfl) ?_
  simp (maxSteps:=1000000) -implicitDefEqProofs only [go_sem,awp_seq,Nat.reduceBEq,Nat.reduceAdd,Nat.reduceLT]
  refine callA_tt C ?_
  simp (maxSteps:=1000000) -implicitDefEqProofs only [Bool.not_true,go_sem,awp_seq,Nat.reduceBEq,Nat.reduceLeDiff,Nat.reduceLT]
  refine callA_tt W0 ?_
  simp (maxSteps:=1000000) -implicitDefEqProofs only [Bool.not_true,Bool.not_false,go_sem,awp_seq,Nat.reduceBEq]
  refine callA_tt W1 ?_
  simp (maxSteps:=1000000) -implicitDefEqProofs only [Bool.not_true,Bool.not_false,go_sem,awp_seq,Nat.reduceBEq,Nat.reduceLeDiff,Nat.reduceLT]
  refine callA_tt W2 ?_
  simp (maxSteps:=1000000) -implicitDefEqProofs only [Bool.not_true,Bool.not_false,go_sem,awp_seq,Nat.reduceBEq,Nat.reduceLeDiff,Nat.reduceLT]
  refine callA_tt W3 ?_
  simp (maxSteps:=1000000) -implicitDefEqProofs only [Bool.not_true,Bool.not_false,go_sem,awp_seq,Nat.reduceBEq,Nat.reduceLeDiff,Nat.reduceLT]
  refine callA_tt W4 ?_
  simp (maxSteps:=1000000) -implicitDefEqProofs only [Bool.not_true,Bool.not_false,go_sem,awp_seq,Nat.reduceBEq,Nat.reduceLeDiff,Nat.reduceLT]
 | true =>
 cases b5 with
 | false =>
  refine ACalls.of ⟨5,[],[]⟩ (fn:=Tryz.f74) Tryz.func74 rfl rfl rfl (by kernel_rfl) (by kernel_rfl) (Nat.le_of_ble_eq_true rfl) ?_
  simp (maxSteps:=1000000) -implicitDefEqProofs only [go_sem,awp_seq,Nat.reduceBEq,Nat.reduceAdd,Nat.reduceLT]
  refine callA_tt C ?_
  simp (maxSteps:=1000000) -implicitDefEqProofs only [Bool.not_true,go_sem,awp_seq,Nat.reduceBEq,Nat.reduceLeDiff,Nat.reduceLT]
  refine callA_tt W0 ?_
  simp (maxSteps:=1000000) -implicitDefEqProofs only [Bool.not_true,Bool.not_false,go_sem,awp_seq,Nat.reduceBEq]
  refine callA_tt W1 ?_
  simp (maxSteps:=1000000) -implicitDefEqProofs only [Bool.not_true,Bool.not_false,go_sem,awp_seq,Nat.reduceBEq,Nat.reduceLeDiff,Nat.reduceLT]
  refine callA_tt W2 ?_
  simp (maxSteps:=1000000) -implicitDefEqProofs only [Bool.not_true,Bool.not_false,go_sem,awp_seq,Nat.reduceBEq,Nat.reduceLeDiff,Nat.reduceLT]
  refine callA_tt W3 ?_
  simp (maxSteps:=1000000) -implicitDefEqProofs only [Bool.not_true,Bool.not_false,go_sem,awp_seq,Nat.reduceBEq,Nat.reduceLeDiff,Nat.reduceLT]
  refine callA_tt W4 ?_
  simp (maxSteps:=1000000) -implicitDefEqProofs only [Bool.not_true,Bool.not_false,go_sem,awp_seq,Nat.reduceBEq,Nat.reduceLeDiff,Nat.reduceLT]
  refine callA_tt W5 ?_
  simp (maxSteps:=1000000) -implicitDefEqProofs only [Bool.not_true,Bool.not_false,go_sem,awp_seq,Nat.reduceBEq,Nat.reduceLeDiff,Nat.reduceLT]
 | true =>
 refine ACalls.of ⟨5,[],[]⟩ (fn:=Tryz.f74) Tryz.func74 rfl rfl rfl (by kernel_rfl) (by kernel_rfl) (Nat.le_of_ble_eq_true rfl) ?_
 simp (maxSteps:=1000000) -implicitDefEqProofs only [go_sem,awp_seq,Nat.reduceBEq,Nat.reduceAdd,Nat.reduceLT]
 refine callA_tt C ?_
 simp (maxSteps:=1000000) -implicitDefEqProofs only [Bool.not_true,go_sem,awp_seq,Nat.reduceBEq,Nat.reduceLeDiff,Nat.reduceLT]
 refine callA_tt W0 ?_
 simp (maxSteps:=1000000) -implicitDefEqProofs only [Bool.not_true,Bool.not_false,go_sem,awp_seq,Nat.reduceBEq]
 refine callA_tt W1 ?_
 simp (maxSteps:=1000000) -implicitDefEqProofs only [Bool.not_true,Bool.not_false,go_sem,awp_seq,Nat.reduceBEq,Nat.reduceLeDiff,Nat.reduceLT]
 refine callA_tt W2 ?_
 simp (maxSteps:=1000000) -implicitDefEqProofs only [Bool.not_true,Bool.not_false,go_sem,awp_seq,Nat.reduceBEq,Nat.reduceLeDiff,Nat.reduceLT]
 refine callA_tt W3 ?_
 simp (maxSteps:=1000000) -implicitDefEqProofs only [Bool.not_true,Bool.not_false,go_sem,awp_seq,Nat.reduceBEq,Nat.reduceLeDiff,Nat.reduceLT]
 refine callA_tt W4 ?_
 simp (maxSteps:=1000000) -implicitDefEqProofs only [Bool.not_true,Bool.not_false,go_sem,awp_seq,Nat.reduceBEq,Nat.reduceLeDiff,Nat.reduceLT]
 refine callA_tt W5 ?_
 simp (maxSteps:=1000000) -implicitDefEqProofs only [Bool.not_true,Bool.not_false,go_sem,awp_seq,Nat.reduceBEq,Nat.reduceLeDiff,Nat.reduceLT]
 refine callA_tt M ?_
 simp (maxSteps:=1000000) -implicitDefEqProofs only [go_sem,awp_seq,Nat.reduceBEq]
set_option maxHeartbeats 4000000 in
theorem check33_w (pool:List PI) (k:Int):AT 51 [.sl 9 (pool.map itA),i64 k] (i64 (poolE pool k)):=by
 unfold poolE
 have g0:decide ((18:Int)<(pool.length:Nat))=decide (18<pool.length):=decide_eq_decide.2 (by omega)
 by_cases h0:18<pool.length
 ·rw [if_pos h0]
  rw [decide_eq_true h0]at g0
  refine ACalls.of ⟨43,[],[]⟩ (fn:=Tryz.f51) Tryz.func51 rfl rfl rfl (by kernel_rfl) (by kernel_rfl) (Nat.le_of_ble_eq_true rfl) ?_
  simp (maxSteps:=1000000) -implicitDefEqProofs only [g0,List.length_map,go_sem,awp_seq,Nat.reduceBEq,Nat.reduceAdd,Nat.reduceLT]
 rw [if_neg h0]
 rw [decide_eq_false h0]at g0
 obtain ⟨B,hB⟩:∃B,B=idsE pool 0:=⟨_,rfl⟩
 obtain ⟨E,hE⟩:∃E,E=itsE k pool:=⟨_,rfl⟩
 rw [←hB,←hE]
 refine ACalls.of ⟨43,[],[]⟩ (fn:=Tryz.f51) Tryz.func51 rfl rfl rfl (by kernel_rfl) (by kernel_rfl) (Nat.le_of_ble_eq_true rfl) ?_
 simp (maxSteps:=1000000) -implicitDefEqProofs only [g0,List.length_map,go_sem,awp_seq,Nat.reduceBEq,Nat.reduceAdd,Nat.reduceLT]
 refine loop_mk (α:={x:Nat × Int // AtId pool B x}) (fun x=>[(0,some (.av (.sl 9 (pool.map itA)))),(1,some (.av (i64 k))),(4,some (.av (i64 0))),(13,some (.av (.sl 9 (pool.map itA)))),(14,some (.av (i64 (pool.length:Nat)))),(15,some (.av (i64 (x.1.1:Nat))))]) (fun _=>[]) (fun _=>[]) (fun x=>pool.length-x.1.1) ⟨(0,0),Nat.zero_le _,hB,.inl ⟨rfl,rfl⟩⟩ ?_ ?_
 ·simp (maxSteps:=1000000) -implicitDefEqProofs only [go_sem,awp_seq,Nat.reduceBEq,Int.cast_ofNat_Int]
 clear hB
 rintro ⟨⟨j,a⟩,hj,hB,hp⟩
 dsimp only at hj hB hp
 by_cases hlt:j<pool.length
 ·have q1:decide (((j:Nat):Int)<(pool.length:Nat))=true:=by simp;omega
  have e1:=map_get itA pool hlt
  have w1:IntKind.i64.wrap ((j:Int)+1)=((j+1:Nat):Int):=by rw [IntWalk.i64_in _ (by omega)];omega
  have e3:pool[j]? = some pool[j]:=List.getElem?_eq_getElem hlt
  rw [List.drop_eq_getElem_cons hlt]at hB
  generalize pool[j]=y at *
  have N:AT 23 [i64 y.1,i64 1,i64 9999999] (boo (numB y.1)):=within33_c y.1 1 9999999
  unfold idsE at hB
  cases hn:numB y.1 with
  | false =>
   rw [hn,if_pos rfl]at hB
   subst hB
   rw [hn]at N
   simp (maxSteps:=1000000) -implicitDefEqProofs only [q1,e1,Int.toNat_natCast,Int.natCast_nonneg,go_sem,awp_seq,Nat.reduceBEq,Nat.reduceAdd,Nat.reduceLT]
   refine callA_tt N ?_
   simp (maxSteps:=1000000) -implicitDefEqProofs only [Bool.not_false,go_sem,awp_seq,Nat.reduceBNe,Nat.reduceBEq,Nat.reduceLT]
  | true =>
   rw [hn,if_neg (by simp)]at hB
   rw [hn]at N
   rcases hp with ⟨h00,rfl⟩|⟨hp0,y',hy,rfl⟩
   ·have hy1:¬y.1≤0:=by
     unfold numB at hn
     have:=(Bool.and_eq_true_iff.1 hn).1
     simp at this
     omega
    rw [if_neg hy1]at hB
    have q2:decide ((0:Int)<((j:Nat):Int))=false:=by simp;omega
    simp (maxSteps:=1000000) -implicitDefEqProofs only [q1,e1,Int.toNat_natCast,Int.natCast_nonneg,go_sem,awp_seq,Nat.reduceBEq,Nat.reduceAdd,Nat.reduceLT]
    refine callA_tt N ?_
    simp (maxSteps:=1000000) -implicitDefEqProofs only [Bool.not_true,q2,w1,go_sem,awp_seq,Nat.reduceBNe,Nat.reduceBEq,Nat.reduceLT]
    refine roundK_mk ⟨(j+1,y.1),hlt,hB,.inr ⟨Nat.succ_pos _,y,e3,rfl⟩⟩ ?_ (by show pool.length-(j+1)<pool.length-j;omega)
    simp (maxSteps:=1000000) -implicitDefEqProofs only [go_sem,awp_seq,Nat.reduceBEq]
   ·have q2:decide ((0:Int)<((j:Nat):Int))=true:=by simp;omega
    have w2:IntKind.i64.wrap ((j:Int)-1)=((j-1:Nat):Int):=by rw [IntWalk.i64_in _ (by omega)];omega
    have e2:(pool.map itA)[j-1]? = some (itA y'):=by rw [List.getElem?_map,hy];rfl
    by_cases hle:y.1≤y'.1
    ·rw [if_pos hle]at hB
     subst hB
     have q3:=decide_eq_true hle
     simp (maxSteps:=1000000) -implicitDefEqProofs only [q1,e1,Int.toNat_natCast,Int.natCast_nonneg,go_sem,awp_seq,Nat.reduceBEq,Nat.reduceAdd,Nat.reduceLT]
     refine callA_tt N ?_
     simp (maxSteps:=1000000) -implicitDefEqProofs only [Bool.not_true,q2,q3,w2,e2,Int.toNat_natCast,Int.natCast_nonneg,go_sem,awp_seq,Nat.reduceBNe,Nat.reduceBEq,Nat.reduceLT]
    ·rw [if_neg hle]at hB
     have q3:=decide_eq_false hle
     simp (maxSteps:=1000000) -implicitDefEqProofs only [q1,e1,Int.toNat_natCast,Int.natCast_nonneg,go_sem,awp_seq,Nat.reduceBEq,Nat.reduceAdd,Nat.reduceLT]
     refine callA_tt N ?_
     simp (maxSteps:=1000000) -implicitDefEqProofs only [Bool.not_true,q2,q3,w1,w2,e2,Int.toNat_natCast,Int.natCast_nonneg,go_sem,awp_seq,Nat.reduceBNe,Nat.reduceBEq,Nat.reduceLT]
     refine roundK_mk ⟨(j+1,y.1),by show j+1≤_;omega,hB,.inr ⟨Nat.succ_pos _,y,e3,rfl⟩⟩ ?_ (by show pool.length-(j+1)<pool.length-j;omega)
     simp (maxSteps:=1000000) -implicitDefEqProofs only [go_sem,awp_seq,Nat.reduceBEq]
 have q1:decide (((j:Nat):Int)<(pool.length:Nat))=false:=by simp;omega
 rw [List.drop_of_length_le (by omega)]at hB
 have hB:B=true:=hB
 subst hB
 simp (maxSteps:=1000000) -implicitDefEqProofs only [q1,List.length_map,go_sem,awp_seq,Nat.reduceBEq,Nat.reduceLT]
 refine loop_mk (α:={i:Nat // i≤pool.length∧E=itsE k (pool.drop i)}) (fun i=>[(0,some (.av (.sl 9 (pool.map itA)))),(1,some (.av (i64 k))),(4,some (.av (i64 0))),(40,some (.av (.sl 9 (pool.map itA)))),(41,some (.av (i64 (pool.length:Nat)))),(42,some (.av (i64 (i.1:Nat))))]) (fun _=>[]) (fun _=>[]) (fun i=>pool.length-i.1) ⟨0,Nat.zero_le _,hE⟩ ?_ ?_
 ·simp (maxSteps:=1000000) -implicitDefEqProofs only [go_sem,awp_seq,Nat.reduceBEq,Int.cast_ofNat_Int]
 clear hE hp q1
 rintro ⟨i,hi,hE⟩
 by_cases hlt:i<pool.length
 ·have q1:decide (((i:Nat):Int)<(pool.length:Nat))=true:=by simp;omega
  have e1:=map_get itA pool hlt
  have w1:IntKind.i64.wrap ((i:Int)+1)=((i+1:Nat):Int):=by rw [IntWalk.i64_in _ (by omega)];omega
  rw [List.drop_eq_getElem_cons hlt]at hE
  generalize pool[i]=y at *
  have C:=item33_c y k
  unfold itsE at hE
  by_cases he:itE y k≠0
  ·rw [if_pos he]at hE
   rw [←hE]at C he
   have q2:(E != 0)=true:=by simpa using he
   simp (maxSteps:=1000000) -implicitDefEqProofs only [q1,e1,Int.toNat_natCast,Int.natCast_nonneg,go_sem,awp_seq,Nat.reduceBEq,Nat.reduceAdd,Nat.reduceLeDiff,Nat.reduceLT]
   refine callA_tt C ?_
   simp (maxSteps:=1000000) -implicitDefEqProofs only [q2,go_sem,awp_seq,Nat.reduceBEq,Nat.reduceLeDiff,Nat.reduceLT]
   rfl
  ·rw [if_neg he]at hE
   rw [Classical.not_not.1 he]at C
   simp (maxSteps:=1000000) -implicitDefEqProofs only [q1,e1,Int.toNat_natCast,Int.natCast_nonneg,go_sem,awp_seq,Nat.reduceBEq,Nat.reduceAdd,Nat.reduceLeDiff,Nat.reduceLT]
   refine callA_tt C ?_
   simp (maxSteps:=1000000) -implicitDefEqProofs only [w1,go_sem,awp_seq,Nat.reduceBEq,Nat.reduceLeDiff,Nat.reduceLT]
   refine roundK_mk ⟨i+1,hlt,hE⟩ ?_ (by show pool.length-(i+1)<pool.length-i;omega)
   simp (maxSteps:=1000000) -implicitDefEqProofs only [go_sem,awp_seq,Nat.reduceBEq]
 ·have q1:decide (((i:Nat):Int)<(pool.length:Nat))=false:=by simp;omega
  rw [List.drop_of_length_le (by omega)]at hE
  have hE:E=0:=hE
  subst hE
  simp (maxSteps:=1000000) -implicitDefEqProofs only [q1,go_sem,awp_seq,Nat.reduceBEq,Nat.reduceLT]
  rfl
end Go.Proofs.YtmegoiaijfeilaaGreatDoor
set_option linter.unusedSimpArgs false
set_option linter.unusedVariables false
namespace Go.Proofs.YtmegoiaijfeilaaGreatDoor
open Go.RowKit Lim
theorem in33_c (l:List Int) (x:Int) (hl:l.length≤1048576):AT 53 [.sl 1 (l.map fun z=>i64 z),i64 x] (boo (decide (x∈l))):=by
 obtain ⟨R,hR⟩:∃R,R=decide (x∈l):=⟨_,rfl⟩
 rw [←hR]
 refine ACalls.of ⟨10,[],[]⟩ (fn:=Tryz.f53) Tryz.func53 rfl rfl rfl (by kernel_rfl) (by kernel_rfl) (Nat.le_of_ble_eq_true rfl) ?_
 simp (maxSteps:=1000000) -implicitDefEqProofs only [List.length_map,go_sem,awp_seq,Nat.reduceBNe,Nat.reduceBEq,Nat.reduceAdd,Nat.reduceSub,Nat.reduceMul,Nat.reduceLeDiff,Nat.reduceLT,Nat.reduceEqDiff,Nat.reduceBneDiff,Int.reduceLE,Int.reduceLT,Int.reduceToNat,Int.reduceBEq,Int.reduceBNe,Int.reduceAdd,Int.reduceSub,Int.cast_ofNat_Int]
 refine loop_mk (α:={k:Nat // k≤l.length∧R=decide (x∈l.drop k)}) (fun k=>[(0,some (.av (.sl 1 (l.map fun z=>i64 z)))),(1,some (.av (i64 x))),(4,some (.av (boo false))),(7,some (.av (.sl 1 (l.map fun z=>i64 z)))),(8,some (.av (i64 (l.length:Nat)))),(9,some (.av (i64 (k.1:Nat))))]) (fun _=>[]) (fun _=>[]) (fun k=>l.length-k.1) ⟨0,Nat.zero_le _,hR⟩ ?_ ?_
 ·simp (maxSteps:=1000000) -implicitDefEqProofs only [go_sem,awp_seq,Nat.reduceBNe,Nat.reduceBEq,Nat.reduceAdd,Nat.reduceSub,Nat.reduceMul,Nat.reduceLeDiff,Nat.reduceLT,Nat.reduceEqDiff,Nat.reduceBneDiff,Int.reduceLE,Int.reduceLT,Int.reduceToNat,Int.reduceBEq,Int.reduceBNe,Int.reduceAdd,Int.reduceSub,Int.cast_ofNat_Int]
 ·clear hR
  rintro ⟨k,hk,hR⟩
  by_cases hlt:k<l.length
  ·have g1:decide (((k:Nat):Int)<(l.length:Nat))=true:=by simp;omega
   have e1:=map_get (fun z=>i64 z) l hlt
   have w1:IntKind.i64.wrap ((k:Int)+1)=((k+1:Nat):Int):=by rw [IntWalk.i64_in _ (by omega)];omega
   rw [List.drop_eq_getElem_cons hlt]at hR
   generalize l[k]=y at *
   by_cases hy:y=x
   ·subst hy
    have hR:R=true:=by rw [hR];simp
    subst hR
    have c:(y == y)=true:=beq_self_eq_true y
    simp (maxSteps:=1000000) -implicitDefEqProofs only [g1,e1,c,Int.toNat_natCast,Int.natCast_nonneg,go_sem,awp_seq,Nat.reduceBNe,Nat.reduceBEq,Nat.reduceAdd,Nat.reduceSub,Nat.reduceMul,Nat.reduceLeDiff,Nat.reduceLT,Nat.reduceEqDiff,Nat.reduceBneDiff,Int.reduceLE,Int.reduceLT,Int.reduceToNat,Int.reduceBEq,Int.reduceBNe,Int.reduceAdd,Int.reduceSub,Int.cast_ofNat_Int]
   ·have c:(y == x)=false:=by simpa using hy
    have hR:R=decide (x∈l.drop (k+1)):=by
     rw [hR]
     have:¬x=y:=fun e=>hy e.symm
     simp [this]
    simp (maxSteps:=1000000) -implicitDefEqProofs only [g1,e1,c,w1,Int.toNat_natCast,Int.natCast_nonneg,go_sem,awp_seq,Nat.reduceBNe,Nat.reduceBEq,Nat.reduceAdd,Nat.reduceSub,Nat.reduceMul,Nat.reduceLeDiff,Nat.reduceLT,Nat.reduceEqDiff,Nat.reduceBneDiff,Int.reduceLE,Int.reduceLT,Int.reduceToNat,Int.reduceBEq,Int.reduceBNe,Int.reduceAdd,Int.reduceSub,Int.cast_ofNat_Int]
    refine roundK_mk ⟨k+1,by omega,hR⟩ ?_ (by show l.length-(k+1)<l.length-k;omega)
    simp (maxSteps:=1000000) -implicitDefEqProofs only [go_sem,awp_seq,Nat.reduceBNe,Nat.reduceBEq,Nat.reduceAdd,Nat.reduceSub,Nat.reduceMul,Nat.reduceLeDiff,Nat.reduceLT,Nat.reduceEqDiff,Nat.reduceBneDiff,Int.reduceLE,Int.reduceLT,Int.reduceToNat,Int.reduceBEq,Int.reduceBNe,Int.reduceAdd,Int.reduceSub,Int.cast_ofNat_Int]
  ·have g1:decide (((k:Nat):Int)<(l.length:Nat))=false:=by simp;omega
   rw [List.drop_of_length_le (by omega)]at hR
   have hR:R=false:=by rw [hR];simp
   subst hR
   simp (maxSteps:=1000000) -implicitDefEqProofs only [g1,go_sem,awp_seq,Nat.reduceBNe,Nat.reduceBEq,Nat.reduceAdd,Nat.reduceSub,Nat.reduceMul,Nat.reduceLeDiff,Nat.reduceLT,Nat.reduceEqDiff,Nat.reduceBneDiff,Int.reduceLE,Int.reduceLT,Int.reduceToNat,Int.reduceBEq,Int.reduceBNe,Int.reduceAdd,Int.reduceSub,Int.cast_ofNat_Int]
set_option maxHeartbeats 1000000 in
theorem ids33_c (pool:List PI) (hl:pool.length≤1048576):AT 28 [.sl 9 (pool.map itA)] (.sl 1 ((pool.map (·.1)).map fun z=>i64 z)):=by
 obtain ⟨L,hL⟩:∃L,L=pool.map (·.1):=⟨_,rfl⟩
 rw [←hL]
 refine ACalls.of ⟨9,[],[]⟩ (fn:=Tryz.f28) Tryz.func28 rfl rfl rfl (by kernel_rfl) (by kernel_rfl) (Nat.le_of_ble_eq_true rfl) ?_
 simp (maxSteps:=1000000) -implicitDefEqProofs only [List.length_map,go_sem,awp_seq,Nat.reduceBNe,Nat.reduceBEq,Nat.reduceAdd,Nat.reduceSub,Nat.reduceMul,Nat.reduceLeDiff,Nat.reduceLT,Nat.reduceEqDiff,Nat.reduceBneDiff,Int.reduceLE,Int.reduceLT,Int.reduceToNat,Int.reduceBEq,Int.reduceBNe,Int.reduceAdd,Int.reduceSub,Int.cast_ofNat_Int]
 refine loop_mk (α:={x:Nat × List Int // x.1≤pool.length∧L=x.2 ++ (pool.drop x.1).map (·.1)∧x.2.length≤x.1}) (fun x=>[(0,some (.av (.sl 9 (pool.map itA)))),(2,some (.av (.lit (.slice none 0 0)))),(3,some (bif x.1.2.isEmpty then .av (.lit (.slice none 0 0)) else .osl 16 1 0 x.1.2.length)),(6,some (.av (.sl 9 (pool.map itA)))),(7,some (.av (i64 (pool.length:Nat)))),(8,some (.av (i64 (x.1.1:Nat))))]) (fun _=>[]) (fun x=>bif x.1.2.isEmpty then [] else [(16,.row 3 1 (x.1.2.map fun z=>i64 z))]) (fun x=>pool.length-x.1.1) ⟨(0,[]),Nat.zero_le _,hL,Nat.le_refl _⟩ ?_ ?_
 ·simp (maxSteps:=1000000) -implicitDefEqProofs only [List.isEmpty_nil,cond_true,go_sem,awp_seq,Nat.reduceBNe,Nat.reduceBEq,Nat.reduceAdd,Nat.reduceSub,Nat.reduceMul,Nat.reduceLeDiff,Nat.reduceLT,Nat.reduceEqDiff,Nat.reduceBneDiff,Int.reduceLE,Int.reduceLT,Int.reduceToNat,Int.reduceBEq,Int.reduceBNe,Int.reduceAdd,Int.reduceSub,Int.cast_ofNat_Int]
 clear hL
 rintro ⟨⟨k,acc⟩,hk,hL,hacc⟩
 dsimp only at hk hL hacc
 by_cases hlt:k<pool.length
 ·have g1:decide (((k:Nat):Int)<(pool.length:Nat))=true:=by simp;omega
  have e1:=map_get itA pool hlt
  have w1:IntKind.i64.wrap ((k:Int)+1)=((k+1:Nat):Int):=by rw [IntWalk.i64_in _ (by omega)];omega
  rw [List.drop_eq_getElem_cons hlt,List.map_cons]at hL
  generalize pool[k]=y at *
  have hL:L=(acc ++ [y.1]) ++ (pool.drop (k+1)).map (·.1):=by rw [hL,List.append_assoc];rfl
  cases acc with
  | nil =>
   simp (maxSteps:=1000000) -implicitDefEqProofs only [g1,e1,w1,List.isEmpty_nil,cond_true,List.length_cons,List.length_map,Int.toNat_natCast,Int.natCast_nonneg,go_sem,awp_seq,Nat.reduceBNe,Nat.reduceBEq,Nat.reduceAdd,Nat.reduceSub,Nat.reduceMul,Nat.reduceLeDiff,Nat.reduceLT,Nat.reduceEqDiff,Nat.reduceBneDiff,Int.reduceLE,Int.reduceLT,Int.reduceToNat,Int.reduceBEq,Int.reduceBNe,Int.reduceAdd,Int.reduceSub,Int.cast_ofNat_Int]
   refine roundK_mk ⟨(k+1,[y.1]),by show k+1≤_;omega,hL,by show 1≤k+1;omega⟩ ?_ (by show pool.length-(k+1)<pool.length-k;omega)
   simp (maxSteps:=1000000) -implicitDefEqProofs only [List.isEmpty_cons,cond_false,List.map_cons,List.map_nil,List.length_cons,List.length_nil,go_sem,awp_seq,Nat.reduceBNe,Nat.reduceBEq,Nat.reduceAdd,Nat.reduceSub,Nat.reduceMul,Nat.reduceLeDiff,Nat.reduceLT,Nat.reduceEqDiff,Nat.reduceBneDiff,Int.reduceLE,Int.reduceLT,Int.reduceToNat,Int.reduceBEq,Int.reduceBNe,Int.reduceAdd,Int.reduceSub,Int.cast_ofNat_Int]
  | cons z zs =>
   simp (maxSteps:=1000000) -implicitDefEqProofs only [g1,e1,w1,List.isEmpty_cons,cond_false,List.length_cons,List.length_map,Int.toNat_natCast,Int.natCast_nonneg,go_sem,awp_seq,Nat.reduceBNe,Nat.reduceBEq,Nat.reduceAdd,Nat.reduceSub,Nat.reduceMul,Nat.reduceLeDiff,Nat.reduceLT,Nat.reduceEqDiff,Nat.reduceBneDiff,Int.reduceLE,Int.reduceLT,Int.reduceToNat,Int.reduceBEq,Int.reduceBNe,Int.reduceAdd,Int.reduceSub,Int.cast_ofNat_Int]
   simp only [List.length_cons,List.length_map]at hacc ⊢
   refine ⟨by omega,by omega,?_⟩
   refine roundK_mk ⟨(k+1,z :: zs ++ [y.1]),by show k+1≤_;omega,hL,by show (z :: zs ++ [y.1]).length≤k+1;simp;omega⟩ ?_ (by show pool.length-(k+1)<pool.length-k;omega)
   simp (maxSteps:=1000000) -implicitDefEqProofs only [List.isEmpty_cons,List.cons_append,cond_false,List.map_append,List.map_cons,List.map_nil,List.length_cons,List.length_append,List.length_nil,go_sem,awp_seq,Nat.reduceBNe,Nat.reduceBEq,Nat.reduceAdd,Nat.reduceSub,Nat.reduceMul,Nat.reduceLeDiff,Nat.reduceLT,Nat.reduceEqDiff,Nat.reduceBneDiff,Int.reduceLE,Int.reduceLT,Int.reduceToNat,Int.reduceBEq,Int.reduceBNe,Int.reduceAdd,Int.reduceSub,Int.cast_ofNat_Int]
 ·have g1:decide (((k:Nat):Int)<(pool.length:Nat))=false:=by simp;omega
  rw [List.drop_of_length_le (by omega)]at hL
  have hL:L=acc:=by rw [hL];simp
  subst hL
  cases L with
  | nil=>simp (maxSteps:=1000000) -implicitDefEqProofs only [g1,List.isEmpty_nil,cond_true,List.map_nil,go_sem,awp_seq,Nat.reduceBNe,Nat.reduceBEq,Nat.reduceAdd,Nat.reduceSub,Nat.reduceMul,Nat.reduceLeDiff,Nat.reduceLT,Nat.reduceEqDiff,Nat.reduceBneDiff,Int.reduceLE,Int.reduceLT,Int.reduceToNat,Int.reduceBEq,Int.reduceBNe,Int.reduceAdd,Int.reduceSub,Int.cast_ofNat_Int]
  | cons z zs =>
   simp (maxSteps:=1000000) -implicitDefEqProofs only [g1,List.isEmpty_cons,cond_false,List.length_cons,List.map_cons,go_sem,awp_seq,Nat.reduceBNe,Nat.reduceBEq,Nat.reduceAdd,Nat.reduceSub,Nat.reduceMul,Nat.reduceLeDiff,Nat.reduceLT,Nat.reduceEqDiff,Nat.reduceBneDiff,Int.reduceLE,Int.reduceLT,Int.reduceToNat,Int.reduceBEq,Int.reduceBNe,Int.reduceAdd,Int.reduceSub,Int.cast_ofNat_Int]
   exact ⟨by simp,by rw [List.take_of_length_le (by simp)]⟩
end Go.Proofs.YtmegoiaijfeilaaGreatDoor
set_option linter.unusedSimpArgs false
set_option linter.unusedVariables false
namespace Go.Proofs.YtmegoiaijfeilaaGreatDoor
open Go.RowKit Lim
theorem pick_two (pool:List PI):∀(ch:List Int) (acc:List PI),(pickE pool ch acc).2=if ch.all (fun c=>decide (c∈pool.map (·.1))) then 0 else 6
 | [],_=>rfl
 | c :: l,acc=>by
  unfold pickE
  cases h:pool.find? (idP c)with
  | none =>
   have:¬c∈pool.map (·.1):=fun hc=>by
    obtain ⟨y,hy,rfl⟩:=List.mem_map.1 hc
    have:=List.find?_eq_none.1 h y hy
    simp [idP]at this
   simp only [List.all_cons,decide_eq_false this,Bool.false_and]
   rfl
  | some y =>
   have hy:=List.mem_of_find?_eq_some h
   have hi:=List.find?_some h
   have:c∈pool.map (·.1):=List.mem_map.2 ⟨y,hy,by simpa [idP]using hi⟩
   simp only [List.all_cons,decide_eq_true this,Bool.true_and]
   exact pick_two pool l _
theorem sel_two (pool:List PI) (ch:List Int):(selE pool ch).2=if risesB ch then (if ch.all (fun c=>decide (c∈pool.map (·.1))) then 0 else 6) else 23:=by
 unfold selE
 cases risesB ch with
 | true=>exact pick_two pool ch []
 | false=>rfl
set_option maxHeartbeats 2000000 in
theorem sel33_c (pool:List PI) (ch:List Int) (hl:pool.length≤1048576) (hc:ch.length≤1048576):AT 38 [.sl 9 (pool.map itA),.sl 1 (ch.map fun z=>i64 z)] (i64 (selE pool ch).2):=by
 rw [sel_two]
 obtain ⟨B,hB⟩:∃B,B=risesB ch:=⟨_,rfl⟩
 obtain ⟨P,hP⟩:∃P:Int→Bool,P=fun c=>decide (c∈pool.map (·.1)):=⟨_,rfl⟩
 have I:=ids33_c pool hl
 have N:∀c,AT 53 [.sl 1 ((pool.map (·.1)).map fun z=>i64 z),i64 c] (boo (P c)):=fun c=>by rw [hP];exact in33_c (pool.map (·.1)) c (by simpa using hl)
 rw [←hP,←hB]
 obtain ⟨D,hD⟩:∃D,D=ch.all P:=⟨_,rfl⟩
 rw [←hD]
 clear hP
 generalize ((pool.map (·.1)).map fun z=>i64 z)=IDS at *
 generalize pool.map itA=PL at *
 refine ACalls.of ⟨31,[],[]⟩ (fn:=Tryz.f38) Tryz.func38 rfl rfl rfl (by kernel_rfl) (by kernel_rfl) (Nat.le_of_ble_eq_true rfl) ?_
 simp (maxSteps:=1000000) -implicitDefEqProofs only [List.length_map,go_sem,awp_seq,Nat.reduceBEq,Nat.reduceAdd,Nat.reduceLT]
 refine loop_mk (α:={i:Nat // i≤ch.length∧B=risesB (ch.drop (i-1))}) (fun i=>[(0,some (.av (.sl 9 PL))),(1,some (.av (.sl 1 (ch.map fun z=>i64 z)))),(4,some (.av (i64 0))),(9,some (.av (.sl 1 (ch.map fun z=>i64 z)))),(10,some (.av (i64 (ch.length:Nat)))),(11,some (.av (i64 (i.1:Nat))))]) (fun _=>[]) (fun _=>[]) (fun i=>ch.length-i.1) ⟨0,Nat.zero_le _,hB⟩ ?_ ?_
 ·simp (maxSteps:=1000000) -implicitDefEqProofs only [go_sem,awp_seq,Nat.reduceBEq,Int.cast_ofNat_Int]
 clear hB
 rintro ⟨i,hi,hB⟩
 by_cases hlt:i<ch.length
 ·have q1:decide (((i:Nat):Int)<(ch.length:Nat))=true:=by simp;omega
  have e1:=map_get (fun z=>i64 z) ch hlt
  have w1:IntKind.i64.wrap ((i:Int)+1)=((i+1:Nat):Int):=by rw [IntWalk.i64_in _ (by omega)];omega
  by_cases h0:i=0
  ·have q2:decide ((0:Int)<((i:Nat):Int))=false:=by simp;omega
   have hB:B=risesB (ch.drop (i+1-1)):=by rw [hB,h0]
   generalize ch[i]=y at *
   simp (maxSteps:=1000000) -implicitDefEqProofs only [q1,q2,e1,w1,Int.toNat_natCast,Int.natCast_nonneg,go_sem,awp_seq,Nat.reduceBEq,Nat.reduceLT]
   refine roundK_mk ⟨i+1,hlt,hB⟩ ?_ (by show ch.length-(i+1)<ch.length-i;omega)
   simp (maxSteps:=1000000) -implicitDefEqProofs only [go_sem,awp_seq,Nat.reduceBEq]
  ·have q2:decide ((0:Int)<((i:Nat):Int))=true:=by simp;omega
   have w2:IntKind.i64.wrap ((i:Int)-1)=((i-1:Nat):Int):=by rw [IntWalk.i64_in _ (by omega)];omega
   have e2:=map_get (fun z=>i64 z) ch (show i-1<ch.length by omega)
   have st:=rises_step (l:=ch) (k:=i-1) (by omega)
   have e3:ch[i-1+1]'(by omega)=ch[i]:=by congr 1;omega
   rw [e3]at st
   rw [st]at hB
   generalize ch[i]=y at *
   generalize ch[i-1]=x at *
   by_cases hle:y≤x
   ·rw [decide_eq_false (show ¬x<y by omega),Bool.false_and]at hB
    subst hB
    have q3:=decide_eq_true hle
    simp (maxSteps:=1000000) -implicitDefEqProofs only [q1,q2,q3,e1,e2,w2,Int.toNat_natCast,Int.natCast_nonneg,go_sem,awp_seq,Nat.reduceBEq,Nat.reduceLT]
   ·rw [decide_eq_true (show x<y by omega),Bool.true_and]at hB
    have hB:B=risesB (ch.drop (i+1-1)):=by rw [hB];congr 2;omega
    have q3:=decide_eq_false hle
    simp (maxSteps:=1000000) -implicitDefEqProofs only [q1,q2,q3,e1,e2,w1,w2,Int.toNat_natCast,Int.natCast_nonneg,go_sem,awp_seq,Nat.reduceBEq,Nat.reduceLT]
    refine roundK_mk ⟨i+1,hlt,hB⟩ ?_ (by show ch.length-(i+1)<ch.length-i;omega)
    simp (maxSteps:=1000000) -implicitDefEqProofs only [go_sem,awp_seq,Nat.reduceBEq]
 have q1:decide (((i:Nat):Int)<(ch.length:Nat))=false:=by simp;omega
 have hB:B=true:=by rw [hB];exact rises_end (by omega)
 subst hB
 simp (maxSteps:=1000000) -implicitDefEqProofs only [q1,List.length_map,go_sem,awp_seq,Nat.reduceBEq,Nat.reduceLT]
 refine loop_mk (α:={j:Nat // j≤ch.length∧D=(ch.drop j).all P}) (fun j=>[(0,some (.av (.sl 9 PL))),(1,some (.av (.sl 1 (ch.map fun z=>i64 z)))),(4,some (.av (i64 0))),(28,some (.av (.sl 1 (ch.map fun z=>i64 z)))),(29,some (.av (i64 (ch.length:Nat)))),(30,some (.av (i64 (j.1:Nat))))]) (fun _=>[]) (fun _=>[]) (fun j=>ch.length-j.1) ⟨0,Nat.zero_le _,hD⟩ ?_ ?_
 ·simp (maxSteps:=1000000) -implicitDefEqProofs only [go_sem,awp_seq,Nat.reduceBEq,Int.cast_ofNat_Int]
 clear hD q1
 rintro ⟨j,hj,hD⟩
 by_cases hlt:j<ch.length
 ·have q1:decide (((j:Nat):Int)<(ch.length:Nat))=true:=by simp;omega
  have e1:=map_get (fun z=>i64 z) ch hlt
  have w1:IntKind.i64.wrap ((j:Int)+1)=((j+1:Nat):Int):=by rw [IntWalk.i64_in _ (by omega)];omega
  rw [List.drop_eq_getElem_cons hlt,List.all_cons]at hD
  generalize ch[j]=y at *
  have N:=N y
  cases hp:P y with
  | true =>
   rw [hp]at N
   rw [hp,Bool.true_and]at hD
   simp (maxSteps:=1000000) -implicitDefEqProofs only [q1,e1,Int.toNat_natCast,Int.natCast_nonneg,go_sem,awp_seq,Nat.reduceBEq,Nat.reduceLeDiff,Nat.reduceLT]
   refine callA_tt I ?_
   simp (maxSteps:=1000000) -implicitDefEqProofs only [go_sem,awp_seq,Nat.reduceBEq]
   refine callA_tt N ?_
   simp (maxSteps:=1000000) -implicitDefEqProofs only [w1,Bool.not_true,go_sem,awp_seq,Nat.reduceBEq,Nat.reduceLeDiff,Nat.reduceLT]
   refine roundK_mk ⟨j+1,hlt,hD⟩ ?_ (by show ch.length-(j+1)<ch.length-j;omega)
   simp (maxSteps:=1000000) -implicitDefEqProofs only [go_sem,awp_seq,Nat.reduceBEq]
  | false =>
   rw [hp]at N
   rw [hp,Bool.false_and]at hD
   subst hD
   simp (maxSteps:=1000000) -implicitDefEqProofs only [q1,e1,Int.toNat_natCast,Int.natCast_nonneg,go_sem,awp_seq,Nat.reduceBEq,Nat.reduceLeDiff,Nat.reduceLT]
   refine callA_tt I ?_
   simp (maxSteps:=1000000) -implicitDefEqProofs only [go_sem,awp_seq,Nat.reduceBEq]
   refine callA_tt N ?_
   simp (maxSteps:=1000000) -implicitDefEqProofs only [Bool.not_false,go_sem,awp_seq,Nat.reduceBEq,Nat.reduceLeDiff,Nat.reduceLT]
 ·have q1:decide (((j:Nat):Int)<(ch.length:Nat))=false:=by simp;omega
  rw [List.drop_of_length_le (by omega)]at hD
  have hD:D=true:=hD
  subst hD
  simp (maxSteps:=1000000) -implicitDefEqProofs only [q1,go_sem,awp_seq,Nat.reduceBEq,Nat.reduceLT]
end Go.Proofs.YtmegoiaijfeilaaGreatDoor
set_option linter.unusedSimpArgs false
set_option linter.unusedVariables false
namespace Go.Proofs.YtmegoiaijfeilaaGreatDoor
open Go.RowKit Lim
theorem pre_dot (a b:List UInt8) (h:b.length<a.length):Lib.hasPrefix a (b ++ [46])=(a.take b.length == b && a[b.length] == 46):=by
 rw [←Lib.hasPrefix_of_take,List.length_append,List.length_singleton,decide_eq_true (show b.length+1≤a.length by omega),Bool.true_and,List.take_add_one,List.getElem?_eq_getElem h,Option.toList_some]
 generalize a[b.length]=x
 have hl:(a.take b.length).length=b.length:=by simp;omega
 generalize a.take b.length=c at *
 rw [Bool.eq_iff_iff]
 simp only [Bool.and_eq_true,beq_iff_eq]
 constructor
 ·intro e
  obtain ⟨e1,e2⟩:=List.append_inj e hl
  exact ⟨e1,by simpa using e2⟩
 ·rintro ⟨rfl,rfl⟩;rfl
theorem pre_short (a b:List UInt8) (h:¬b.length<a.length):Lib.hasPrefix a (b ++ [46])=false:=by
 rw [←Lib.hasPrefix_of_take,List.length_append,List.length_singleton,decide_eq_false (show ¬b.length+1≤a.length by omega),Bool.false_and]
theorem slice_str {z:List AV} {n:Nat} {k:TV→Prop} (s:List UInt8) {c:Nat} (h:c≤s.length) (hk:k (.av (str (s.take c)))):sliceK ⟨.str,z,n⟩ (.av (str s)) none (some (.av (i64 (c:Nat)))) k:=by
 refine ⟨_,⟨0,c,⟨⟨by omega,by rw [bs_size];omega,by simp⟩,rfl⟩,rfl⟩,?_⟩
 rw [bs_take]
 exact hk
theorem dot46 (x:UInt8):(((x.toNat:Nat):Int) == 46)=(x == 46):=by
 rw [Bool.eq_iff_iff,beq_iff_eq,beq_iff_eq]
 constructor
 ·intro h
  exact UInt8.toNat_inj.1 (show x.toNat=46 by omega)
 ·rintro rfl;rfl
theorem under13_c (a b:List UInt8):AT 102 [str a,str b] (boo (underB a b)):=by
 unfold underB
 cases c1:(b == [])with
 | true =>
  refine ACalls.of ⟨5,[],[]⟩ (fn:=Tryz.f102) Tryz.func102 rfl rfl rfl (by kernel_rfl) (by kernel_rfl) (Nat.le_of_ble_eq_true rfl) ?_
  simp (maxSteps:=1000000) -implicitDefEqProofs only [mk_bs,toList_bs,c1,Bool.true_or,go_sem,awp_seq,Nat.reduceBEq,Nat.reduceAdd,Nat.reduceLeDiff,Nat.reduceLT]
 | false =>
  cases c2:(a == b)with
  | true =>
   refine ACalls.of ⟨5,[],[]⟩ (fn:=Tryz.f102) Tryz.func102 rfl rfl rfl (by kernel_rfl) (by kernel_rfl) (Nat.le_of_ble_eq_true rfl) ?_
   simp (maxSteps:=1000000) -implicitDefEqProofs only [mk_bs,toList_bs,c1,c2,Bool.true_or,Bool.false_or,go_sem,awp_seq,Nat.reduceBEq,Nat.reduceAdd,Nat.reduceLeDiff,Nat.reduceLT]
  | false =>
   by_cases h:b.length<a.length
   ·have g1:decide (((b.length:Nat):Int)<(a.length:Nat))=true:=by simp;omega
    rw [pre_dot a b h]
    cases c3:(a.take b.length == b)with
    | false =>
     refine ACalls.of ⟨5,[],[]⟩ (fn:=Tryz.f102) Tryz.func102 rfl rfl rfl (by kernel_rfl) (by kernel_rfl) (Nat.le_of_ble_eq_true rfl) ?_
     simp (maxSteps:=1000000) -implicitDefEqProofs only [mk_bs,toList_bs,bs_size,c1,c2,g1,Bool.false_or,Bool.false_and,Int.toNat_natCast,Int.natCast_nonneg,go_sem,awp_seq,Nat.reduceBEq,Nat.reduceAdd,Nat.reduceLeDiff,Nat.reduceLT]
     refine slice_str a (by omega) ?_
     simp (maxSteps:=1000000) -implicitDefEqProofs only [toList_bs,mk_bs,c3,go_sem,awp_seq,Nat.reduceBEq]
    | true =>
     have e1:a[b.length]? = some a[b.length]:=List.getElem?_eq_getElem h
     have d:=dot46 a[b.length]
     generalize a[b.length]=x at *
     rw [Bool.true_and]
     generalize (x == 46)=v at *
     refine ACalls.of ⟨5,[],[]⟩ (fn:=Tryz.f102) Tryz.func102 rfl rfl rfl (by kernel_rfl) (by kernel_rfl) (Nat.le_of_ble_eq_true rfl) ?_
     simp (maxSteps:=1000000) -implicitDefEqProofs only [mk_bs,toList_bs,bs_size,c1,c2,g1,Bool.false_or,Int.toNat_natCast,Int.natCast_nonneg,go_sem,awp_seq,Nat.reduceBEq,Nat.reduceAdd,Nat.reduceLeDiff,Nat.reduceLT]
     refine slice_str a (by omega) ?_
     simp (maxSteps:=1000000) -implicitDefEqProofs only [toList_bs,mk_bs,bs_size,strK_bs,c3,e1,d,Int.toNat_natCast,Int.natCast_nonneg,go_sem,awp_seq,Nat.reduceBEq]
   ·have g1:decide (((b.length:Nat):Int)<(a.length:Nat))=false:=by simp;omega
    rw [pre_short a b h]
    refine ACalls.of ⟨5,[],[]⟩ (fn:=Tryz.f102) Tryz.func102 rfl rfl rfl (by kernel_rfl) (by kernel_rfl) (Nat.le_of_ble_eq_true rfl) ?_
    simp (maxSteps:=1000000) -implicitDefEqProofs only [mk_bs,toList_bs,bs_size,c1,c2,g1,Bool.false_or,go_sem,awp_seq,Nat.reduceBEq,Nat.reduceAdd,Nat.reduceLeDiff,Nat.reduceLT]
def coefE (r:RuleV) (y:PI):Int :=
 if r.k=6 then setM r.n y else if r.k=7∨r.k=8 then oneI (y.1 == r.n) else if r.k=9 then 0 else msr r y
theorem coef1_c (n lo hi:Int) (code:List UInt8) (y:PI):AT 75 [ruleA ⟨1,n,lo,hi,code⟩,itA y] (i64 (oneI (underB y.2.1 code))):=by
 obtain ⟨id,s1,n0,n1,n2,n3,n4,n5,rows⟩:=y
 have U:=under13_c s1 code
 show AT 75 [.agg [i64 1,i64 n,i64 lo,i64 hi,str code],.agg [i64 id,str s1,i64 n0,i64 n1,i64 n2,i64 n3,i64 n4,i64 n5,rowsA rows]] _
 generalize (rows.map fun r=>AV.sl 1 (r.map fun z=>i64 z))=R
 dsimp only
 generalize underB s1 code=b at *
 cases b with
 | true =>
  refine ACalls.of ⟨42,[],[]⟩ (fn:=Tryz.f75) Tryz.func75 rfl rfl rfl (by kernel_rfl) (by kernel_rfl) (Nat.le_of_ble_eq_true rfl) ?_
  simp (maxSteps:=1000000) -implicitDefEqProofs only [go_sem,awp_seq,Nat.reduceBNe,Nat.reduceBEq,Nat.reduceAdd,Nat.reduceLT,Nat.reduceEqDiff,Int.reduceBEq]
  refine callA_tt U ?_
  simp (maxSteps:=1000000) -implicitDefEqProofs only [go_sem,awp_seq,Nat.reduceBNe,Nat.reduceBEq,Nat.reduceLeDiff,Nat.reduceLT]
  rfl
 | false =>
  refine ACalls.of ⟨42,[],[]⟩ (fn:=Tryz.f75) Tryz.func75 rfl rfl rfl (by kernel_rfl) (by kernel_rfl) (Nat.le_of_ble_eq_true rfl) ?_
  simp (maxSteps:=1000000) -implicitDefEqProofs only [go_sem,awp_seq,Nat.reduceBNe,Nat.reduceBEq,Nat.reduceAdd,Nat.reduceLT,Nat.reduceEqDiff,Int.reduceBEq]
  refine callA_tt U ?_
  simp (maxSteps:=1000000) -implicitDefEqProofs only [go_sem,awp_seq,Nat.reduceBNe,Nat.reduceBEq,Nat.reduceLeDiff,Nat.reduceLT]
  rfl
theorem coef2_c (n lo hi:Int) (code:List UInt8) (y:PI):AT 75 [ruleA ⟨2,n,lo,hi,code⟩,itA y] (i64 (y.2.2.2.2.1)):=by
 obtain ⟨id,s1,n0,n1,n2,n3,n4,n5,rows⟩:=y
 show AT 75 [.agg [i64 2,i64 n,i64 lo,i64 hi,str code],.agg [i64 id,str s1,i64 n0,i64 n1,i64 n2,i64 n3,i64 n4,i64 n5,rowsA rows]] _
 generalize (rows.map fun r=>AV.sl 1 (r.map fun z=>i64 z))=R
 refine ACalls.of ⟨42,[],[]⟩ (fn:=Tryz.f75) Tryz.func75 rfl rfl rfl (by kernel_rfl) (by kernel_rfl) (Nat.le_of_ble_eq_true rfl) ?_
 simp (maxSteps:=1000000) -implicitDefEqProofs only [go_sem,awp_seq,Nat.reduceBNe,Nat.reduceBEq,Nat.reduceAdd,Nat.reduceLT,Nat.reduceEqDiff,Int.reduceBEq]
theorem coef3_c (n lo hi:Int) (code:List UInt8) (y:PI):AT 75 [ruleA ⟨3,n,lo,hi,code⟩,itA y] (i64 (y.2.2.2.2.2.1)):=by
 obtain ⟨id,s1,n0,n1,n2,n3,n4,n5,rows⟩:=y
 show AT 75 [.agg [i64 3,i64 n,i64 lo,i64 hi,str code],.agg [i64 id,str s1,i64 n0,i64 n1,i64 n2,i64 n3,i64 n4,i64 n5,rowsA rows]] _
 generalize (rows.map fun r=>AV.sl 1 (r.map fun z=>i64 z))=R
 refine ACalls.of ⟨42,[],[]⟩ (fn:=Tryz.f75) Tryz.func75 rfl rfl rfl (by kernel_rfl) (by kernel_rfl) (Nat.le_of_ble_eq_true rfl) ?_
 simp (maxSteps:=1000000) -implicitDefEqProofs only [go_sem,awp_seq,Nat.reduceBNe,Nat.reduceBEq,Nat.reduceAdd,Nat.reduceLT,Nat.reduceEqDiff,Int.reduceBEq]
theorem coef4_c (n lo hi:Int) (code:List UInt8) (y:PI):AT 75 [ruleA ⟨4,n,lo,hi,code⟩,itA y] (i64 (y.2.2.2.2.2.2.1)):=by
 obtain ⟨id,s1,n0,n1,n2,n3,n4,n5,rows⟩:=y
 show AT 75 [.agg [i64 4,i64 n,i64 lo,i64 hi,str code],.agg [i64 id,str s1,i64 n0,i64 n1,i64 n2,i64 n3,i64 n4,i64 n5,rowsA rows]] _
 generalize (rows.map fun r=>AV.sl 1 (r.map fun z=>i64 z))=R
 refine ACalls.of ⟨42,[],[]⟩ (fn:=Tryz.f75) Tryz.func75 rfl rfl rfl (by kernel_rfl) (by kernel_rfl) (Nat.le_of_ble_eq_true rfl) ?_
 simp (maxSteps:=1000000) -implicitDefEqProofs only [go_sem,awp_seq,Nat.reduceBNe,Nat.reduceBEq,Nat.reduceAdd,Nat.reduceLT,Nat.reduceEqDiff,Int.reduceBEq]
theorem coef5_c (n lo hi:Int) (code:List UInt8) (y:PI):AT 75 [ruleA ⟨5,n,lo,hi,code⟩,itA y] (i64 (oneI (y.2.2.2.2.2.2.2.1 == n))):=by
 obtain ⟨id,s1,n0,n1,n2,n3,n4,n5,rows⟩:=y
 show AT 75 [.agg [i64 5,i64 n,i64 lo,i64 hi,str code],.agg [i64 id,str s1,i64 n0,i64 n1,i64 n2,i64 n3,i64 n4,i64 n5,rowsA rows]] _
 generalize (rows.map fun r=>AV.sl 1 (r.map fun z=>i64 z))=R
 dsimp only
 cases hb:(n5 == n)with
 | true =>
  refine ACalls.of ⟨42,[],[]⟩ (fn:=Tryz.f75) Tryz.func75 rfl rfl rfl (by kernel_rfl) (by kernel_rfl) (Nat.le_of_ble_eq_true rfl) ?_
  simp (maxSteps:=1000000) -implicitDefEqProofs only [hb,go_sem,awp_seq,Nat.reduceBNe,Nat.reduceBEq,Nat.reduceAdd,Nat.reduceLeDiff,Nat.reduceLT,Nat.reduceEqDiff,Int.reduceBEq]
  rfl
 | false =>
  refine ACalls.of ⟨42,[],[]⟩ (fn:=Tryz.f75) Tryz.func75 rfl rfl rfl (by kernel_rfl) (by kernel_rfl) (Nat.le_of_ble_eq_true rfl) ?_
  simp (maxSteps:=1000000) -implicitDefEqProofs only [hb,go_sem,awp_seq,Nat.reduceBNe,Nat.reduceBEq,Nat.reduceAdd,Nat.reduceLeDiff,Nat.reduceLT,Nat.reduceEqDiff,Int.reduceBEq]
  rfl
theorem coef6_c (n lo hi:Int) (code:List UInt8) (y:PI):AT 75 [ruleA ⟨6,n,lo,hi,code⟩,itA y] (i64 (oneI (y.2.2.2.1 == n))):=by
 obtain ⟨id,s1,n0,n1,n2,n3,n4,n5,rows⟩:=y
 show AT 75 [.agg [i64 6,i64 n,i64 lo,i64 hi,str code],.agg [i64 id,str s1,i64 n0,i64 n1,i64 n2,i64 n3,i64 n4,i64 n5,rowsA rows]] _
 generalize (rows.map fun r=>AV.sl 1 (r.map fun z=>i64 z))=R
 dsimp only
 cases hb:(n1 == n)with
 | true =>
  refine ACalls.of ⟨42,[],[]⟩ (fn:=Tryz.f75) Tryz.func75 rfl rfl rfl (by kernel_rfl) (by kernel_rfl) (Nat.le_of_ble_eq_true rfl) ?_
  simp (maxSteps:=1000000) -implicitDefEqProofs only [hb,go_sem,awp_seq,Nat.reduceBNe,Nat.reduceBEq,Nat.reduceAdd,Nat.reduceLeDiff,Nat.reduceLT,Nat.reduceEqDiff,Int.reduceBEq]
  rfl
 | false =>
  refine ACalls.of ⟨42,[],[]⟩ (fn:=Tryz.f75) Tryz.func75 rfl rfl rfl (by kernel_rfl) (by kernel_rfl) (Nat.le_of_ble_eq_true rfl) ?_
  simp (maxSteps:=1000000) -implicitDefEqProofs only [hb,go_sem,awp_seq,Nat.reduceBNe,Nat.reduceBEq,Nat.reduceAdd,Nat.reduceLeDiff,Nat.reduceLT,Nat.reduceEqDiff,Int.reduceBEq]
  rfl
theorem coef7_c (n lo hi:Int) (code:List UInt8) (y:PI):AT 75 [ruleA ⟨7,n,lo,hi,code⟩,itA y] (i64 (oneI (y.1 == n))):=by
 obtain ⟨id,s1,n0,n1,n2,n3,n4,n5,rows⟩:=y
 show AT 75 [.agg [i64 7,i64 n,i64 lo,i64 hi,str code],.agg [i64 id,str s1,i64 n0,i64 n1,i64 n2,i64 n3,i64 n4,i64 n5,rowsA rows]] _
 generalize (rows.map fun r=>AV.sl 1 (r.map fun z=>i64 z))=R
 dsimp only
 cases hb:(id == n)with
 | true =>
  refine ACalls.of ⟨42,[],[]⟩ (fn:=Tryz.f75) Tryz.func75 rfl rfl rfl (by kernel_rfl) (by kernel_rfl) (Nat.le_of_ble_eq_true rfl) ?_
  simp (maxSteps:=1000000) -implicitDefEqProofs only [hb,go_sem,awp_seq,Nat.reduceBNe,Nat.reduceBEq,Nat.reduceAdd,Nat.reduceLeDiff,Nat.reduceLT,Nat.reduceEqDiff,Int.reduceBEq]
  rfl
 | false =>
  refine ACalls.of ⟨42,[],[]⟩ (fn:=Tryz.f75) Tryz.func75 rfl rfl rfl (by kernel_rfl) (by kernel_rfl) (Nat.le_of_ble_eq_true rfl) ?_
  simp (maxSteps:=1000000) -implicitDefEqProofs only [hb,go_sem,awp_seq,Nat.reduceBNe,Nat.reduceBEq,Nat.reduceAdd,Nat.reduceLeDiff,Nat.reduceLT,Nat.reduceEqDiff,Int.reduceBEq]
  rfl
theorem coef8_c (n lo hi:Int) (code:List UInt8) (y:PI):AT 75 [ruleA ⟨8,n,lo,hi,code⟩,itA y] (i64 (oneI (y.1 == n))):=by
 obtain ⟨id,s1,n0,n1,n2,n3,n4,n5,rows⟩:=y
 show AT 75 [.agg [i64 8,i64 n,i64 lo,i64 hi,str code],.agg [i64 id,str s1,i64 n0,i64 n1,i64 n2,i64 n3,i64 n4,i64 n5,rowsA rows]] _
 generalize (rows.map fun r=>AV.sl 1 (r.map fun z=>i64 z))=R
 dsimp only
 cases hb:(id == n)with
 | true =>
  refine ACalls.of ⟨42,[],[]⟩ (fn:=Tryz.f75) Tryz.func75 rfl rfl rfl (by kernel_rfl) (by kernel_rfl) (Nat.le_of_ble_eq_true rfl) ?_
  simp (maxSteps:=1000000) -implicitDefEqProofs only [hb,go_sem,awp_seq,Nat.reduceBNe,Nat.reduceBEq,Nat.reduceAdd,Nat.reduceLeDiff,Nat.reduceLT,Nat.reduceEqDiff,Int.reduceBEq]
  rfl
 | false =>
  refine ACalls.of ⟨42,[],[]⟩ (fn:=Tryz.f75) Tryz.func75 rfl rfl rfl (by kernel_rfl) (by kernel_rfl) (Nat.le_of_ble_eq_true rfl) ?_
  simp (maxSteps:=1000000) -implicitDefEqProofs only [hb,go_sem,awp_seq,Nat.reduceBNe,Nat.reduceBEq,Nat.reduceAdd,Nat.reduceLeDiff,Nat.reduceLT,Nat.reduceEqDiff,Int.reduceBEq]
  rfl
theorem coef9_c (n lo hi:Int) (code:List UInt8) (y:PI):AT 75 [ruleA ⟨9,n,lo,hi,code⟩,itA y] (i64 (0)):=by
 obtain ⟨id,s1,n0,n1,n2,n3,n4,n5,rows⟩:=y
 show AT 75 [.agg [i64 9,i64 n,i64 lo,i64 hi,str code],.agg [i64 id,str s1,i64 n0,i64 n1,i64 n2,i64 n3,i64 n4,i64 n5,rowsA rows]] _
 generalize (rows.map fun r=>AV.sl 1 (r.map fun z=>i64 z))=R
 refine ACalls.of ⟨42,[],[]⟩ (fn:=Tryz.f75) Tryz.func75 rfl rfl rfl (by kernel_rfl) (by kernel_rfl) (Nat.le_of_ble_eq_true rfl) ?_
 simp (maxSteps:=1000000) -implicitDefEqProofs only [go_sem,awp_seq,Nat.reduceBNe,Nat.reduceBEq,Nat.reduceAdd,Nat.reduceLeDiff,Nat.reduceLT,Nat.reduceEqDiff,Int.reduceBEq]
theorem coef33_c (r:RuleV) (y:PI) (hd:demOk r=true):AT 75 [ruleA r,itA y] (i64 (coefE r y)):=by
 have h:=dem_kind hd
 clear hd
 obtain ⟨k,n,lo,hi,code⟩:=r
 dsimp only at h
 rcases h with rfl|rfl|rfl|rfl|rfl|rfl|rfl|rfl|rfl
 ·exact coef1_c n lo hi code y
 ·exact coef2_c n lo hi code y
 ·exact coef3_c n lo hi code y
 ·exact coef4_c n lo hi code y
 ·exact coef5_c n lo hi code y
 ·exact coef6_c n lo hi code y
 ·exact coef7_c n lo hi code y
 ·exact coef8_c n lo hi code y
 ·exact coef9_c n lo hi code y
end Go.Proofs.YtmegoiaijfeilaaGreatDoor
set_option linter.unusedSimpArgs false
set_option linter.unusedVariables false
namespace Go.Proofs.YtmegoiaijfeilaaGreatDoor
open Go.RowKit Lim
def sibI (p:PI→Bool) (a:PI) (i:Nat):List PI→Nat→Bool
 | [],_=>false
 | b :: l,k=>(decide (i<k) && (decide (0<a.2.2.1) && (a.2.2.1 == b.2.2.1 && (p a && p b)))) || sibI p a i l (k+1)
def sibO (p:PI→Bool) (pool:List PI):List PI→Nat→Bool
 | [],_=>false
 | a :: l,i=>sibI p a i pool 0 || sibO p pool l (i+1)
theorem sibI_iff (p:PI→Bool) (a:PI) (i:Nat):∀(l:List PI) (k:Nat),sibI p a i l k=true ↔ ∃(j:Nat) (b:PI),l[j]? = some b∧i<k+j∧0<a.2.2.1∧a.2.2.1=b.2.2.1∧p a=true∧p b=true
 | [],k=>by simp [sibI]
 | b :: l,k=>by
  unfold sibI
  rw [Bool.or_eq_true,sibI_iff p a i l (k+1)]
  simp only [Bool.and_eq_true,decide_eq_true_eq,beq_iff_eq]
  constructor
  ·rintro (⟨h1,h2,h3,h4,h5⟩|⟨j,c,h0,h1,h2⟩)
   ·exact ⟨0,b,rfl,h1,h2,h3,h4,h5⟩
   ·exact ⟨j+1,c,h0,by omega,h2⟩
  ·rintro ⟨j,c,h0,h1,h2,h3,h4,h5⟩
   cases j with
   | zero =>
    cases h0
    exact .inl ⟨h1,h2,h3,h4,h5⟩
   | succ j=>exact .inr ⟨j,c,h0,by omega,h2,h3,h4,h5⟩
theorem sibO_iff (p:PI→Bool) (pool:List PI):∀(l:List PI) (i:Nat),sibO p pool l i=true ↔ ∃(u:Nat) (a:PI),l[u]? = some a∧sibI p a (i+u) pool 0=true
 | [],i=>by simp [sibO]
 | a :: l,i=>by
  unfold sibO
  rw [Bool.or_eq_true,sibO_iff p pool l (i+1)]
  constructor
  ·rintro (h|⟨u,c,h0,h1⟩)
   ·exact ⟨0,a,rfl,h⟩
   ·exact ⟨u+1,c,h0,by rw [show i+(u+1)=i+1+u by omega];exact h1⟩
  ·rintro ⟨u,c,h0,h1⟩
   cases u with
   | zero =>
    cases h0
    exact .inl h1
   | succ u=>exact .inr ⟨u,c,h0,by rw [show i+1+u=i+(u+1)by omega];exact h1⟩
theorem fam_cons (p:PI→Bool) (y:PI) (l:List PI) (x:Int):(famL ((y :: l).filter p)).count x=(if p y=true∧0<y.2.2.1∧y.2.2.1=x then 1 else 0)+(famL (l.filter p)).count x:=by
 cases hp:p y with
 | false =>
  rw [List.filter_cons_of_neg (by simp [hp])]
  simp
 | true =>
  rw [List.filter_cons_of_pos hp]
  unfold famL
  rw [List.map_cons]
  by_cases h0:0<y.2.2.1
  ·rw [List.filter_cons_of_pos (by simpa using h0),List.count_cons]
   by_cases hx:y.2.2.1=x
   ·have e2:(y.2.2.1 == x)=true:=by simpa using hx
    rw [e2,if_pos rfl,if_pos (show true=true∧0<y.2.2.1∧y.2.2.1=x from ⟨rfl,h0,hx⟩)]
    omega
   ·have e2:(y.2.2.1 == x)=false:=by simpa using hx
    rw [e2,if_neg (show ¬(true=true∧0<y.2.2.1∧y.2.2.1=x)from fun h=>hx h.2.2)]
    simp
  ·rw [List.filter_cons_of_neg (by simpa using h0),if_neg (fun h=>h0 h.2.1)]
   omega
theorem fam_pos (p:PI→Bool) (x:Int):∀l:List PI,0<(famL (l.filter p)).count x ↔ ∃(j:Nat) (b:PI),l[j]? = some b∧0<x∧b.2.2.1=x∧p b=true
 | []=>by simp [famL]
 | y :: l=>by
  rw [fam_cons]
  have ih:=fam_pos p x l
  constructor
  ·intro h
   by_cases h1:p y=true∧0<y.2.2.1∧y.2.2.1=x
   ·exact ⟨0,y,rfl,h1.2.2 ▸ h1.2.1,h1.2.2,h1.1⟩
   ·rw [if_neg h1]at h
    obtain ⟨j,b,h2,h3⟩:=ih.1 (by omega)
    exact ⟨j+1,b,h2,h3⟩
  ·rintro ⟨j,b,h0,h1,h2,h3⟩
   cases j with
   | zero =>
    cases h0
    rw [if_pos ⟨h3,h2 ▸ h1,h2⟩]
    omega
   | succ j =>
    have:=ih.2 ⟨j,b,h0,h1,h2,h3⟩
    omega
theorem sib_two (p:PI→Bool):∀l:List PI,(∃x,2≤(famL (l.filter p)).count x) ↔ ∃(i j:Nat) (a b:PI),l[i]? = some a∧l[j]? = some b∧i<j∧0<a.2.2.1∧a.2.2.1=b.2.2.1∧p a=true∧p b=true
 | []=>by simp [famL]
 | y :: l=>by
  have ih:=sib_two p l
  constructor
  ·rintro ⟨x,h⟩
   rw [fam_cons]at h
   by_cases h1:p y=true∧0<y.2.2.1∧y.2.2.1=x
   ·rw [if_pos h1]at h
    obtain ⟨j,b,h2,h3,h4,h5⟩:=(fam_pos p x l).1 (by omega)
    exact ⟨0,j+1,y,b,rfl,h2,by omega,h1.2.1,h1.2.2.trans h4.symm,h1.1,h5⟩
   ·rw [if_neg h1]at h
    obtain ⟨i,j,a,b,h2,h3,h4,h5⟩:=ih.1 ⟨x,by omega⟩
    exact ⟨i+1,j+1,a,b,h2,h3,by omega,h5⟩
  ·rintro ⟨i,j,a,b,h0,h1,h2,h3,h4,h5,h6⟩
   obtain ⟨j,rfl⟩:∃j',j=j'+1:=⟨j-1,by omega⟩
   cases i with
   | zero =>
    cases h0
    have:=(fam_pos p y.2.2.1 l).2 ⟨j,b,h1,h3,h4.symm,h6⟩
    exact ⟨y.2.2.1,by rw [fam_cons,if_pos ⟨h5,h3,rfl⟩];omega⟩
   | succ i =>
    obtain ⟨x,hx⟩:=ih.2 ⟨i,j,a,b,h0,h1,by omega,h3,h4,h5,h6⟩
    exact ⟨x,by rw [fam_cons];omega⟩
theorem sib_rep (p:PI→Bool) (pool:List PI):sibO p pool pool 0=!(repE (pool.filter p)).isEmpty:=by
 rw [Bool.eq_iff_iff,rep_iff,sib_two,sibO_iff]
 constructor
 ·rintro ⟨u,a,h0,h1⟩
  obtain ⟨j,b,h2,h3⟩:=(sibI_iff _ _ _ _ _).1 h1
  exact ⟨u,j,a,b,h0,h2,by omega,h3.2⟩
 ·rintro ⟨i,j,a,b,h0,h1,h2,h3⟩
  exact ⟨i,a,h0,(sibI_iff _ _ _ _ _).2 ⟨j,b,h1,by omega,h3⟩⟩
def exc33 (r:RuleV) (p:PI→Bool) (pool:List PI):Bool :=
 if r.k=7 then false else if r.k=8 then decide (0<totE (coefE r) (pool.filter p) 0) else if r.k=9 then sibO p pool pool 0 else decide (r.hi<totE (coefE r) (pool.filter p) 0)
def brk33 (r:RuleV) (p:PI→Bool) (pool:List PI):Bool :=
 if r.k=7 then totE (coefE r) (pool.filter p) 0 == 0 else if r.k=6∧totE (coefE r) (pool.filter p) 0=0 then false else
 exc33 r p pool || decide (totE (coefE r) (pool.filter p) 0<r.lo)
section
variable {k:Int} {pool:List PI} {p:PI→Bool}
theorem coef_rng {y:PI} (h:itE y k=0) (r:RuleV):0≤coefE r y∧coefE r y≤2000:=by
 unfold coefE
 split
 ·exact set_rng _ _
 split
 ·exact one_rng _
 split
 ·decide
 ·exact msr_rng h r
theorem one_has (n:Int):∀l:List PI,(decide (0<sumM (fun y=>oneI (y.1 == n)) l)=hasE l n)∧0≤sumM (fun y=>oneI (y.1 == n)) l
 | []=>⟨rfl,Int.le_refl 0⟩
 | y :: l=>by
  obtain ⟨a,b⟩:=one_has n l
  unfold sumM hasE
  rw [List.find?_cons]
  cases h:idP n y with
  | true =>
   have h':(y.1 == n)=true:=h
   rw [h']
   exact ⟨decide_eq_true (by show 0<(1:Int)+_;omega),by show 0≤(1:Int)+_;omega⟩
  | false =>
   have h':(y.1 == n)=false:=h
   rw [h']
   have e:oneI false+sumM (fun y=>oneI (y.1 == n)) l=sumM (fun y=>oneI (y.1 == n)) l:=by show (0:Int)+_=_;omega
   rw [e]
   exact ⟨a,b⟩
theorem exc_same (h18:pool.length≤18) (hit:∀y∈pool,itE y k=0) (r:RuleV):exc33 r p pool=excE r (pool.filter p):=by
 have ht:=tot_filter h18 (m:=coefE r) (fun y hy=>coef_rng (hit y hy) r) p
 unfold exc33 excE
 by_cases h6:r.k=6
 ·have e:coefE r=setM r.n:=by funext y;unfold coefE;rw [if_pos h6]
  rw [if_neg (by omega),if_neg (by omega),if_neg (by omega),if_pos h6,e]
 rw [if_neg h6]
 by_cases h7:r.k=7
 ·rw [if_pos h7,if_pos h7]
 rw [if_neg h7,if_neg h7]
 by_cases h8:r.k=8
 ·have e:coefE r=fun y=>oneI (y.1 == r.n):=by funext y;unfold coefE;rw [if_neg h6,if_pos (.inr h8)]
  rw [if_pos h8,if_pos h8,ht,e]
  exact (one_has r.n _).1
 rw [if_neg h8,if_neg h8]
 by_cases h9:r.k=9
 ·rw [if_pos h9,if_pos h9,sib_rep]
 rw [if_neg h9,if_neg h9]
 have e:coefE r=msr r:=by funext y;unfold coefE;rw [if_neg h6,if_neg (by omega),if_neg h9]
 rw [e]
theorem dem_lo {r:RuleV} (hr:demOk r=true) (h:r.k=8∨r.k=9):r.lo=0:=by
 unfold demOk at hr
 rcases h with h|h
 ·simp [h]at hr
  omega
 ·simp [h]at hr
  omega
theorem brk_same (h18:pool.length≤18) (hit:∀y∈pool,itE y k=0) (r:RuleV) (hr:demOk r=true):brk33 r p pool=brkE r (pool.filter p):=by
 have ht:=tot_filter h18 (m:=coefE r) (fun y hy=>coef_rng (hit y hy) r) p
 have hx:=exc_same (p:=p) h18 hit r
 have hsn:0≤sumM (coefE r) (pool.filter p):=sum_nonneg fun y hy=>(coef_rng (hit y (List.mem_filter.1 hy).1) r).1
 unfold brk33
 rw [hx]
 unfold brkE excE
 by_cases h6:r.k=6
 ·have e:coefE r=setM r.n:=by funext y;unfold coefE;rw [if_pos h6]
  rw [if_neg (show ¬r.k=7 by omega),if_pos h6,if_pos h6,e]
  generalize totE (setM r.n) (pool.filter p) 0=t
  by_cases h0:t=0
  ·subst h0
   rw [if_pos ⟨h6,rfl⟩]
   rfl
  ·rw [if_neg (fun h=>h0 h.2)]
   have:(t != 0)=true:=by simpa using h0
   rw [this,Bool.true_and,Bool.or_comm]
   rfl
 rw [if_neg (show ¬(r.k=6∧totE (coefE r) (pool.filter p) 0=0)from fun h=>h6 h.1),if_neg h6,if_neg h6]
 by_cases h7:r.k=7
 ·have e:coefE r=fun y=>oneI (y.1 == r.n):=by funext y;unfold coefE;rw [if_neg h6,if_pos (.inl h7)]
  rw [if_pos h7,if_pos h7,ht,e]
  obtain ⟨a,b⟩:=one_has r.n (pool.filter p)
  rw [←a]
  have key:∀t:Int,0≤t→(t == 0)=!decide (0<t):=fun t h=>by
   by_cases h0:t=0
   ·subst h0;rfl
   ·rw [decide_eq_true (by omega),beq_eq_false_iff_ne.2 h0];rfl
  exact key _ b
 rw [if_neg h7,if_neg h7,if_neg h7]
 have hlo:r.k=8∨r.k=9→r.lo=0:=fun h=>dem_lo hr h
 by_cases h8:r.k=8
 ·have e0:decide (totE (coefE r) (pool.filter p) 0<r.lo)=false:=by
   rw [hlo (.inl h8),ht,decide_eq_false (by omega)]
  rw [if_pos h8,if_pos h8,e0,Bool.or_false]
 rw [if_neg h8,if_neg h8]
 by_cases h9:r.k=9
 ·have e0:decide (totE (coefE r) (pool.filter p) 0<r.lo)=false:=by
   rw [hlo (.inr h9),ht,decide_eq_false (by omega)]
  rw [if_pos h9,if_pos h9,e0,Bool.or_false]
 rw [if_neg h9,if_neg h9]
 have e:coefE r=msr r:=by funext y;unfold coefE;rw [if_neg h6,if_neg (by omega),if_neg h9]
 rw [e]
 unfold outB
 rw [Bool.or_comm]
end
end Go.Proofs.YtmegoiaijfeilaaGreatDoor
set_option linter.unusedSimpArgs false
set_option linter.unusedVariables false
namespace Go.Proofs.YtmegoiaijfeilaaGreatDoor
open Go.RowKit Lim
abbrev chP (ch:List Int):PI→Bool:=fun y=>decide (y.1∈ch)
abbrev chA (ch:List Int):AV:=.sl 1 (ch.map fun z=>i64 z)
set_option maxHeartbeats 1000000 in
theorem total33_c (r:RuleV) (pool:List PI) (ch:List Int) (hd:demOk r=true) (hl:pool.length≤1048576) (hc:ch.length≤1048576):AT 68 [ruleA r,.sl 9 (pool.map itA),(.sl 1 (ch.map fun z=>i64 z))] (i64 (totE (coefE r) (pool.filter (chP ch)) 0)):=by
 obtain ⟨R,hR⟩:∃R,R=totE (coefE r) (pool.filter (chP ch)) 0:=⟨_,rfl⟩
 rw [←hR]
 have N:∀y:PI,AT 53 [(.sl 1 (ch.map fun z=>i64 z)),i64 y.1] (boo (chP ch y)):=fun y=>in33_c ch y.1 hc
 have C:∀y:PI,AT 75 [.agg (ruleC r),itA y] (i64 (coefE r y)):=fun y=>coef33_c r y hd
 generalize chP ch=p at *
 generalize (ch.map fun z=>i64 z)=CL at *
 generalize coefE r=m at *
 obtain ⟨r1,r2,r3,r4,r5⟩:=r
 have C:∀y:PI,AT 75 [.agg [i64 r1,i64 r2,i64 r3,i64 r4,str r5],itA y] (i64 (m y)):=C
 clear hd
 show AT 68 [.agg [i64 r1,i64 r2,i64 r3,i64 r4,str r5],.sl 9 (pool.map itA),(.sl 1 CL)] _
 refine ACalls.of ⟨13,[],[]⟩ (fn:=Tryz.f68) Tryz.func68 rfl rfl rfl (by kernel_rfl) (by kernel_rfl) (Nat.le_of_ble_eq_true rfl) ?_
 simp (maxSteps:=1000000) -implicitDefEqProofs only [List.length_map,go_sem,awp_seq,Nat.reduceBEq,Nat.reduceAdd,Nat.reduceLT]
 refine loop_mk (α:={x:Nat × Int // x.1≤pool.length∧R=totE m ((pool.drop x.1).filter p) x.2}) (fun x=>[(0,some (.av (.agg [i64 r1,i64 r2,i64 r3,i64 r4,str r5]))),(1,some (.av (.sl 9 (pool.map itA)))),(2,some (.av (.sl 1 CL))),(3,some (.ref 3 0)),(6,some (.av (i64 0))),(7,some (.av (i64 x.1.2))),(10,some (.av (.sl 9 (pool.map itA)))),(11,some (.av (i64 (pool.length:Nat)))),(12,some (.av (i64 (x.1.1:Nat))))]) (fun _=>[(3,[i64 r1,i64 r2,i64 r3,i64 r4,str r5])]) (fun _=>[]) (fun x=>pool.length-x.1.1) ⟨(0,0),Nat.zero_le _,hR⟩ ?_ ?_
 ·simp (maxSteps:=1000000) -implicitDefEqProofs only [go_sem,awp_seq,Nat.reduceBEq,Int.cast_ofNat_Int]
 clear hR
 rintro ⟨⟨k,s⟩,hk,hR⟩
 dsimp only at hk hR
 by_cases hlt:k<pool.length
 ·have g1:decide (((k:Nat):Int)<(pool.length:Nat))=true:=by simp;omega
  have e1:=map_get itA pool hlt
  have w1:IntKind.i64.wrap ((k:Int)+1)=((k+1:Nat):Int):=by rw [IntWalk.i64_in _ (by omega)];omega
  have N:=N pool[k]
  have C:=C pool[k]
  rw [List.drop_eq_getElem_cons hlt]at hR
  generalize pool[k]=y at *
  cases hp:p y with
  | true =>
   rw [hp]at N
   rw [List.filter_cons_of_pos hp]at hR
   have hR:R=totE m ((pool.drop (k+1)).filter p) (IntKind.i64.wrap (s+m y)):=hR
   simp (maxSteps:=1000000) -implicitDefEqProofs only [g1,e1,Int.toNat_natCast,Int.natCast_nonneg,go_sem,awp_seq,Nat.reduceBEq,Nat.reduceAdd,Nat.reduceLeDiff,Nat.reduceLT,Nat.reduceEqDiff]
   refine callA_t N ?_
   simp (maxSteps:=1000000) -implicitDefEqProofs only [go_sem,awp_seq,Nat.reduceBEq,Nat.reduceAdd,Nat.reduceLeDiff,Nat.reduceLT]
   refine callA_t C ?_
   simp (maxSteps:=1000000) -implicitDefEqProofs only [w1,go_sem,awp_seq,Nat.reduceBEq,Nat.reduceLeDiff,Nat.reduceLT]
   refine roundK_mk ⟨(k+1,IntKind.i64.wrap (s+m y)),by show k+1≤_;omega,hR⟩ ?_ (by show pool.length-(k+1)<pool.length-k;omega)
   simp (maxSteps:=1000000) -implicitDefEqProofs only [go_sem,awp_seq,Nat.reduceBEq]
  | false =>
   rw [hp]at N
   rw [List.filter_cons_of_neg (by simp [hp])]at hR
   simp (maxSteps:=1000000) -implicitDefEqProofs only [g1,e1,Int.toNat_natCast,Int.natCast_nonneg,go_sem,awp_seq,Nat.reduceBEq,Nat.reduceAdd,Nat.reduceLeDiff,Nat.reduceLT,Nat.reduceEqDiff]
   refine callA_t N ?_
   simp (maxSteps:=1000000) -implicitDefEqProofs only [w1,go_sem,awp_seq,Nat.reduceBEq,Nat.reduceLeDiff,Nat.reduceLT]
   refine roundK_mk ⟨(k+1,s),by show k+1≤_;omega,hR⟩ ?_ (by show pool.length-(k+1)<pool.length-k;omega)
   simp (maxSteps:=1000000) -implicitDefEqProofs only [go_sem,awp_seq,Nat.reduceBEq]
 ·have g1:decide (((k:Nat):Int)<(pool.length:Nat))=false:=by simp;omega
  rw [List.drop_of_length_le (by omega)]at hR
  have hR:R=s:=hR
  subst hR
  simp (maxSteps:=1000000) -implicitDefEqProofs only [g1,go_sem,awp_seq,Nat.reduceBEq,Nat.reduceLT]
theorem i_lt (i k:Nat):decide ((i:Int)<(k:Int))=decide (i<k):=decide_eq_decide.2 (by omega)
set_option maxHeartbeats 2000000 in
theorem sib33_c (pool:List PI) (ch:List Int) (hl:pool.length≤1048576) (hc:ch.length≤1048576):AT 69 [.sl 9 (pool.map itA),(.sl 1 (ch.map fun z=>i64 z))] (boo (sibO (chP ch) pool pool 0)):=by
 obtain ⟨R,hR⟩:∃R,R=sibO (chP ch) pool pool 0:=⟨_,rfl⟩
 rw [←hR]
 have N:∀y:PI,AT 53 [(.sl 1 (ch.map fun z=>i64 z)),i64 y.1] (boo (chP ch y)):=fun y=>in33_c ch y.1 hc
 generalize chP ch=p at *
 generalize (ch.map fun z=>i64 z)=CL at *
 refine ACalls.of ⟨19,[],[]⟩ (fn:=Tryz.f69) Tryz.func69 rfl rfl rfl (by kernel_rfl) (by kernel_rfl) (Nat.le_of_ble_eq_true rfl) ?_
 simp (maxSteps:=1000000) -implicitDefEqProofs only [List.length_map,go_sem,awp_seq,Nat.reduceBEq,Nat.reduceAdd,Nat.reduceLT]
 refine loop_mk (α:={i:Nat // i≤pool.length∧R=sibO p pool (pool.drop i) i}) (fun i=>[(0,some (.av (.sl 9 (pool.map itA)))),(1,some (.av (.sl 1 CL))),(4,some (.av (boo false))),(9,some (.av (.sl 9 (pool.map itA)))),(10,some (.av (i64 (pool.length:Nat)))),(11,some (.av (i64 (i.1:Nat))))]) (fun _=>[]) (fun _=>[]) (fun i=>pool.length-i.1) ⟨0,Nat.zero_le _,hR⟩ ?_ ?_
 ·simp (maxSteps:=1000000) -implicitDefEqProofs only [go_sem,awp_seq,Nat.reduceBEq,Int.cast_ofNat_Int]
 clear hR
 rintro ⟨i,hi,hR⟩
 by_cases hlt:i<pool.length
 ·have g1:decide (((i:Nat):Int)<(pool.length:Nat))=true:=by simp;omega
  have e1:=map_get itA pool hlt
  have w1:IntKind.i64.wrap ((i:Int)+1)=((i+1:Nat):Int):=by rw [IntWalk.i64_in _ (by omega)];omega
  rw [List.drop_eq_getElem_cons hlt]at hR
  have NA:=N pool[i]
  generalize pool[i]=a at *
  have hR:R=(sibI p a i pool 0 || sibO p pool (pool.drop (i+1)) (i+1)):=hR
  simp (maxSteps:=1000000) -implicitDefEqProofs only [g1,e1,List.length_map,Int.toNat_natCast,Int.natCast_nonneg,go_sem,awp_seq,Nat.reduceBEq,Nat.reduceAdd,Nat.reduceLT]
  refine loop_mk (α:={k:Nat // k≤pool.length∧R=(sibI p a i (pool.drop k) k || sibO p pool (pool.drop (i+1)) (i+1))}) (fun k=>[(0,some (.av (.sl 9 (pool.map itA)))),(1,some (.av (.sl 1 CL))),(4,some (.av (boo false))),(5,some (.av (i64 (i:Nat)))),(6,some (.ref 6 0)),(9,some (.av (.sl 9 (pool.map itA)))),(10,some (.av (i64 (pool.length:Nat)))),(11,some (.av (i64 (i:Nat)))),(16,some (.av (.sl 9 (pool.map itA)))),(17,some (.av (i64 (pool.length:Nat)))),(18,some (.av (i64 (k.1:Nat))))]) (fun _=>[(6,itC a)]) (fun _=>[]) (fun k=>pool.length-k.1) ⟨0,Nat.zero_le _,hR⟩ ?_ ?_
  ·simp (maxSteps:=1000000) -implicitDefEqProofs only [go_sem,awp_seq,Nat.reduceBEq,Int.cast_ofNat_Int]
  clear hR
  rintro ⟨k,hk,hR⟩
  by_cases hlk:k<pool.length
  ·have h1:decide (((k:Nat):Int)<(pool.length:Nat))=true:=by simp;omega
   have f1:=map_get itA pool hlk
   have u1:IntKind.i64.wrap ((k:Int)+1)=((k+1:Nat):Int):=by rw [IntWalk.i64_in _ (by omega)];omega
   rw [List.drop_eq_getElem_cons hlk]at hR
   have NB:=N pool[k]
   clear N
   generalize pool[k]=b at *
   unfold sibI at hR
   rw [←i_lt]at hR
   have go:∀v,v=false→R=((v || sibI p a i (pool.drop (k+1)) (k+1)) || sibO p pool (pool.drop (i+1)) (i+1))→R=(sibI p a i (pool.drop (k+1)) (k+1) || sibO p pool (pool.drop (i+1)) (i+1)):=fun v hv h=>by rw [h,hv,Bool.false_or]
   cases c1:decide ((i:Int)<(k:Int))with
   | false =>
    have hR:=go _ (by rw [c1,Bool.false_and]) hR
    simp (maxSteps:=1000000) -implicitDefEqProofs only [h1,f1,c1,u1,Int.toNat_natCast,Int.natCast_nonneg,go_sem,awp_seq,Nat.reduceBEq,Nat.reduceAdd,Nat.reduceLeDiff,Nat.reduceLT,Nat.reduceEqDiff]
    refine roundK_mk ⟨k+1,by omega,hR⟩ ?_ (by show pool.length-(k+1)<pool.length-k;omega)
    simp (maxSteps:=1000000) -implicitDefEqProofs only [go_sem,awp_seq,Nat.reduceBEq]
   | true =>
   cases c2:decide ((0:Int)<a.2.2.1)with
   | false =>
    have hR:=go _ (by rw [c2,Bool.false_and,Bool.and_false]) hR
    simp (maxSteps:=1000000) -implicitDefEqProofs only [h1,f1,c1,c2,u1,Int.toNat_natCast,Int.natCast_nonneg,go_sem,awp_seq,Nat.reduceBEq,Nat.reduceAdd,Nat.reduceLeDiff,Nat.reduceLT,Nat.reduceEqDiff]
    refine roundK_mk ⟨k+1,by omega,hR⟩ ?_ (by show pool.length-(k+1)<pool.length-k;omega)
    simp (maxSteps:=1000000) -implicitDefEqProofs only [go_sem,awp_seq,Nat.reduceBEq]
   | true =>
   cases c3:(a.2.2.1 == b.2.2.1)with
   | false =>
    have hR:=go _ (by rw [c3,Bool.false_and,Bool.and_false,Bool.and_false]) hR
    simp (maxSteps:=1000000) -implicitDefEqProofs only [h1,f1,c1,c2,c3,u1,Int.toNat_natCast,Int.natCast_nonneg,go_sem,awp_seq,Nat.reduceBEq,Nat.reduceAdd,Nat.reduceLeDiff,Nat.reduceLT,Nat.reduceEqDiff]
    refine roundK_mk ⟨k+1,by omega,hR⟩ ?_ (by show pool.length-(k+1)<pool.length-k;omega)
    simp (maxSteps:=1000000) -implicitDefEqProofs only [go_sem,awp_seq,Nat.reduceBEq]
   | true =>
   cases c4:p a with
   | false =>
    rw [c4]at NA
    have hR:=go _ (by rw [c4,Bool.false_and,Bool.and_false,Bool.and_false,Bool.and_false]) hR
    simp (maxSteps:=1000000) -implicitDefEqProofs only [h1,f1,c1,c2,c3,Int.toNat_natCast,Int.natCast_nonneg,go_sem,awp_seq,Nat.reduceBEq,Nat.reduceAdd,Nat.reduceLeDiff,Nat.reduceLT,Nat.reduceEqDiff]
    refine callA_t NA ?_
    simp (maxSteps:=1000000) -implicitDefEqProofs only [u1,go_sem,awp_seq,Nat.reduceBEq,Nat.reduceLeDiff,Nat.reduceLT]
    refine roundK_mk ⟨k+1,by omega,hR⟩ ?_ (by show pool.length-(k+1)<pool.length-k;omega)
    simp (maxSteps:=1000000) -implicitDefEqProofs only [go_sem,awp_seq,Nat.reduceBEq]
   | true =>
   rw [c4]at NA
   cases c5:p b with
   | false =>
    rw [c5]at NB
    have hR:=go _ (by rw [c5,Bool.and_false,Bool.and_false,Bool.and_false,Bool.and_false]) hR
    simp (maxSteps:=1000000) -implicitDefEqProofs only [h1,f1,c1,c2,c3,Int.toNat_natCast,Int.natCast_nonneg,go_sem,awp_seq,Nat.reduceBEq,Nat.reduceAdd,Nat.reduceLeDiff,Nat.reduceLT,Nat.reduceEqDiff]
    refine callA_t NA ?_
    simp (maxSteps:=1000000) -implicitDefEqProofs only [go_sem,awp_seq,Nat.reduceBEq,Nat.reduceLeDiff,Nat.reduceLT]
    refine callA_t NB ?_
    simp (maxSteps:=1000000) -implicitDefEqProofs only [u1,go_sem,awp_seq,Nat.reduceBEq,Nat.reduceLeDiff,Nat.reduceLT]
    refine roundK_mk ⟨k+1,by omega,hR⟩ ?_ (by show pool.length-(k+1)<pool.length-k;omega)
    simp (maxSteps:=1000000) -implicitDefEqProofs only [go_sem,awp_seq,Nat.reduceBEq]
   | true =>
    rw [c5]at NB
    have hR:R=true:=by rw [hR,c1,c2,c3,c4,c5];rfl
    subst hR
    simp (maxSteps:=1000000) -implicitDefEqProofs only [h1,f1,c1,c2,c3,Int.toNat_natCast,Int.natCast_nonneg,go_sem,awp_seq,Nat.reduceBEq,Nat.reduceAdd,Nat.reduceLeDiff,Nat.reduceLT,Nat.reduceEqDiff]
    refine callA_t NA ?_
    simp (maxSteps:=1000000) -implicitDefEqProofs only [go_sem,awp_seq,Nat.reduceBEq,Nat.reduceLeDiff,Nat.reduceLT]
    refine callA_t NB ?_
    simp (maxSteps:=1000000) -implicitDefEqProofs only [go_sem,awp_seq,Nat.reduceBEq,Nat.reduceLeDiff,Nat.reduceLT]
  ·have h1:decide (((k:Nat):Int)<(pool.length:Nat))=false:=by simp;omega
   rw [List.drop_of_length_le (show pool.length≤k by omega)]at hR
   have hR:R=sibO p pool (pool.drop (i+1)) (i+1):=by rw [hR];rfl
   simp (maxSteps:=1000000) -implicitDefEqProofs only [h1,w1,go_sem,awp_seq,Nat.reduceBEq,Nat.reduceLT]
   refine roundK_mk ⟨i+1,by omega,hR⟩ ?_ (by show pool.length-(i+1)<pool.length-i;omega)
   simp (maxSteps:=1000000) -implicitDefEqProofs only [go_sem,awp_seq,Nat.reduceBEq]
 ·have g1:decide (((i:Nat):Int)<(pool.length:Nat))=false:=by simp;omega
  rw [List.drop_of_length_le (by omega)]at hR
  have hR:R=false:=hR
  subst hR
  simp (maxSteps:=1000000) -implicitDefEqProofs only [g1,go_sem,awp_seq,Nat.reduceBEq,Nat.reduceLT]
theorem exc33_c (r:RuleV) (pool:List PI) (ch:List Int) (hd:demOk r=true) (hl:pool.length≤1048576) (hc:ch.length≤1048576):AT 41 [ruleA r,.sl 9 (pool.map itA),(.sl 1 (ch.map fun z=>i64 z))] (boo (exc33 r (chP ch) pool)):=by
 have T:=total33_c r pool ch hd hl hc
 have S:=sib33_c pool ch hl hc
 unfold exc33
 generalize totE (coefE r) (pool.filter (chP ch)) 0=t at *
 generalize sibO (chP ch) pool pool 0=s at *
 generalize (ch.map fun z=>i64 z)=CL at *
 generalize pool.map itA=P at *
 obtain ⟨k,n,lo,hi,code⟩:=r
 dsimp only
 have T:AT 68 [.agg [i64 k,i64 n,i64 lo,i64 hi,str code],.sl 9 P,(.sl 1 CL)] (i64 t):=T
 show AT 41 [.agg [i64 k,i64 n,i64 lo,i64 hi,str code],.sl 9 P,(.sl 1 CL)] _
 clear hd
 by_cases h7:k=7
 ·have c7:(k == 7)=true:=by simpa using h7
  rw [if_pos h7]
  refine ACalls.of ⟨9,[],[]⟩ (fn:=Tryz.f41) Tryz.func41 rfl rfl rfl (by kernel_rfl) (by kernel_rfl) (Nat.le_of_ble_eq_true rfl) ?_
  simp (maxSteps:=1000000) -implicitDefEqProofs only [c7,go_sem,awp_seq,Nat.reduceBNe,Nat.reduceBEq,Nat.reduceAdd,Nat.reduceLeDiff,Nat.reduceLT]
 have c7:(k == 7)=false:=by simpa using h7
 rw [if_neg h7]
 by_cases h8:k=8
 ·have c8:(k == 8)=true:=by simpa using h8
  rw [if_pos h8]
  generalize hv:decide (0<t)=v at *
  refine ACalls.of ⟨9,[],[]⟩ (fn:=Tryz.f41) Tryz.func41 rfl rfl rfl (by kernel_rfl) (by kernel_rfl) (Nat.le_of_ble_eq_true rfl) ?_
  simp (maxSteps:=1000000) -implicitDefEqProofs only [c7,c8,go_sem,awp_seq,Nat.reduceBNe,Nat.reduceBEq,Nat.reduceAdd,Nat.reduceLeDiff,Nat.reduceLT]
  refine callA_tt T ?_
  simp (maxSteps:=1000000) -implicitDefEqProofs only [hv,go_sem,awp_seq,Nat.reduceBEq]
 have c8:(k == 8)=false:=by simpa using h8
 rw [if_neg h8]
 by_cases h9:k=9
 ·have c9:(k == 9)=true:=by simpa using h9
  rw [if_pos h9]
  refine ACalls.of ⟨9,[],[]⟩ (fn:=Tryz.f41) Tryz.func41 rfl rfl rfl (by kernel_rfl) (by kernel_rfl) (Nat.le_of_ble_eq_true rfl) ?_
  simp (maxSteps:=1000000) -implicitDefEqProofs only [c7,c8,c9,go_sem,awp_seq,Nat.reduceBNe,Nat.reduceBEq,Nat.reduceAdd,Nat.reduceLeDiff,Nat.reduceLT]
  refine callA_tt S ?_
  simp (maxSteps:=1000000) -implicitDefEqProofs only [go_sem,awp_seq,Nat.reduceBEq]
 have c9:(k == 9)=false:=by simpa using h9
 rw [if_neg h9]
 generalize hv:decide (hi<t)=v at *
 refine ACalls.of ⟨9,[],[]⟩ (fn:=Tryz.f41) Tryz.func41 rfl rfl rfl (by kernel_rfl) (by kernel_rfl) (Nat.le_of_ble_eq_true rfl) ?_
 simp (maxSteps:=1000000) -implicitDefEqProofs only [c7,c8,c9,go_sem,awp_seq,Nat.reduceBNe,Nat.reduceBEq,Nat.reduceAdd,Nat.reduceLeDiff,Nat.reduceLT]
 refine callA_tt T ?_
 simp (maxSteps:=1000000) -implicitDefEqProofs only [hv,go_sem,awp_seq,Nat.reduceBEq]
theorem brk33_c (r:RuleV) (pool:List PI) (ch:List Int) (hd:demOk r=true) (hl:pool.length≤1048576) (hc:ch.length≤1048576):AT 39 [ruleA r,.sl 9 (pool.map itA),(.sl 1 (ch.map fun z=>i64 z))] (boo (brk33 r (chP ch) pool)):=by
 have T:=total33_c r pool ch hd hl hc
 have X:=exc33_c r pool ch hd hl hc
 unfold brk33
 generalize totE (coefE r) (pool.filter (chP ch)) 0=t at *
 generalize exc33 r (chP ch) pool=x at *
 generalize (ch.map fun z=>i64 z)=CL at *
 generalize pool.map itA=P at *
 obtain ⟨k,n,lo,hi,code⟩:=r
 dsimp only
 have T:AT 68 [.agg [i64 k,i64 n,i64 lo,i64 hi,str code],.sl 9 P,(.sl 1 CL)] (i64 t):=T
 have X:AT 41 [.agg [i64 k,i64 n,i64 lo,i64 hi,str code],.sl 9 P,(.sl 1 CL)] (boo x):=X
 show AT 39 [.agg [i64 k,i64 n,i64 lo,i64 hi,str code],.sl 9 P,(.sl 1 CL)] _
 clear hd
 by_cases h7:k=7
 ·have c7:(k == 7)=true:=by simpa using h7
  rw [if_pos h7]
  generalize hv:(t == 0)=v at *
  refine ACalls.of ⟨8,[],[]⟩ (fn:=Tryz.f39) Tryz.func39 rfl rfl rfl (by kernel_rfl) (by kernel_rfl) (Nat.le_of_ble_eq_true rfl) ?_
  simp (maxSteps:=1000000) -implicitDefEqProofs only [go_sem,awp_seq,Nat.reduceBEq,Nat.reduceAdd,Nat.reduceLT]
  refine callA_tt T ?_
  simp (maxSteps:=1000000) -implicitDefEqProofs only [c7,hv,go_sem,awp_seq,Nat.reduceBEq,Nat.reduceLeDiff,Nat.reduceLT]
 have c7:(k == 7)=false:=by simpa using h7
 rw [if_neg h7]
 by_cases h6:k=6
 ·have c6:(k == 6)=true:=by simpa using h6
  by_cases h0:t=0
  ·have c0:(t == 0)=true:=by simpa using h0
   rw [if_pos ⟨h6,h0⟩]
   refine ACalls.of ⟨8,[],[]⟩ (fn:=Tryz.f39) Tryz.func39 rfl rfl rfl (by kernel_rfl) (by kernel_rfl) (Nat.le_of_ble_eq_true rfl) ?_
   simp (maxSteps:=1000000) -implicitDefEqProofs only [go_sem,awp_seq,Nat.reduceBEq,Nat.reduceAdd,Nat.reduceLT]
   refine callA_tt T ?_
   simp (maxSteps:=1000000) -implicitDefEqProofs only [c7,c6,c0,go_sem,awp_seq,Nat.reduceBEq,Nat.reduceAdd,Nat.reduceLeDiff,Nat.reduceLT]
  have c0:(t == 0)=false:=by simpa using h0
  rw [if_neg (fun h=>h0 h.2)]
  cases x with
  | true =>
   refine ACalls.of ⟨8,[],[]⟩ (fn:=Tryz.f39) Tryz.func39 rfl rfl rfl (by kernel_rfl) (by kernel_rfl) (Nat.le_of_ble_eq_true rfl) ?_
   simp (maxSteps:=1000000) -implicitDefEqProofs only [go_sem,awp_seq,Nat.reduceBEq,Nat.reduceAdd,Nat.reduceLT]
   refine callA_tt T ?_
   simp (maxSteps:=1000000) -implicitDefEqProofs only [c7,c6,c0,Bool.true_or,go_sem,awp_seq,Nat.reduceBEq,Nat.reduceAdd,Nat.reduceLeDiff,Nat.reduceLT]
   refine callA_tt X ?_
   simp (maxSteps:=1000000) -implicitDefEqProofs only [go_sem,awp_seq,Nat.reduceBEq]
  | false =>
   generalize hv:decide (t<lo)=v at *
   refine ACalls.of ⟨8,[],[]⟩ (fn:=Tryz.f39) Tryz.func39 rfl rfl rfl (by kernel_rfl) (by kernel_rfl) (Nat.le_of_ble_eq_true rfl) ?_
   simp (maxSteps:=1000000) -implicitDefEqProofs only [go_sem,awp_seq,Nat.reduceBEq,Nat.reduceAdd,Nat.reduceLT]
   refine callA_tt T ?_
   simp (maxSteps:=1000000) -implicitDefEqProofs only [c7,c6,c0,Bool.false_or,go_sem,awp_seq,Nat.reduceBEq,Nat.reduceAdd,Nat.reduceLeDiff,Nat.reduceLT]
   refine callA_tt X ?_
   simp (maxSteps:=1000000) -implicitDefEqProofs only [hv,go_sem,awp_seq,Nat.reduceBEq]
 have c6:(k == 6)=false:=by simpa using h6
 rw [if_neg (fun h=>h6 h.1)]
 cases x with
 | true =>
  refine ACalls.of ⟨8,[],[]⟩ (fn:=Tryz.f39) Tryz.func39 rfl rfl rfl (by kernel_rfl) (by kernel_rfl) (Nat.le_of_ble_eq_true rfl) ?_
  simp (maxSteps:=1000000) -implicitDefEqProofs only [go_sem,awp_seq,Nat.reduceBEq,Nat.reduceAdd,Nat.reduceLT]
  refine callA_tt T ?_
  simp (maxSteps:=1000000) -implicitDefEqProofs only [c7,c6,Bool.true_or,go_sem,awp_seq,Nat.reduceBEq,Nat.reduceAdd,Nat.reduceLeDiff,Nat.reduceLT]
  refine callA_tt X ?_
  simp (maxSteps:=1000000) -implicitDefEqProofs only [go_sem,awp_seq,Nat.reduceBEq]
 | false =>
  generalize hv:decide (t<lo)=v at *
  refine ACalls.of ⟨8,[],[]⟩ (fn:=Tryz.f39) Tryz.func39 rfl rfl rfl (by kernel_rfl) (by kernel_rfl) (Nat.le_of_ble_eq_true rfl) ?_
  simp (maxSteps:=1000000) -implicitDefEqProofs only [go_sem,awp_seq,Nat.reduceBEq,Nat.reduceAdd,Nat.reduceLT]
  refine callA_tt T ?_
  simp (maxSteps:=1000000) -implicitDefEqProofs only [c7,c6,Bool.false_or,go_sem,awp_seq,Nat.reduceBEq,Nat.reduceAdd,Nat.reduceLeDiff,Nat.reduceLT]
  refine callA_tt X ?_
  simp (maxSteps:=1000000) -implicitDefEqProofs only [hv,go_sem,awp_seq,Nat.reduceBEq]
set_option maxHeartbeats 2000000 in
theorem given33_c (n:Int) (rs:List RuleV) (pool:List PI) (l:List (Int × Int)) (hl:pool.length≤1048576):AT 22 [.agg [i64 n,rulesA rs],.sl 9 (pool.map itA),.sl 2 (l.map prA)] (i64 (taskE n rs pool l)):=by
 have V:=valid33_c n rs
 have C:=check33_w pool (rowsN pool)
 unfold taskE
 by_cases h1:specE n rs=0
 case neg =>
  have g1:(specE n rs != 0)=true:=by simpa using h1
  rw [if_pos h1]
  generalize specE n rs=e at *
  refine ACalls.of ⟨10,[],[]⟩ (fn:=Tryz.f22) Tryz.func22 rfl rfl rfl (by kernel_rfl) (by kernel_rfl) (Nat.le_of_ble_eq_true rfl) ?_
  simp (maxSteps:=1000000) -implicitDefEqProofs only [go_sem,awp_seq,Nat.reduceBEq,Nat.reduceAdd,Nat.reduceLT]
  refine callA_tt V ?_
  simp (maxSteps:=1000000) -implicitDefEqProofs only [g1,go_sem,awp_seq,Nat.reduceBEq,Nat.reduceLeDiff,Nat.reduceLT]
 rw [if_neg (by rw [h1];simp)]
 rw [h1]at V
 have z0:((0:Int) != 0)=false:=rfl
 generalize hp:poolE pool (rowsN pool)=e at *
 have g5:decide ((400:Int)<(l.length:Nat))=decide (400<l.length):=decide_eq_decide.2 (by omega)
 cases pool with
 | nil =>
  have C:AT 51 [.sl 9 [],i64 0] (i64 e):=C
  by_cases h2:e=0
  ·subst h2
   rw [if_neg (by simp)]
   by_cases h3:400<l.length
   ·rw [if_pos h3]
    rw [decide_eq_true h3]at g5
    refine ACalls.of ⟨10,[],[]⟩ (fn:=Tryz.f22) Tryz.func22 rfl rfl rfl (by kernel_rfl) (by kernel_rfl) (Nat.le_of_ble_eq_true rfl) ?_
    simp (maxSteps:=1000000) -implicitDefEqProofs only [go_sem,awp_seq,Nat.reduceBEq,Nat.reduceAdd,Nat.reduceLT]
    refine callA_tt V ?_
    simp (maxSteps:=1000000) -implicitDefEqProofs only [z0,List.map_nil,List.length_nil,go_sem,awp_seq,Nat.reduceBEq,Nat.reduceLeDiff,Nat.reduceLT,Int.reduceLT,Int.cast_ofNat_Int]
    refine callA_tt C ?_
    simp (maxSteps:=1000000) -implicitDefEqProofs only [z0,g5,List.length_map,go_sem,awp_seq,Nat.reduceBEq,Nat.reduceLeDiff,Nat.reduceLT]
   ·rw [if_neg h3]
    rw [decide_eq_false h3]at g5
    refine ACalls.of ⟨10,[],[]⟩ (fn:=Tryz.f22) Tryz.func22 rfl rfl rfl (by kernel_rfl) (by kernel_rfl) (Nat.le_of_ble_eq_true rfl) ?_
    simp (maxSteps:=1000000) -implicitDefEqProofs only [go_sem,awp_seq,Nat.reduceBEq,Nat.reduceAdd,Nat.reduceLT]
    refine callA_tt V ?_
    simp (maxSteps:=1000000) -implicitDefEqProofs only [z0,List.map_nil,List.length_nil,go_sem,awp_seq,Nat.reduceBEq,Nat.reduceLeDiff,Nat.reduceLT,Int.reduceLT,Int.cast_ofNat_Int]
    refine callA_tt C ?_
    simp (maxSteps:=1000000) -implicitDefEqProofs only [z0,g5,List.length_map,go_sem,awp_seq,Nat.reduceBEq,Nat.reduceLeDiff,Nat.reduceLT]
  ·have g2:(e != 0)=true:=by simpa using h2
   rw [if_pos h2]
   refine ACalls.of ⟨10,[],[]⟩ (fn:=Tryz.f22) Tryz.func22 rfl rfl rfl (by kernel_rfl) (by kernel_rfl) (Nat.le_of_ble_eq_true rfl) ?_
   simp (maxSteps:=1000000) -implicitDefEqProofs only [go_sem,awp_seq,Nat.reduceBEq,Nat.reduceAdd,Nat.reduceLT]
   refine callA_tt V ?_
   simp (maxSteps:=1000000) -implicitDefEqProofs only [z0,List.map_nil,List.length_nil,go_sem,awp_seq,Nat.reduceBEq,Nat.reduceLeDiff,Nat.reduceLT,Int.reduceLT,Int.cast_ofNat_Int]
   refine callA_tt C ?_
   simp (maxSteps:=1000000) -implicitDefEqProofs only [g2,go_sem,awp_seq,Nat.reduceBEq,Nat.reduceLeDiff,Nat.reduceLT]
 | cons y ys =>
  have C:AT 51 [.sl 9 (itA y :: ys.map itA),i64 (y.2.2.2.2.2.2.2.2.length:Nat)] (i64 e):=C
  have gl:decide ((0:Int)<((ys.length:Nat):Int)+1)=true:=decide_eq_true (by omega)
  have gl2:decide ((0:Int)<((ys.length+1:Nat):Int))=true:=decide_eq_true (by omega)
  by_cases h2:e=0
  ·subst h2
   rw [if_neg (by simp)]
   by_cases h3:400<l.length
   ·rw [if_pos h3]
    rw [decide_eq_true h3]at g5
    refine ACalls.of ⟨10,[],[]⟩ (fn:=Tryz.f22) Tryz.func22 rfl rfl rfl (by kernel_rfl) (by kernel_rfl) (Nat.le_of_ble_eq_true rfl) ?_
    simp (maxSteps:=1000000) -implicitDefEqProofs only [go_sem,awp_seq,Nat.reduceBEq,Nat.reduceAdd,Nat.reduceLT]
    refine callA_tt V ?_
    simp (maxSteps:=1000000) -implicitDefEqProofs only [z0,gl,gl2,List.map_cons,List.length_cons,List.length_map,go_sem,awp_seq,Nat.reduceBEq,Nat.reduceLeDiff,Nat.reduceLT,Int.reduceLE,Int.reduceToNat]
    refine callA_tt C ?_
    simp (maxSteps:=1000000) -implicitDefEqProofs only [z0,g5,List.length_map,go_sem,awp_seq,Nat.reduceBEq,Nat.reduceLeDiff,Nat.reduceLT]
   ·rw [if_neg h3]
    rw [decide_eq_false h3]at g5
    refine ACalls.of ⟨10,[],[]⟩ (fn:=Tryz.f22) Tryz.func22 rfl rfl rfl (by kernel_rfl) (by kernel_rfl) (Nat.le_of_ble_eq_true rfl) ?_
    simp (maxSteps:=1000000) -implicitDefEqProofs only [go_sem,awp_seq,Nat.reduceBEq,Nat.reduceAdd,Nat.reduceLT]
    refine callA_tt V ?_
    simp (maxSteps:=1000000) -implicitDefEqProofs only [z0,gl,gl2,List.map_cons,List.length_cons,List.length_map,go_sem,awp_seq,Nat.reduceBEq,Nat.reduceLeDiff,Nat.reduceLT,Int.reduceLE,Int.reduceToNat]
    refine callA_tt C ?_
    simp (maxSteps:=1000000) -implicitDefEqProofs only [z0,g5,List.length_map,go_sem,awp_seq,Nat.reduceBEq,Nat.reduceLeDiff,Nat.reduceLT]
  ·have g2:(e != 0)=true:=by simpa using h2
   rw [if_pos h2]
   refine ACalls.of ⟨10,[],[]⟩ (fn:=Tryz.f22) Tryz.func22 rfl rfl rfl (by kernel_rfl) (by kernel_rfl) (Nat.le_of_ble_eq_true rfl) ?_
   simp (maxSteps:=1000000) -implicitDefEqProofs only [go_sem,awp_seq,Nat.reduceBEq,Nat.reduceAdd,Nat.reduceLT]
   refine callA_tt V ?_
   simp (maxSteps:=1000000) -implicitDefEqProofs only [z0,gl,gl2,List.map_cons,List.length_cons,List.length_map,go_sem,awp_seq,Nat.reduceBEq,Nat.reduceLeDiff,Nat.reduceLT,Int.reduceLE,Int.reduceToNat]
   refine callA_tt C ?_
   simp (maxSteps:=1000000) -implicitDefEqProofs only [g2,go_sem,awp_seq,Nat.reduceBEq,Nat.reduceLeDiff,Nat.reduceLT]
end Go.Proofs.YtmegoiaijfeilaaGreatDoor
set_option linter.unusedSimpArgs false
set_option linter.unusedVariables false
namespace Go.Proofs.YtmegoiaijfeilaaGreatDoor
open Go.RowKit Lim
def ltP (p q:Int × Int):Bool:=decide (p.1<q.1∨p.1=q.1∧p.2<q.2)
def ptL (p:Int × Int):List (Int × Int)→Bool→List (Int × Int)
 | [],done=>if done then [] else [p]
 | q :: l,done=>if done || q == p then q :: ptL p l true else if ltP p q then p :: q :: ptL p l true else q :: ptL p l false
def ptE (l:List (Int × Int)) (p:Int × Int):List (Int × Int):=ptL p l (p.1 == p.2)
def norm16E (l:List (Int × Int)):List (Int × Int):=l.foldl (fun out q=>ptE out (ordP q)) []
theorem ptL_true (p:Int × Int):∀l:List (Int × Int),ptL p l true=l
 | []=>rfl
 | q :: l=>by
  unfold ptL
  rw [Bool.true_or,if_pos rfl,ptL_true p l]
theorem ptL_mem (p x:Int × Int):∀l:List (Int × Int),x∈ptL p l false ↔ x=p∨x∈l
 | []=>by simp [ptL]
 | q :: l=>by
  unfold ptL
  rw [Bool.false_or,ptL_true]
  by_cases h1:q=p
  ·subst h1
   rw [if_pos (by simp)]
   simp
  ·rw [if_neg (by simpa using h1)]
   by_cases h2:ltP p q=true
   ·rw [if_pos h2];simp
   ·rw [if_neg h2,List.mem_cons,ptL_mem p x l,List.mem_cons]
    constructor
    ·rintro (h|h|h)
     ·exact .inr (.inl h)
     ·exact .inl h
     ·exact .inr (.inr h)
    ·rintro (h|h|h)
     ·exact .inr (.inl h)
     ·exact .inl h
     ·exact .inr (.inr h)
def StrP (l:List (Int × Int)):Prop:=l.Pairwise fun p q=>ltP p q=true
theorem ltP_trans {p q r:Int × Int} (h1:ltP p q=true) (h2:ltP q r=true):ltP p r=true:=by
 unfold ltP at *
 have h1:=of_decide_eq_true h1
 have h2:=of_decide_eq_true h2
 exact decide_eq_true (by omega)
theorem ltP_irr {p q:Int × Int} (h:ltP p q=true):p≠q:=by
 rintro rfl
 unfold ltP at h
 have h:=of_decide_eq_true h
 omega
theorem ltP_tot {p q:Int × Int} (h1:p≠q) (h2:¬ltP p q=true):ltP q p=true:=by
 unfold ltP at *
 rw [decide_eq_true_eq]at h2 ⊢
 obtain ⟨a,b⟩:=p
 obtain ⟨c,d⟩:=q
 rw [Ne,Prod.mk.injEq]at h1
 dsimp only at *
 omega
theorem ptL_str (p:Int × Int):∀l:List (Int × Int),StrP l→StrP (ptL p l false)
 | [],_=>by simp [ptL,StrP]
 | q :: l,h=>by
  obtain ⟨ha,hl⟩:=List.pairwise_cons.1 h
  unfold ptL
  rw [Bool.false_or,ptL_true]
  by_cases h1:q=p
  ·subst h1
   rw [if_pos (by simp)]
   exact h
  ·rw [if_neg (by simpa using h1)]
   by_cases h2:ltP p q=true
   ·rw [if_pos h2]
    refine List.pairwise_cons.2 ⟨fun x hx=>?_,h⟩
    rcases List.mem_cons.1 hx with rfl|hx
    ·exact h2
    ·exact ltP_trans h2 (ha x hx)
   ·rw [if_neg h2]
    refine List.pairwise_cons.2 ⟨fun x hx=>?_,ptL_str p l hl⟩
    rcases (ptL_mem p x l).1 hx with rfl|hx
    ·exact ltP_tot (fun e=>h1 e.symm) h2
    ·exact ha x hx
theorem str_ext:∀{l m:List (Int × Int)},StrP l→StrP m→(∀x,x∈l ↔ x∈m)→l=m
 | [],[],_,_,_=>rfl
 | [],b :: m,_,_,h=>absurd ((h b).2 (by simp)) (by simp)
 | a :: l,[],_,_,h=>absurd ((h a).1 (by simp)) (by simp)
 | a :: l,b :: m,h1,h2,h=>by
  obtain ⟨ha,hl⟩:=List.pairwise_cons.1 h1
  obtain ⟨hb,hm⟩:=List.pairwise_cons.1 h2
  have e:a=b:=by
   rcases List.mem_cons.1 ((h a).1 (by simp))with e|h3
   ·exact e
   ·rcases List.mem_cons.1 ((h b).2 (by simp))with e|h4
    ·exact e.symm
    ·exact absurd rfl (ltP_irr (ltP_trans (ha _ h4) (hb _ h3)))
  subst e
  rw [str_ext hl hm fun x=>⟨fun hx=>?_,fun hx=>?_⟩]
  ·rcases List.mem_cons.1 ((h x).1 (List.mem_cons.2 (.inr hx)))with e|h5
   ·exact absurd e.symm (ltP_irr (ha _ hx))
   ·exact h5
  ·rcases List.mem_cons.1 ((h x).2 (List.mem_cons.2 (.inr hx)))with e|h5
   ·exact absurd e.symm (ltP_irr (hb _ hx))
   ·exact h5
theorem ord_ne (p:Int × Int):(ordP p).1=(ordP p).2 ↔ p.1=p.2:=by
 unfold ordP
 split
 ·exact Iff.rfl
 ·exact ⟨fun h=>h.symm,fun h=>h.symm⟩
theorem norm16_go:∀(l out:List (Int × Int)),StrP out→StrP (l.foldl (fun out q=>ptE out (ordP q)) out)∧∀x,x∈l.foldl (fun out q=>ptE out (ordP q)) out ↔ x∈out∨x∈normPre l
 | [],out,h=>⟨h,fun x=>by simp [normPre]⟩
 | q :: l,out,h=>by
  rw [List.foldl_cons]
  have e:normPre (q :: l)=if q.1=q.2 then normPre l else ordP q :: normPre l:=by
   unfold normPre
   by_cases h0:q.1=q.2
   ·rw [if_pos h0,List.filter_cons_of_neg (by simpa using h0)]
   ·rw [if_neg h0,List.filter_cons_of_pos (by simpa using h0),List.map_cons]
  rw [e]
  by_cases h0:q.1=q.2
  ·have h1:ptE out (ordP q)=out:=by
    unfold ptE
    rw [beq_iff_eq.2 ((ord_ne q).2 h0),ptL_true]
   rw [h1,if_pos h0]
   exact norm16_go l out h
  ·have h1:ptE out (ordP q)=ptL (ordP q) out false:=by
    unfold ptE
    rw [beq_eq_false_iff_ne.2 fun h=>h0 ((ord_ne q).1 h)]
   rw [h1,if_neg h0]
   obtain ⟨a,b⟩:=norm16_go l (ptL (ordP q) out false) (ptL_str _ _ h)
   refine ⟨a,fun x=>?_⟩
   rw [b x,ptL_mem,List.mem_cons]
   constructor
   ·rintro ((h|h)|h)
    ·exact .inr (.inl h)
    ·exact .inl h
    ·exact .inr (.inr h)
   ·rintro (h|h|h)
    ·exact .inl (.inr h)
    ·exact .inl (.inl h)
    ·exact .inr h
theorem uniq_go:∀(l:List (Int × Int)) (o:Option (Int × Int)),l.Pairwise (fun p q=>ltP q p=false)→(∀a,o=some a→∀x∈l,ltP x a=false)→StrP (uniqL o l)∧(∀x∈uniqL o l,x∈l)∧(∀a,o=some a→∀x∈uniqL o l,ltP a x=true)∧∀x∈l,x∈uniqL o l∨o=some x
 | [],o,_,_=>⟨.nil,fun x h=>h,fun a _ x h=>absurd h (by simp [uniqL]),fun x h=>absurd h (by simp)⟩
 | p :: l,o,h,ho=>by
  obtain ⟨hp,hl⟩:=List.pairwise_cons.1 h
  unfold uniqL
  by_cases h1:o=some p
  ·rw [if_pos h1]
   obtain ⟨a,b,c,d⟩:=uniq_go l o hl fun a ha x hx=>ho a ha x (List.mem_cons.2 (.inr hx))
   refine ⟨a,fun x hx=>List.mem_cons.2 (.inr (b x hx)),c,fun x hx=>?_⟩
   rcases List.mem_cons.1 hx with rfl|hx
   ·exact .inr h1
   ·exact d x hx
  ·rw [if_neg h1]
   obtain ⟨a,b,c,d⟩:=uniq_go l (some p) hl fun a ha x hx=>by
    cases ha
    exact hp x hx
   refine ⟨List.pairwise_cons.2 ⟨fun x hx=>c p rfl x hx,a⟩,fun x hx=>?_,fun e he x hx=>?_,fun x hx=>?_⟩
   ·rcases List.mem_cons.1 hx with rfl|hx
    ·simp
    ·exact List.mem_cons.2 (.inr (b x hx))
   ·have hep:ltP e p=true:=by
     have h2:=ho e he p (by simp)
     exact ltP_tot (fun e2=>h1 (he.trans (congrArg some e2.symm))) (by rw [h2];simp)
    rcases List.mem_cons.1 hx with rfl|hx
    ·exact hep
    ·exact ltP_trans hep (c p rfl x hx)
   ·rcases List.mem_cons.1 hx with rfl|hx
    ·exact .inl (by simp)
    ·rcases d x hx with h3|h3
     ·exact .inl (List.mem_cons.2 (.inr h3))
     ·exact .inl (by cases h3;simp)
theorem norm16_eq (l:List (Int × Int)):norm16E l=normE l:=by
 obtain ⟨a,b⟩:=norm16_go l [] .nil
 have e:∀p q,ltOf cmpP p q=ltP p q:=fun p q=>lt_cmpP p q
 have hs:(sortP (normPre l)).Pairwise (fun p q=>ltP q p=false):=by
  have h:=List.pairwise_mergeSort (le:=fun x y=>!ltOf cmpP y x) (fun p q r h1 h2=>by
   rw [e,Bool.not_eq_true']at *
   cases h:ltP r p with
   | false=>rfl
   | true =>
    by_cases h3:r=q
    ·subst h3;rw [h]at h1;cases h1
    ·have h4:ltP q r=true:=ltP_tot h3 (by rw [h2];simp)
     rw [ltP_trans h4 h]at h1
     cases h1) (fun p q=>by
   rw [e,e]
   cases h1:ltP q p with
   | false=>rfl
   | true =>
    cases h2:ltP p q with
    | false=>rfl
    | true=>exact absurd rfl (ltP_irr (ltP_trans h1 h2))) (normPre l)
  exact h.imp fun h=>by rw [e,Bool.not_eq_true']at h;exact h
 obtain ⟨c,d,_,f⟩:=uniq_go (sortP (normPre l)) none hs fun a h=>by cases h
 refine str_ext (l:=norm16E l) a c fun x=>?_
 have b:x∈norm16E l ↔ x∈[]∨x∈normPre l:=b x
 show x∈norm16E l ↔ x∈uniqL none (sortP (normPre l))
 rw [b]
 have hm:x∈sortP (normPre l) ↔ x∈normPre l:=by unfold sortP;exact List.mem_mergeSort
 constructor
 ·rintro (h|h)
  ·simp at h
  ·rcases f x (hm.2 h)with h|h
   ·exact h
   ·cases h
 ·intro h
  exact .inr (hm.1 (d x h))
end Go.Proofs.YtmegoiaijfeilaaGreatDoor
set_option linter.unusedSimpArgs false
set_option linter.unusedVariables false
namespace Go.Proofs.YtmegoiaijfeilaaGreatDoor
open Go.RowKit Lim
theorem pair_val {w:World} {Z:Zone} {a b:Int} {v:Value} (h:Rep w Z (prA (a,b)) v):v=.agg #[.int .i64 a,.int .i64 b]:=by
 cases h with
 | @agg cs us hl hr =>
  congr 1
  apply Array.ext
  ·exact hl
  ·intro i hi _
   have:i<2:=by rw [hl]at hi;simpa using hi
   match i,this with
   | 0,_=>exact (hr 0 (by simp)).lit_eq
   | 1,_=>exact (hr 1 (by simp)).lit_eq
theorem ordered16_w (a b:Int) (w:World):Calls Tryz.prog 77 #[.int .i64 a,.int .i64 b] w fun e w'=>e=.returned (.agg (prVs (ordP (a,b))).toArray)∧Below w.heap.size w w':=by
 obtain ⟨x,y,hxy⟩:∃x y,ordP (a,b)=(x,y):=⟨_,_,rfl⟩
 have hmin:min a b=x:=by
  unfold ordP at hxy
  split at hxy
  ·rename_i h
   have h:a≤b:=h
   obtain ⟨rfl,rfl⟩:=Prod.mk.inj hxy
   omega
  ·rename_i h
   have h:¬a≤b:=h
   obtain ⟨rfl,rfl⟩:=Prod.mk.inj hxy
   omega
 have hmax:max a b=y:=by
  unfold ordP at hxy
  split at hxy
  ·rename_i h
   have h:a≤b:=h
   obtain ⟨rfl,rfl⟩:=Prod.mk.inj hxy
   omega
  ·rename_i h
   have h:¬a≤b:=h
   obtain ⟨rfl,rfl⟩:=Prod.mk.inj hxy
   omega
 rw [hxy]
 go_enter Tryz.func77,Tryz.ntmps77
 go_wp2
 try simp only [Exit.inBlock,Exit.then]
 refine bodyPost_ret (results_cell_row (P:=Tryz.prog) (fn:=Tryz.f77) rfl _ _ w.heap.size tPair #[.int .i64 x,.int .i64 y] (0,0) _ rfl (heap_alloc_new w _) Tryz.underlying64 rfl pair_info) rfl ?_
 exact ⟨rfl,(Below.refl _ _).alloc (Nat.le_refl _) _⟩
theorem less16_w (p q:Int × Int) (w:World):Calls Tryz.prog 103 #[.agg (prVs p).toArray,.agg (prVs q).toArray] w fun e w'=>e=.returned (.bool (ltP p q))∧Below w.heap.size w w':=by
 obtain ⟨a,b⟩:=p
 obtain ⟨c,d⟩:=q
 rw [show (prVs (a,b)).toArray=#[.int .i64 a,.int .i64 b]from rfl,show (prVs (c,d)).toArray=#[.int .i64 c,.int .i64 d]from rfl]
 have hB:Below w.heap.size w ((w.alloc (.cells #[.int .i64 a,.int .i64 b] tPair)).alloc (.cells #[.int .i64 c,.int .i64 d] tPair)):=((Below.refl _ _).alloc (Nat.le_refl _) _).alloc (by simp) _
 by_cases h1:a<c
 ·have e:ltP (a,b) (c,d)=true:=decide_eq_true (.inl h1)
  rw [e]
  have g1:decide (a<c)=true:=decide_eq_true h1
  go_enter Tryz.func103,Tryz.ntmps103
  go_wp2
  go_ret
  exact ⟨rfl,hB⟩
 ·have g1:decide (a<c)=false:=decide_eq_false h1
  by_cases h2:a=c
  ·subst h2
   have e:ltP (a,b) (a,d)=decide (b<d):=by
    unfold ltP
    exact decide_eq_decide.2 (by dsimp only;omega)
   rw [e]
   have g2:(a == a)=true:=by simp
   go_enter Tryz.func103,Tryz.ntmps103
   go_wp2
   go_ret
   exact ⟨rfl,hB⟩
  ·have e:ltP (a,b) (c,d)=false:=decide_eq_false (by dsimp only;omega)
   rw [e]
   have g2:(a == c)=false:=by simpa using h2
   go_enter Tryz.func103,Tryz.ntmps103
   go_wp2
   go_ret
   exact ⟨rfl,hB⟩
theorem less16_v (a b c d:Int) (w:World):Calls Tryz.prog 103 #[.agg #[.int .i64 a,.int .i64 b],.agg #[.int .i64 c,.int .i64 d]] w fun e w'=>e=.returned (.bool (ltP (a,b) (c,d)))∧Below w.heap.size w w':=less16_w (a,b) (c,d) w
theorem put_app {w W w3:World} {v v':Value} {D:List (Int × Int)} {a b:Int} {x:Obj} (hb:Below w.heap.size w W) (hx:W.heap[w.heap.size]? = some x) (hown:W.ownsRow (w.heap.size+1) tPair 2 v D.length (rowVs prVs D)) (h3:w3.ownsRow (w.heap.size+1) tPair 2 v' (D.length+1) (rowVs prVs D ++ prVs (a,b))) (hg:(W.alloc (.cells #[.int .i64 a,.int .i64 b] tPair)).grownBy w3 v.ownBlock) :
  Below w.heap.size w w3∧w3.heap[w.heap.size]? = some x∧w3.ownsRow (w.heap.size+1) tPair 2 v' (D ++ [(a,b)]).length (rowVs prVs (D ++ [(a,b)])):=by
 have hs:w.heap.size<W.heap.size:=(Array.getElem?_eq_some_iff.1 hx).1
 have hne:∀j,j≤w.heap.size→some j≠v.ownBlock:=fun j hj e=>by
  have:=(own_zone hown e.symm).1
  omega
 have hblk:∀j,j≤w.heap.size→w3.heap[j]? = W.heap[j]?:=fun j hj=>(hg.block j (by simp;omega) (hne j hj)).trans (Lib.alloc_old _ _ _ (by omega))
 refine ⟨⟨hg.os.trans hb.os,hg.tape.trans hb.tape,hg.output.trans hb.output,?_,fun j hj=>(hblk j (Nat.le_of_lt hj)).trans (hb.block j hj)⟩,(hblk _ (Nat.le_refl _)).trans hx,?_⟩
 ·have:=hg.size
  simp at this
  omega
 ·rw [List.length_append,←rowVs_app]
  exact h3
theorem heap_drewN' {w:World} {n g:Nat} {x:Obj} (h:w.heap[g]? = some x):(w.drewN n).heap[g]? = some x:=h
theorem own_drewN {w:World} {B:Nat} {e:TypeId} {size:Nat} {v:Value} {n m:Nat} {xs:List Value} (h:w.ownsRow B e size v n xs):(w.drewN m).ownsRow B e size v n xs:=own_at h fun _ _ _=>rfl
theorem ptL_cons (p q:Int × Int) (l:List (Int × Int)) (dn:Bool):ptL p (q :: l) dn=(if !(dn || q == p) && ltP p q then [p,q] else [q]) ++ ptL p l (dn || q == p || ltP p q):=by
 conv=>lhs;unfold ptL
 by_cases h:(dn || q == p)=true
 ·rw [if_pos h,h];rfl
 ·rw [if_neg h]
  have h:(dn || q == p)=false:=by simpa using h
  rw [h]
  cases ltP p q <;> rfl
set_option maxHeartbeats 8000000 in
set_option maxRecDepth 100000 in
theorem put16_c (l:List (Int × Int)) (p:Int × Int) (hl:l.length≤1048576):AT 76 [.sl 2 (l.map prA),prA p] (.sl 2 ((ptE l p).map prA)):=by
 refine ⟨⟨_,Tryz.func76,by kernel_rfl,by kernel_rfl⟩,fun w Z vs hE hz _ hrep=>?_⟩
 obtain ⟨v1,v2,rfl,q1,q2⟩:=reps2 hrep
 obtain ⟨A,c,rfl,hc,hget⟩:=row_cells prVs_len prA_cells q1
 obtain ⟨p1,p2⟩:=p
 obtain rfl:=pair_val q2
 clear hrep q1 q2
 change Calls Tryz.prog _ _ w _
 have hinf:(Tryz.prog.info? 64).map (fun i=>(i.zero,i.size,i.bytes))=some (some (.agg #[.int .i64 0,.int .i64 0]),2,16):=by kernel_rfl
 obtain ⟨i0,hi,hz0,hz1,hz2⟩:=info_parts hinf
 have hlen:((l.length:Nat):Int)≤1048576:=by omega
 obtain ⟨N,hN⟩:∃N,ptE l (p1,p2)=N:=⟨_,rfl⟩
 rw [hN]
 go_enter Tryz.func76,Tryz.ntmps76
 go_wp2
 go_loopw [5,6,7] (fun v d i wl=>∃(k:Nat) (D:List (Int × Int)) (dn:Bool),d=.bool dn∧i=.int .i64 k∧k≤l.length∧Below w.heap.size w wl∧wl.heap[w.heap.size]? = some (.cells #[.int .i64 p1,.int .i64 p2] tPair (0,0))∧wl.ownsRow (w.heap.size+1) tPair 2 v D.length (rowVs prVs D)∧N=D ++ ptL (p1,p2) (l.drop k) dn∧D.length≤2*k) (fun _ _ i _=>l.length-(intOf i).toNat)
 case atStart =>
  refine ⟨0,[],_,rfl,rfl,Nat.zero_le _,((Below.refl _ _).alloc (Nat.le_refl _) _).alloc (by simp) _,?_,?_,hN.symm,Nat.le_refl _⟩
  ·rw [Lib.alloc_old _ _ _ (by simp)]
   exact heap_alloc_new w _
  ·have:=World.ownsRow_made (base:=w.heap.size+1) (e:=tPair) (size:=2) (w.alloc (.cells #[.int .i64 p1,.int .i64 p2] tPair)) #[] 0 (by simp) (by decide) rfl
   rw [show (w.alloc (.cells #[.int .i64 p1,.int .i64 p2] tPair)).heap.size=w.heap.size+1 by simp]at this
   exact this
 case round =>
  obtain ⟨k,D,dn,rfl,rfl,hk,hbw,hbx,hown,hD,hDl⟩:=hrel
  have hb1:w.heap.size<wr.heap.size:=(Array.getElem?_eq_some_iff.1 hbx).1
  have b0:wr.cell? ⟨w.heap.size,0,none⟩=some (.int .i64 p1):=by rw [Lib.cell_of_heap hbx];rfl
  have b1:wr.cell? ⟨w.heap.size,1,none⟩=some (.int .i64 p2):=by rw [Lib.cell_of_heap hbx];rfl
  by_cases hlt:k<l.length
  ·obtain ⟨b,off,rfl,hcell⟩:=hget k hlt
   rw [List.drop_eq_getElem_cons hlt,ptL_cons]at hD
   clear hget
   generalize l[k]=q at *
   obtain ⟨a1,a2⟩:=q
   have d0:=(hbw.cell (p:=⟨b,off+k*2+0,none⟩) (World.block_lt_of_cell? w _ (hcell 0 _ rfl))).trans (hcell 0 _ rfl)
   have d1:=(hbw.cell (p:=⟨b,off+k*2+1,none⟩) (World.block_lt_of_cell? w _ (hcell 1 _ rfl))).trans (hcell 1 _ rfl)
   have cc0:=hcell 0 _ rfl
   have cc1:=hcell 1 _ rfl
   rw [Nat.add_zero]at d0 cc0
   clear hcell
   have g1:((k:Nat):Int)<((l.length:Nat):Int):=by omega
   have g0:(0:Int)≤((k:Nat):Int):=by omega
   have hDk:((D.length:Nat):Int)≤2097152:=by omega
   by_cases hq:a1=p1∧a2=p2
   ·obtain ⟨rfl,rfl⟩:=hq
    have hv:((a1,a2) == (a1,a2))=true:=by simp
    rw [hv,Bool.or_true,Bool.true_or]at hD
    go_wp2
    go_quiet (fail)
    go_wp2
    go_quiet (fail)
    go_wp2_with (at_builtin;refine wpList_append_own _ rfl _ _ 26 rfl (w.heap.size+1) tPair i0 (.agg #[.int .i64 0,.int .i64 0]) 2 16 Tryz.underlying26 hi hz0 hz1 hz2 rfl (by decide) _ _ _ rfl (hown.alloc _) _ _ _ (prVs (a1,a2)) rfl rfl ?c1 ?c2 ?c3 ?c4 ?c5 ?_)
    case c1 =>
     intro j u hj
     rw [show (⟨wr.heap.size,0,none⟩:Addr).add j=⟨wr.heap.size,j,none⟩by unfold Addr.add;split <;> simp_all]
     refine (Lib.cell_of_heap (heap_alloc_new _ _) _).trans ?_
     simpa [prVs]using hj
    case c2=>exact prVs_one _
    case c3=>unfold maxLen;first|omega|(simp;omega)
    case c4=>first|omega|(simp;omega)
    case c5 =>
     have:=hbw.size
     simp
     omega
    intro v' w3 hown3 hgrow _
    obtain ⟨hB3,hX3,hO3⟩:=put_app (below_drewN hbw _) (heap_drewN' hbx) (own_drewN hown) hown3 hgrow
    go_wp2
    refine ⟨⟨k+1,D ++ [(a1,a2)],true,rfl,by simp,by omega,hB3,hX3,hO3,?_,?_⟩,?_⟩
    ·rw [hD];simp
    ·simp;omega
    ·simp only [intOf]
     omega
   ·have hv:((a1,a2) == (p1,p2))=false:=by simpa using fun e=>hq (Prod.mk.inj e)
    have hq2:a1=p1→¬a2=p2:=fun e e2=>hq ⟨e,e2⟩
    rw [hv,Bool.or_false]at hD
    have start:∀(P:Prop),((a1=p1∧¬a2=p2)→P)→(¬a1=p1→P)→P:=fun P h1 h2=>by
     by_cases h:a1=p1
     ·exact h1 ⟨h,hq2 h⟩
     ·exact h2 h
    clear hq hq2
    cases dn with
    | true =>
     rw [Bool.true_or]at hD
     refine start _ (fun h=>?_) (fun hx=>?_)
     obtain ⟨rfl,hy⟩:=h
     all_goals
      clear start
      go_wp2
      go_quiet (fail)
      go_wp2
      go_quiet (fail)
      go_wp2_with (at_builtin;refine wpList_append_own _ rfl _ _ 26 rfl (w.heap.size+1) tPair i0 (.agg #[.int .i64 0,.int .i64 0]) 2 16 Tryz.underlying26 hi hz0 hz1 hz2 rfl (by decide) _ _ _ rfl (hown.alloc _) _ _ _ (prVs (a1,a2)) rfl rfl ?c1 ?c2 ?c3 ?c4 ?c5 ?_)
      case c1 =>
       intro j u hj
       rw [show (⟨wr.heap.size,0,none⟩:Addr).add j=⟨wr.heap.size,j,none⟩by unfold Addr.add;split <;> simp_all]
       refine (Lib.cell_of_heap (heap_alloc_new _ _) _).trans ?_
       simpa [prVs]using hj
      case c2=>exact prVs_one _
      case c3=>unfold maxLen;first|omega|(simp;omega)
      case c4=>first|omega|(simp;omega)
      case c5 =>
       have:=hbw.size
       simp
       omega
      intro v' w3 hown3 hgrow _
      obtain ⟨hB3,hX3,hO3⟩:=put_app (below_drewN hbw _) (heap_drewN' hbx) (own_drewN hown) hown3 hgrow
      go_wp2
      refine ⟨⟨k+1,D ++ [(a1,a2)],true,rfl,by simp,by omega,hB3,hX3,hO3,?_,?_⟩,?_⟩
      ·rw [hD];simp
      ·simp;omega
      ·simp only [intOf]
       omega
    | false =>
     rw [Bool.false_or]at hD
     have L:=less16_v p1 p2 a1 a2
     generalize ltP (p1,p2) (a1,a2)=lt at *
     refine start _ (fun h=>?_) (fun hx=>?_)
     obtain ⟨rfl,hy⟩:=h
     all_goals
      clear start
      go_wp2
      go_quiet (fail)
      go_wp2
      go_region_with (go_at_call 103;refine (L _).mono ?_;rintro e w2 ⟨rfl,hb2⟩)
     all_goals
      have hB2:Below w.heap.size w w2:=(below_drewN hbw _).trans (hb2.mono (Nat.le_of_lt hb1))
      have hX2:w2.heap[w.heap.size]? = some _:=(hb2.block _ hb1).trans hbx
      have hO2:w2.ownsRow (w.heap.size+1) tPair 2 _ D.length (rowVs prVs D):=own_at hown fun g _ hg=>hb2.block g hg
      have hs2:w.heap.size<w2.heap.size:=(Array.getElem?_eq_some_iff.1 hX2).1
      have d0':w2.cell? ⟨b,off+k*2,none⟩=some (.int .i64 a1):=(hB2.cell (p:=⟨b,off+k*2,none⟩) (World.block_lt_of_cell? w _ cc0)).trans cc0
      have d1':w2.cell? ⟨b,off+k*2+1,none⟩=some (.int .i64 a2):=(hB2.cell (p:=⟨b,off+k*2+1,none⟩) (World.block_lt_of_cell? w _ cc1)).trans cc1
      have e0:=Lib.cell_of_heap hX2 0
      have e1:=Lib.cell_of_heap hX2 1
      clear hb2 d0 d1 b0 b1
      cases lt
      case false =>
       go_wp2_with (at_builtin;refine wpList_append_own _ rfl _ _ 26 rfl (w.heap.size+1) tPair i0 (.agg #[.int .i64 0,.int .i64 0]) 2 16 Tryz.underlying26 hi hz0 hz1 hz2 rfl (by decide) _ _ _ rfl (hO2.alloc _) _ _ _ (prVs (a1,a2)) rfl rfl ?c1 ?c2 ?c3 ?c4 ?c5 ?_)
       case c1 =>
        intro j u hj
        rw [show (⟨w2.heap.size,0,none⟩:Addr).add j=⟨w2.heap.size,j,none⟩by unfold Addr.add;split <;> simp_all]
        refine (Lib.cell_of_heap (heap_alloc_new _ _) _).trans ?_
        simpa [prVs]using hj
       case c2=>exact prVs_one _
       case c3=>unfold maxLen;first|omega|(simp;omega)
       case c4=>first|omega|(simp;omega)
       case c5 =>
        have:=hB2.size
        simp
        omega
       intro v' w3 hown3 hgrow _
       obtain ⟨hB3,hX3,hO3⟩:=put_app hB2 hX2 hO2 hown3 hgrow
       go_wp2
       refine ⟨⟨k+1,D ++ [(a1,a2)],false,rfl,by simp,by omega,hB3,hX3,hO3,?_,?_⟩,?_⟩
       ·rw [hD];simp
       ·simp;omega
       ·simp only [intOf]
        omega
      case true =>
       go_wp2_with (at_builtin;first|(refine wpList_append_own _ rfl _ _ 26 rfl (w.heap.size+1) tPair i0 (.agg #[.int .i64 0,.int .i64 0]) 2 16 Tryz.underlying26 hi hz0 hz1 hz2 rfl (by decide) _ _ _ rfl (hO2.alloc _) _ _ _ (prVs (p1,p2)) rfl rfl ?c1x ?c2x ?c3x ?c4x ?c5x ?_)|(refine wpList_append_own _ rfl _ _ 26 rfl (w.heap.size+1) tPair i0 (.agg #[.int .i64 0,.int .i64 0]) 2 16 Tryz.underlying26 hi hz0 hz1 hz2 rfl (by decide) _ _ _ rfl (hO2.alloc _) _ _ _ (prVs (a1,p2)) rfl rfl ?c1x ?c2x ?c3x ?c4x ?c5x ?_))
       case c1x =>
        intro j u hj
        rw [show (⟨w2.heap.size,0,none⟩:Addr).add j=⟨w2.heap.size,j,none⟩by unfold Addr.add;split <;> simp_all]
        refine (Lib.cell_of_heap (heap_alloc_new _ _) _).trans ?_
        simpa [prVs]using hj
       case c2x=>exact prVs_one _
       case c3x=>unfold maxLen;first|omega|(simp;omega)
       case c4x=>first|omega|(simp;omega)
       case c5x =>
        have:=hB2.size
        simp
        omega
       intro v' w3 hown3 hgrow _
       obtain ⟨hB3,hX3,hO3⟩:=put_app hB2 hX2 hO2 hown3 hgrow
       have d0'':w3.cell? ⟨b,off+k*2,none⟩=some (.int .i64 a1):=(hB3.cell (p:=⟨b,off+k*2,none⟩) (World.block_lt_of_cell? w _ cc0)).trans cc0
       have d1'':w3.cell? ⟨b,off+k*2+1,none⟩=some (.int .i64 a2):=(hB3.cell (p:=⟨b,off+k*2+1,none⟩) (World.block_lt_of_cell? w _ cc1)).trans cc1
       have hO3':=hO3
       rw [List.length_append,List.length_singleton]at hO3'
       go_wp2_with (at_builtin;first|(refine wpList_append_own _ rfl _ _ 26 rfl (w.heap.size+1) tPair i0 (.agg #[.int .i64 0,.int .i64 0]) 2 16 Tryz.underlying26 hi hz0 hz1 hz2 rfl (by decide) _ _ _ rfl (hO3.alloc _) _ _ _ (prVs (a1,a2)) rfl rfl ?c1y ?c2y ?c3y ?c4y ?c5y ?_))
       case c1y =>
        intro j u hj
        rw [show (⟨w3.heap.size,0,none⟩:Addr).add j=⟨w3.heap.size,j,none⟩by unfold Addr.add;split <;> simp_all]
        refine (Lib.cell_of_heap (heap_alloc_new _ _) _).trans ?_
        simpa [prVs]using hj
       case c2y=>exact prVs_one _
       case c3y=>unfold maxLen;first|omega|(simp;omega)
       case c4y=>first|omega|(simp;omega)
       case c5y =>
        have:=hB3.size
        simp
        omega
       intro v'' w4 hown4 hgrow4 _
       obtain ⟨hB4,hX4,hO4⟩:=put_app hB3 hX3 hO3 (by rw [List.length_append,List.length_singleton];exact hown4) hgrow4
       go_wp2
       refine ⟨⟨k+1,D ++ [_] ++ [(a1,a2)],true,rfl,by simp,by omega,hB4,hX4,hO4,?_,?_⟩,?_⟩
       ·rw [hD];simp
       ·simp;omega
       ·simp only [intOf]
        omega
  ·obtain rfl:k=l.length:=by omega
   rw [List.drop_length]at hD
   have g1:¬((l.length:Nat):Int)<((l.length:Nat):Int):=by omega
   have hDk:((D.length:Nat):Int)≤2097152:=by omega
   clear hget
   cases dn with
   | true =>
    replace hD:N=D:=by rw [hD,show ptL (p1,p2) [] true=[]from rfl,List.append_nil]
    clear hN
    go_wp2
    go_ret
    refine ⟨_,rfl,hbw,row_rep prVs_len prA_cells prVs_one hown fun g hg o=>.inr ⟨?_,(own_zone hown hg).2⟩⟩
    have:=(own_zone hown hg).1
    omega
   | false =>
    replace hD:N=D ++ [(p1,p2)]:=by rw [hD,show ptL (p1,p2) [] false=[(p1,p2)]from rfl]
    go_wp2_with (at_builtin;first|(refine wpList_append_own _ rfl _ _ 26 rfl (w.heap.size+1) tPair i0 (.agg #[.int .i64 0,.int .i64 0]) 2 16 Tryz.underlying26 hi hz0 hz1 hz2 rfl (by decide) _ _ _ rfl (hown.alloc _) _ _ _ (prVs (p1,p2)) rfl rfl ?c1z ?c2z ?c3z ?c4z ?c5z ?_))
    case c1z =>
     intro j u hj
     simpa [prVs]using hj
    case c2z=>exact prVs_one _
    case c3z=>unfold maxLen;first|omega|(simp;omega)
    case c4z=>first|omega|(simp;omega)
    case c5z =>
     have:=hbw.size
     simp
     omega
    intro v' w3 hown3 hgrow _
    obtain ⟨hB3,hX3,hO3⟩:=put_app hbw hbx hown hown3 hgrow
    go_wp2
    go_ret
    try rw [hD]
    refine ⟨_,rfl,hB3,row_rep prVs_len prA_cells prVs_one hO3 fun g hg o=>.inr ⟨?_,(own_zone hO3 hg).2⟩⟩
    have:=(own_zone hO3 hg).1
    omega
end Go.Proofs.YtmegoiaijfeilaaGreatDoor
set_option linter.unusedSimpArgs false
set_option linter.unusedVariables false
namespace Go.Proofs.YtmegoiaijfeilaaGreatDoor
open Go.RowKit Lim
theorem prA_rep {w:World} {Z:Zone} (p:Int × Int):Rep w Z (prA p) (.agg (prVs p).toArray) :=
 .agg rfl fun j hj=>by
  match j with
  | 0=>exact .lit rfl
  | 1=>exact .lit rfl
  | j+2=>exact absurd hj (by simp)
theorem ordered16_c (a b:Int):AT 77 [i64 a,i64 b] (prA (ordP (a,b))):=by
 refine ⟨⟨_,Tryz.func77,by kernel_rfl,by kernel_rfl⟩,fun w Z vs hE hz _ hrep=>?_⟩
 obtain ⟨v1,v2,rfl,q1,q2⟩:=reps2 hrep
 obtain rfl:=q1.lit_eq
 obtain rfl:=q2.lit_eq
 exact (ordered16_w a b w).mono fun e w' h=>⟨_,h.1,h.2,prA_rep _⟩
theorem has16_c (l:List Int) (x:Int) (hl:l.length≤1048576):AT 57 [chA l,i64 x] (boo (decide (x∈l))):=by
 obtain ⟨R,hR⟩:∃R,R=decide (x∈l):=⟨_,rfl⟩
 rw [←hR]
 refine ACalls.of ⟨6,[],[]⟩ (fn:=Tryz.f57) Tryz.func57 rfl rfl rfl (by kernel_rfl) (by kernel_rfl) (Nat.le_of_ble_eq_true rfl) ?_
 simp (maxSteps:=1000000) -implicitDefEqProofs only [List.length_map,go_sem,awp_seq,Nat.reduceBEq,Nat.reduceAdd,Nat.reduceLT]
 refine loop_mk (α:={k:Nat // k≤l.length∧R=decide (x∈l.drop k)}) (fun k=>[(0,some (.av (.sl 1 (l.map fun z=>i64 z)))),(1,some (.av (i64 x))),(4,some (.av (boo false))),(5,some (.av (i64 (k.1:Nat))))]) (fun _=>[]) (fun _=>[]) (fun k=>l.length-k.1) ⟨0,Nat.zero_le _,hR⟩ ?_ ?_
 ·simp (maxSteps:=1000000) -implicitDefEqProofs only [go_sem,awp_seq,Nat.reduceBEq,Int.cast_ofNat_Int]
 ·clear hR
  rintro ⟨k,hk,hR⟩
  by_cases hlt:k<l.length
  ·have g1:decide (((k:Nat):Int)<(l.length:Nat))=true:=by simp;omega
   have e1:=map_get (fun z=>i64 z) l hlt
   have w1:IntKind.i64.wrap ((k:Int)+1)=((k+1:Nat):Int):=by rw [IntWalk.i64_in _ (by omega)];omega
   rw [List.drop_eq_getElem_cons hlt]at hR
   generalize l[k]=y at *
   by_cases hy:y=x
   ·subst hy
    have hR:R=true:=by rw [hR];simp
    subst hR
    have c:(y == y)=true:=beq_self_eq_true y
    simp (maxSteps:=1000000) -implicitDefEqProofs only [g1,e1,c,List.length_map,Int.toNat_natCast,Int.natCast_nonneg,go_sem,awp_seq,Nat.reduceBEq,Nat.reduceLeDiff,Nat.reduceLT]
   ·have c:(y == x)=false:=by simpa using hy
    have hR:R=decide (x∈l.drop (k+1)):=by
     rw [hR]
     have:¬x=y:=fun e=>hy e.symm
     simp [this]
    simp (maxSteps:=1000000) -implicitDefEqProofs only [g1,e1,c,w1,List.length_map,Int.toNat_natCast,Int.natCast_nonneg,go_sem,awp_seq,Nat.reduceBEq,Nat.reduceLeDiff,Nat.reduceLT]
    refine roundK_mk ⟨k+1,by omega,hR⟩ ?_ (by show l.length-(k+1)<l.length-k;omega)
    simp (maxSteps:=1000000) -implicitDefEqProofs only [go_sem,awp_seq,Nat.reduceBEq]
  ·have g1:decide (((k:Nat):Int)<(l.length:Nat))=false:=by simp;omega
   rw [List.drop_of_length_le (by omega)]at hR
   have hR:R=false:=by rw [hR];simp
   subst hR
   simp (maxSteps:=1000000) -implicitDefEqProofs only [g1,List.length_map,go_sem,awp_seq,Nat.reduceBEq,Nat.reduceLeDiff,Nat.reduceLT]
theorem put_len (p:Int × Int) (l:List (Int × Int)):(ptE l p).length≤l.length+1:=by
 unfold ptE
 have key:∀(l:List (Int × Int)) (dn:Bool),(ptL p l dn).length≤l.length+1:=by
  intro l
  induction l with
  | nil=>intro dn;cases dn <;> simp [ptL]
  | cons q l ih =>
   intro dn
   have e:=ptL_true p l
   unfold ptL
   split
   ·rw [e];simp
   ·split
    ·rw [e];simp
    ·have:=ih false
     simp only [List.length_cons]
     omega
 exact key l _
set_option maxHeartbeats 1000000 in
theorem norm16_c (l:List (Int × Int)) (hl:l.length≤1000000):AT 56 [.sl 2 (l.map prA)] (.sl 2 ((normE l).map prA)):=by
 rw [←norm16_eq]
 obtain ⟨R,hR⟩:∃R,R=norm16E l:=⟨_,rfl⟩
 rw [←hR]
 have hR:R=l.foldl (fun out q=>ptE out (ordP q)) []:=hR
 refine ACalls.of ⟨5,[],[]⟩ (fn:=Tryz.f56) Tryz.func56 rfl rfl rfl (by kernel_rfl) (by kernel_rfl) (Nat.le_of_ble_eq_true rfl) ?_
 simp (maxSteps:=1000000) -implicitDefEqProofs only [List.length_map,go_sem,awp_seq,Nat.reduceBEq,Nat.reduceAdd,Nat.reduceMul,Nat.reduceLeDiff,Nat.reduceLT]
 refine loop_mk (α:={x:Nat × List (Int × Int) // x.1≤l.length∧R=(l.drop x.1).foldl (fun out q=>ptE out (ordP q)) x.2∧x.2.length≤x.1}) (fun x=>[(0,some (.av (.sl 2 (l.map prA)))),(2,some (.av (.lit (.slice none 0 0)))),(3,some (.av (.sl 2 (x.1.2.map prA)))),(4,some (.av (i64 (x.1.1:Nat))))]) (fun _=>[]) (fun _=>[]) (fun x=>l.length-x.1.1) ⟨(0,[]),Nat.zero_le _,hR,Nat.le_refl _⟩ ?_ ?_
 ·simp (maxSteps:=1000000) -implicitDefEqProofs only [List.map_nil,go_sem,awp_seq,Nat.reduceBEq,Int.cast_ofNat_Int]
 clear hR
 rintro ⟨⟨k,acc⟩,hk,hR,hacc⟩
 dsimp only at hk hR hacc
 by_cases hlt:k<l.length
 ·have g1:decide (((k:Nat):Int)<(l.length:Nat))=true:=by simp;omega
  have e1:=map_get prA l hlt
  have w1:IntKind.i64.wrap ((k:Int)+1)=((k+1:Nat):Int):=by rw [IntWalk.i64_in _ (by omega)];omega
  rw [List.drop_eq_getElem_cons hlt,List.foldl_cons]at hR
  generalize l[k]=q at *
  have P:=put16_c acc (ordP q) (by omega)
  have pl:=put_len (ordP q) acc
  obtain ⟨a,b⟩:=q
  have O:=ordered16_c a b
  generalize ptE acc (ordP (a,b))=acc2 at *
  generalize ordP (a,b)=o at *
  obtain ⟨o1,o2⟩:=o
  have O:AT 77 [i64 a,i64 b] (.agg [i64 o1,i64 o2]):=O
  have P:AT 76 [.sl 2 (acc.map prA),.agg [i64 o1,i64 o2]] (.sl 2 (acc2.map prA)):=P
  simp (maxSteps:=1000000) -implicitDefEqProofs only [g1,e1,List.length_map,Int.toNat_natCast,Int.natCast_nonneg,go_sem,awp_seq,Nat.reduceBEq,Nat.reduceLeDiff,Nat.reduceLT]
  refine callA_tt O ?_
  simp (maxSteps:=1000000) -implicitDefEqProofs only [go_sem,awp_seq,Nat.reduceBEq]
  refine callA_tt P ?_
  simp (maxSteps:=1000000) -implicitDefEqProofs only [w1,go_sem,awp_seq,Nat.reduceBEq,Nat.reduceLeDiff,Nat.reduceLT]
  refine roundK_mk ⟨(k+1,acc2),by show k+1≤_;omega,hR,by show acc2.length≤k+1;omega⟩ ?_ (by show l.length-(k+1)<l.length-k;omega)
  simp (maxSteps:=1000000) -implicitDefEqProofs only [go_sem,awp_seq,Nat.reduceBEq]
 ·have g1:decide (((k:Nat):Int)<(l.length:Nat))=false:=by simp;omega
  rw [List.drop_of_length_le (by omega)]at hR
  have hR:R=acc:=hR
  subst hR
  simp (maxSteps:=1000000) -implicitDefEqProofs only [g1,List.length_map,go_sem,awp_seq,Nat.reduceBEq,Nat.reduceLeDiff,Nat.reduceLT]
set_option maxHeartbeats 8000000 in
set_option maxRecDepth 100000 in
theorem confl16_c (l:List (Int × Int)) (ids:List Int) (hl:l.length≤1000000) (hi:ids.length≤1048576):AT 27 [.sl 2 (l.map prA),.sl 1 (ids.map fun z=>i64 z)] (.sl 2 ((conflE l ids).map prA)):=by
 refine ⟨⟨_,Tryz.func27,by kernel_rfl,by kernel_rfl⟩,fun w Z vs hE hz _ hrep=>?_⟩
 obtain ⟨v1,v2,rfl,q1,q2⟩:=reps2 hrep
 clear hrep
 change Calls Tryz.prog _ _ w _
 have hinf:(Tryz.prog.info? 64).map (fun i=>(i.zero,i.size,i.bytes))=some (some (.agg #[.int .i64 0,.int .i64 0]),2,16):=by kernel_rfl
 obtain ⟨i0,hi0,hz0,hz1,hz2⟩:=info_parts hinf
 have hNl:(normE l).length≤1048576:=by
  have h1:=uniq_le (sortP (normPre l)) none
  rw [sortP_len]at h1
  have h2:=normPre_len l
  unfold normE uniqP
  omega
 have NM:=norm16_c l hl
 obtain ⟨R,hR⟩:∃R,conflE l ids=R:=⟨_,rfl⟩
 rw [hR]
 unfold conflE at hR
 generalize normE l=N at *
 have hNi:((N.length:Nat):Int)≤1048576:=by omega
 go_enter Tryz.func27,Tryz.ntmps27
 go_wp2_with (go_at_call 56;refine (at_call hE NM w Z _ (Below.refl _ _) hz (rep_1 q1)).mono ?_)
 rintro e w2 ⟨x,rfl,hb2,hr2⟩
 obtain ⟨A2,c2,rfl,hc2,hget⟩:=row_cells prVs_len prA_cells hr2
 clear hr2
 go_wp2
 go_loopw [6,7] (fun v i wl=>∃k:Nat,i=.int .i64 k∧k≤N.length∧Below w2.heap.size w2 wl∧wl.ownsRow w2.heap.size tPair 2 v ((N.take k).filter fun p=>decide (p.1∈ids) && decide (p.2∈ids)).length (rowVs prVs ((N.take k).filter fun p=>decide (p.1∈ids) && decide (p.2∈ids)))) (fun _ i _=>N.length-(intOf i).toNat)
 case atStart=>exact ⟨0,rfl,Nat.zero_le _,(Below.refl _ _).alloc (Nat.le_refl _) _,World.ownsRow_made (base:=w2.heap.size) (e:=tPair) (size:=2) w2 #[] 0 (Nat.le_refl _) (by decide) rfl⟩
 case round =>
  obtain ⟨k,rfl,hk,hbl,hown⟩:=hrel
  have hbw:Below w.heap.size w wr:=hb2.trans (hbl.mono hb2.size)
  by_cases hlt:k<N.length
  ·obtain ⟨b,off,rfl,hcell⟩:=hget k hlt
   have step:(N.take (k+1)).filter (fun p=>decide (p.1∈ids) && decide (p.2∈ids))=(N.take k).filter (fun p=>decide (p.1∈ids) && decide (p.2∈ids)) ++ if (decide ((N[k]).1∈ids) && decide ((N[k]).2∈ids))=true then [N[k]] else []:=filt_step (fun p:Int × Int=>decide (p.1∈ids) && decide (p.2∈ids)) hlt
   have hpl:((N.take k).filter fun p=>decide (p.1∈ids) && decide (p.2∈ids)).length≤1048576:=by
    have:=List.length_filter_le (fun p:Int × Int=>decide (p.1∈ids) && decide (p.2∈ids)) (N.take k)
    rw [List.length_take]at this
    omega
   generalize (N.take k).filter (fun p=>decide (p.1∈ids) && decide (p.2∈ids))=P at *
   generalize N[k]=p at *
   obtain ⟨a1,a2⟩:=p
   have cc0:=hcell 0 _ rfl
   have cc1:=hcell 1 _ rfl
   rw [Nat.add_zero]at cc0
   have at_w:∀{W:World},Below w2.heap.size w2 W→W.cell? ⟨b,off+k*2,none⟩=some (.int .i64 a1)∧W.cell? ⟨b,off+k*2+1,none⟩=some (.int .i64 a2):=fun hW=>⟨(hW.cell (p:=⟨b,off+k*2,none⟩) (World.block_lt_of_cell? w2 _ cc0)).trans cc0,(hW.cell (p:=⟨b,off+k*2+1,none⟩) (World.block_lt_of_cell? w2 _ cc1)).trans cc1⟩
   clear hcell hget
   obtain ⟨d0,d1⟩:=at_w hbl
   have g1:((k:Nat):Int)<((N.length:Nat):Int):=by omega
   go_wp2_with (go_at_call 57;refine (at_call hE (has16_c ids a1 hi) wr Z _ hbw (fun b o h=>Nat.lt_of_lt_of_le (hz b o h) hbw.size) (rep_2 (q2.keep (Keeps.ofBelow hbw) fun _ _ h=>h) (.lit rfl))).mono ?_)
   rintro e w4 x rfl hb4 hr4
   obtain rfl:=hr4.lit_eq
   have hB4:Below w.heap.size w w4:=hbw.trans (hb4.mono hbw.size)
   have hC4:Below w2.heap.size w2 w4:=hbl.trans (hb4.mono hbl.size)
   by_cases h1:a1∈ids
   ·rw [decide_eq_true h1]at step ⊢
    obtain ⟨f0,f1⟩:=at_w hC4
    go_wp2_with (go_at_call 57;refine (at_call hE (has16_c ids a2 hi) w4 Z _ hB4 (fun b o h=>Nat.lt_of_lt_of_le (hz b o h) hB4.size) (rep_2 (q2.keep (Keeps.ofBelow hB4) fun _ _ h=>h) (.lit rfl))).mono ?_)
    rintro e w5 ⟨x,rfl,hb5,hr5⟩
    obtain rfl:=hr5.lit_eq
    have hB5:Below w.heap.size w w5:=hB4.trans (hb5.mono hB4.size)
    have hC5:Below w2.heap.size w2 w5:=hC4.trans (hb5.mono hC4.size)
    have hO5:w5.ownsRow w2.heap.size tPair 2 _ P.length (rowVs prVs P):=own_at (own_at hown fun g _ hg=>hb4.block g hg) fun g _ hg=>hb5.block g hg
    by_cases h2:a2∈ids
    ·rw [decide_eq_true h2]at step ⊢
     rw [if_pos (by decide)]at step
     obtain ⟨j0,j1⟩:=at_w hC5
     clear d0 d1 f0 f1 cc0 cc1 at_w hr4 hr5
     go_wp2_with (at_builtin;refine wpList_append_own _ rfl _ _ 26 rfl w2.heap.size tPair i0 (.agg #[.int .i64 0,.int .i64 0]) 2 16 Tryz.underlying26 hi0 hz0 hz1 hz2 rfl (by decide) _ _ _ rfl (hO5.alloc _) _ _ _ (prVs (a1,a2)) rfl rfl ?c1 ?c2 ?c3 ?c4 ?c5 ?_)
     case c1 =>
      intro j u hj
      first|simpa [prVs]using hj|(rw [show (⟨w5.heap.size,0,none⟩:Addr).add j=⟨w5.heap.size,j,none⟩by unfold Addr.add;split <;> simp_all];refine (Lib.cell_of_heap (heap_alloc_new _ _) _).trans ?_;simpa [prVs]using hj)
     case c2=>exact prVs_one _
     case c3=>unfold maxLen;omega
     case c4=>omega
     case c5=>have:=hC5.size;simp;omega
     intro v' w6 hown6 hgrow _
     rw [rowVs_app]at hown6
     have hB6:Below w2.heap.size w2 w6:=(hC5.alloc hC5.size _).grown hgrow (by have:=hC5.size;simp;omega) fun q hq=>(own_zone hO5 hq).1
     go_wp2
     refine ⟨⟨k+1,by simp,by omega,hB6,?_⟩,?_⟩
     ·rw [step,List.length_append]
      exact hown6
     ·simp only [intOf]
      omega
    ·rw [decide_eq_false h2]at step ⊢
     rw [if_neg (by decide),List.append_nil]at step
     clear d0 d1 f0 f1 cc0 cc1 at_w hr4 hr5
     go_wp2
     refine ⟨⟨k+1,by simp,by omega,hC5,?_⟩,?_⟩
     ·rw [step];exact hO5
     ·simp only [intOf]
      omega
   ·rw [decide_eq_false h1]at step ⊢
    rw [if_neg (by simp),List.append_nil]at step
    have hO4:w4.ownsRow w2.heap.size tPair 2 _ P.length (rowVs prVs P):=own_at hown fun g _ hg=>hb4.block g hg
    clear d0 d1 cc0 cc1 at_w hr4
    go_wp2
    refine ⟨⟨k+1,by simp,by omega,hC4,?_⟩,?_⟩
    ·rw [step];exact hO4
    ·simp only [intOf]
     omega
  ·obtain rfl:k=N.length:=by omega
   rw [List.take_length,hR]at hown
   have g1:¬((N.length:Nat):Int)<((N.length:Nat):Int):=by omega
   clear hget
   go_wp2
   go_ret
   refine ⟨_,rfl,hbw,row_rep prVs_len prA_cells prVs_one hown fun g hg o=>.inr ⟨?_,(own_zone hown hg).2⟩⟩
   have:=(own_zone hown hg).1
   have:=hb2.size
   omega
end Go.Proofs.YtmegoiaijfeilaaGreatDoor
set_option linter.unusedSimpArgs false
set_option linter.unusedVariables false
namespace Go.Proofs.YtmegoiaijfeilaaGreatDoor
open Go.RowKit Lim
section
variable {n:Int} {rs:List RuleV} {pk qk:Nat} {pl ql:List AV} {ch:List Int} {cs:List (Int × Int)} {fs:List Bool}
set_option maxHeartbeats 4000000 in
theorem bro33_ff (hl:rs.length≤1000) (hfl:fs.length=rs.length) (G:AT 22 [.agg [i64 n,rulesA rs],.sl pk pl,.sl qk ql] (i64 0)) (S:AT 38 [.sl pk pl,chA ch] (i64 0)) (CF:AT 27 [.sl qk ql,chA ch] (.sl 2 (cs.map prA))) (hcs:cs.isEmpty=true) (hw:(((ch.length:Nat):Int) != n)=false)
  (hf:∀i (hi:i<rs.length) (hi2:i<fs.length),AT 39 [ruleA rs[i],.sl pk pl,chA ch] (boo fs[i])):AT 14 [.agg [i64 n,rulesA rs],.sl pk pl,.sl qk ql,chA ch] (.tup [.sl 1 ((judgeE false false fs).map fun z=>i64 z),i64 0]):=by
 obtain ⟨R,hR⟩:∃R,R=judgeE false false fs:=⟨_,rfl⟩
 rw [←hR]
 have hR:R=[] ++ idxs fs 0:=hR
 have c0:decide ((0:Int)<(cs.length:Nat))=false:=by cases cs <;> simp at hcs ⊢
 have z0:((0:Int) != 0)=false:=rfl
 refine ACalls.of ⟨48,[],[]⟩ (fn:=Tryz.f14) Tryz.func14 rfl rfl rfl (by kernel_rfl) (by kernel_rfl) (Nat.le_of_ble_eq_true rfl) ?_
 simp (maxSteps:=1000000) -implicitDefEqProofs only [go_sem,awp_seq,Nat.reduceBEq,Nat.reduceAdd,Nat.reduceLT]
 refine callA_tt G ?_
 simp (maxSteps:=1000000) -implicitDefEqProofs only [z0,go_sem,awp_seq,Nat.reduceBEq,Nat.reduceLT]
 refine callA_tt S ?_
 simp (maxSteps:=1000000) -implicitDefEqProofs only [z0,hw,List.length_map,go_sem,awp_seq,Nat.reduceBNe,Nat.reduceBEq,Nat.reduceLT]
 refine callA_tt CF ?_
 simp (maxSteps:=1000000) -implicitDefEqProofs only [c0,List.length_map,go_sem,awp_seq,Nat.reduceBNe,Nat.reduceBEq,Nat.reduceLT]
 refine loop_mk (α:={x:Nat × List Int × Bool // x.1≤rs.length∧(x.2.2=false→x.2.1=[])∧R=x.2.1 ++ idxs (fs.drop x.1) x.1∧x.2.1.length≤x.1+2}) (fun x=>[(0,some (.av (.agg [i64 n,rulesA rs]))),(1,some (.av (.sl pk pl))),(2,some (.av (.sl qk ql))),(3,some (.av (chA ch))),(4,some (.ref 4 0)),(8,some (.av (.lit (.slice none 0 0)))),(9,some (.av (i64 0))),(10,some (.av (i64 0))),(11,some (.av (i64 0))),(12,some (bif x.1.2.2 then .osl 59 1 0 x.1.2.1.length else .av (.lit (.slice none 0 0)))),(45,some (.av (rulesA rs))),(46,some (.av (i64 (rs.length:Nat)))),(47,some (.av (i64 (x.1.1:Nat))))]) (fun _=>[(4,[i64 n,rulesA rs])]) (fun x=>bif x.1.2.2 then [(59,.row 3 1 (x.1.2.1.map fun z=>i64 z))] else []) (fun x=>rs.length-x.1.1) ⟨(0,[],false),Nat.zero_le _,fun _=>rfl,hR,by decide⟩ ?_ ?_
 ·simp (maxSteps:=1000000) -implicitDefEqProofs only [cond_false,go_sem,awp_seq,Nat.reduceBEq,Int.cast_ofNat_Int]
 clear hR
 rintro ⟨⟨k,acc,fl⟩,hk,h0,hR,hal⟩
 dsimp only at hk h0 hR hal
 by_cases hlt:k<rs.length
 ·have g1:decide (((k:Nat):Int)<(rs.length:Nat))=true:=by simp;omega
  have e1:=map_get ruleA rs hlt
  have w1:IntKind.i64.wrap ((k:Int)+1)=((k+1:Nat):Int):=by rw [IntWalk.i64_in _ (by omega)];omega
  have F:=hf k hlt (by omega)
  rw [List.drop_eq_getElem_cons (show k<fs.length by omega)]at hR
  generalize rs[k]=r at *
  generalize fs[k]'(by omega)=b at *
  unfold idxs at hR
  cases b with
  | false =>
   have hR:R=acc ++ idxs (fs.drop (k+1)) (k+1):=hR
   cases fl with
   | false =>
    simp (maxSteps:=1000000) -implicitDefEqProofs only [g1,e1,cond_false,Int.toNat_natCast,Int.natCast_nonneg,go_sem,awp_seq,Nat.reduceBEq,Nat.reduceAdd,Nat.reduceLeDiff,Nat.reduceLT,Nat.reduceEqDiff]
    refine callA_tt F ?_
    simp (maxSteps:=1000000) -implicitDefEqProofs only [w1,go_sem,awp_seq,Nat.reduceBEq,Nat.reduceLeDiff,Nat.reduceLT]
    refine roundK_mk ⟨(k+1,acc,false),by show k+1≤_;omega,h0,hR,by show acc.length≤k+1+2;omega⟩ ?_ (by show rs.length-(k+1)<rs.length-k;omega)
    simp (maxSteps:=1000000) -implicitDefEqProofs only [cond_false,go_sem,awp_seq,Nat.reduceBEq]
   | true =>
    simp (maxSteps:=1000000) -implicitDefEqProofs only [g1,e1,cond_true,Int.toNat_natCast,Int.natCast_nonneg,go_sem,awp_seq,Nat.reduceBEq,Nat.reduceAdd,Nat.reduceLeDiff,Nat.reduceLT,Nat.reduceEqDiff]
    refine callA_tt F ?_
    simp (maxSteps:=1000000) -implicitDefEqProofs only [w1,go_sem,awp_seq,Nat.reduceBEq,Nat.reduceLeDiff,Nat.reduceLT]
    refine roundK_mk ⟨(k+1,acc,true),by show k+1≤_;omega,h0,hR,by show acc.length≤k+1+2;omega⟩ ?_ (by show rs.length-(k+1)<rs.length-k;omega)
    simp (maxSteps:=1000000) -implicitDefEqProofs only [cond_true,go_sem,awp_seq,Nat.reduceBEq]
  | true =>
   have hR:R=(acc ++ [(k:Int)]) ++ idxs (fs.drop (k+1)) (k+1):=by rw [List.append_assoc];exact hR
   cases fl with
   | false =>
    obtain rfl:=h0 rfl
    simp (maxSteps:=1000000) -implicitDefEqProofs only [g1,e1,cond_false,Int.toNat_natCast,Int.natCast_nonneg,go_sem,awp_seq,Nat.reduceBEq,Nat.reduceAdd,Nat.reduceLeDiff,Nat.reduceLT,Nat.reduceEqDiff]
    refine callA_tt F ?_
    simp (maxSteps:=1000000) -implicitDefEqProofs only [w1,List.length_cons,List.length_nil,List.cons_append,List.nil_append,go_sem,awp_seq,Nat.reduceBEq,Nat.reduceMul,Nat.reduceLeDiff,Nat.reduceLT]
    refine roundK_mk ⟨(k+1,[(k:Int)],true),by show k+1≤_;omega,fun h=>(by cases h),hR,by show 1≤k+1+2;omega⟩ ?_ (by show rs.length-(k+1)<rs.length-k;omega)
    simp (maxSteps:=1000000) -implicitDefEqProofs only [cond_true,List.length_cons,List.length_nil,List.map_cons,List.map_nil,go_sem,awp_seq,Nat.reduceBEq]
   | true =>
    have ml:(acc.map fun z=>i64 z).length=acc.length:=List.length_map _
    simp (maxSteps:=1000000) -implicitDefEqProofs only [g1,e1,cond_true,Int.toNat_natCast,Int.natCast_nonneg,go_sem,awp_seq,Nat.reduceBEq,Nat.reduceAdd,Nat.reduceLeDiff,Nat.reduceLT,Nat.reduceEqDiff]
    refine callA_tt F ?_
    simp (maxSteps:=1000000) -implicitDefEqProofs only [w1,ml,go_sem,awp_seq,Nat.reduceBEq,Nat.reduceMul,Nat.reduceLeDiff,Nat.reduceLT]
    refine ⟨by omega,by omega,?_⟩
    refine roundK_mk ⟨(k+1,acc ++ [(k:Int)],true),by show k+1≤_;omega,fun h=>(by cases h),hR,by show (acc ++ [(k:Int)]).length≤k+1+2;simp;omega⟩ ?_ (by show rs.length-(k+1)<rs.length-k;omega)
    simp (maxSteps:=1000000) -implicitDefEqProofs only [cond_true,List.length_append,List.length_cons,List.length_nil,List.map_append,List.map_cons,List.map_nil,go_sem,awp_seq,Nat.reduceBEq]
 ·obtain rfl:k=rs.length:=by omega
  rw [List.drop_of_length_le (by omega)]at hR
  have hR:R=acc:=by rw [hR];simp [idxs]
  subst hR
  have g1:decide (((rs.length:Nat):Int)<(rs.length:Nat))=false:=by simp
  cases fl with
  | false =>
   obtain rfl:=h0 rfl
   simp (maxSteps:=1000000) -implicitDefEqProofs only [g1,cond_false,List.map_cons,List.map_nil,go_sem,awp_seq,Nat.reduceBEq,Nat.reduceLT]
   all_goals rfl
  | true =>
   have tk:(R.map fun z=>i64 z).take R.length=R.map fun z=>i64 z:=List.take_of_length_le (by rw [List.length_map];exact Nat.le_refl _)
   simp (maxSteps:=1000000) -implicitDefEqProofs only [g1,tk,cond_true,go_sem,awp_seq,Nat.reduceBEq,Nat.reduceLT]
   exact Nat.le_of_eq (List.length_map _).symm
set_option maxHeartbeats 4000000 in
theorem bro33_ft (hl:rs.length≤1000) (hfl:fs.length=rs.length) (G:AT 22 [.agg [i64 n,rulesA rs],.sl pk pl,.sl qk ql] (i64 0)) (S:AT 38 [.sl pk pl,chA ch] (i64 0)) (CF:AT 27 [.sl qk ql,chA ch] (.sl 2 (cs.map prA))) (hcs:cs.isEmpty=false) (hw:(((ch.length:Nat):Int) != n)=false)
  (hf:∀i (hi:i<rs.length) (hi2:i<fs.length),AT 39 [ruleA rs[i],.sl pk pl,chA ch] (boo fs[i])):AT 14 [.agg [i64 n,rulesA rs],.sl pk pl,.sl qk ql,chA ch] (.tup [.sl 1 ((judgeE false true fs).map fun z=>i64 z),i64 0]):=by
 obtain ⟨R,hR⟩:∃R,R=judgeE false true fs:=⟨_,rfl⟩
 rw [←hR]
 have hR:R=[-2] ++ idxs fs 0:=hR
 have c0:decide ((0:Int)<(cs.length:Nat))=true:=by cases cs <;> simp at hcs ⊢
 have z0:((0:Int) != 0)=false:=rfl
 refine ACalls.of ⟨48,[],[]⟩ (fn:=Tryz.f14) Tryz.func14 rfl rfl rfl (by kernel_rfl) (by kernel_rfl) (Nat.le_of_ble_eq_true rfl) ?_
 simp (maxSteps:=1000000) -implicitDefEqProofs only [go_sem,awp_seq,Nat.reduceBEq,Nat.reduceAdd,Nat.reduceLT]
 refine callA_tt G ?_
 simp (maxSteps:=1000000) -implicitDefEqProofs only [z0,go_sem,awp_seq,Nat.reduceBEq,Nat.reduceLT]
 refine callA_tt S ?_
 simp (maxSteps:=1000000) -implicitDefEqProofs only [z0,hw,List.length_map,go_sem,awp_seq,Nat.reduceBNe,Nat.reduceBEq,Nat.reduceLT]
 refine callA_tt CF ?_
 simp (maxSteps:=1000000) -implicitDefEqProofs only [c0,List.length_map,go_sem,awp_seq,Nat.reduceBNe,Nat.reduceBEq,Nat.reduceMul,Nat.reduceLeDiff,Nat.reduceLT]
 refine loop_mk (α:={x:Nat × List Int × Bool // x.1≤rs.length∧(x.2.2=false→x.2.1=[-2])∧R=x.2.1 ++ idxs (fs.drop x.1) x.1∧x.2.1.length≤x.1+2}) (fun x=>[(0,some (.av (.agg [i64 n,rulesA rs]))),(1,some (.av (.sl pk pl))),(2,some (.av (.sl qk ql))),(3,some (.av (chA ch))),(4,some (.ref 4 0)),(8,some (.av (.lit (.slice none 0 0)))),(9,some (.av (i64 0))),(10,some (.av (i64 0))),(11,some (.av (i64 0))),(12,some (bif x.1.2.2 then .osl 59 1 0 x.1.2.1.length else .osl 43 1 0 1)),(45,some (.av (rulesA rs))),(46,some (.av (i64 (rs.length:Nat)))),(47,some (.av (i64 (x.1.1:Nat))))]) (fun _=>[(4,[i64 n,rulesA rs])]) (fun x=>bif x.1.2.2 then [(59,.row 3 1 (x.1.2.1.map fun z=>i64 z))] else [(43,.row 3 1 [i64 (-2)])]) (fun x=>rs.length-x.1.1) ⟨(0,[-2],false),Nat.zero_le _,fun _=>rfl,hR,by decide⟩ ?_ ?_
 ·simp (maxSteps:=1000000) -implicitDefEqProofs only [cond_false,go_sem,awp_seq,Nat.reduceBEq,Int.cast_ofNat_Int]
 clear hR
 rintro ⟨⟨k,acc,fl⟩,hk,h0,hR,hal⟩
 dsimp only at hk h0 hR hal
 by_cases hlt:k<rs.length
 ·have g1:decide (((k:Nat):Int)<(rs.length:Nat))=true:=by simp;omega
  have e1:=map_get ruleA rs hlt
  have w1:IntKind.i64.wrap ((k:Int)+1)=((k+1:Nat):Int):=by rw [IntWalk.i64_in _ (by omega)];omega
  have F:=hf k hlt (by omega)
  rw [List.drop_eq_getElem_cons (show k<fs.length by omega)]at hR
  generalize rs[k]=r at *
  generalize fs[k]'(by omega)=b at *
  unfold idxs at hR
  cases b with
  | false =>
   have hR:R=acc ++ idxs (fs.drop (k+1)) (k+1):=hR
   cases fl with
   | false =>
    simp (maxSteps:=1000000) -implicitDefEqProofs only [g1,e1,cond_false,Int.toNat_natCast,Int.natCast_nonneg,go_sem,awp_seq,Nat.reduceBEq,Nat.reduceAdd,Nat.reduceLeDiff,Nat.reduceLT,Nat.reduceEqDiff]
    refine callA_tt F ?_
    simp (maxSteps:=1000000) -implicitDefEqProofs only [w1,go_sem,awp_seq,Nat.reduceBEq,Nat.reduceLeDiff,Nat.reduceLT]
    refine roundK_mk ⟨(k+1,acc,false),by show k+1≤_;omega,h0,hR,by show acc.length≤k+1+2;omega⟩ ?_ (by show rs.length-(k+1)<rs.length-k;omega)
    simp (maxSteps:=1000000) -implicitDefEqProofs only [cond_false,go_sem,awp_seq,Nat.reduceBEq]
   | true =>
    simp (maxSteps:=1000000) -implicitDefEqProofs only [g1,e1,cond_true,Int.toNat_natCast,Int.natCast_nonneg,go_sem,awp_seq,Nat.reduceBEq,Nat.reduceAdd,Nat.reduceLeDiff,Nat.reduceLT,Nat.reduceEqDiff]
    refine callA_tt F ?_
    simp (maxSteps:=1000000) -implicitDefEqProofs only [w1,go_sem,awp_seq,Nat.reduceBEq,Nat.reduceLeDiff,Nat.reduceLT]
    refine roundK_mk ⟨(k+1,acc,true),by show k+1≤_;omega,h0,hR,by show acc.length≤k+1+2;omega⟩ ?_ (by show rs.length-(k+1)<rs.length-k;omega)
    simp (maxSteps:=1000000) -implicitDefEqProofs only [cond_true,go_sem,awp_seq,Nat.reduceBEq]
  | true =>
   have hR:R=(acc ++ [(k:Int)]) ++ idxs (fs.drop (k+1)) (k+1):=by rw [List.append_assoc];exact hR
   cases fl with
   | false =>
    obtain rfl:=h0 rfl
    simp (maxSteps:=1000000) -implicitDefEqProofs only [g1,e1,cond_false,Int.toNat_natCast,Int.natCast_nonneg,go_sem,awp_seq,Nat.reduceBEq,Nat.reduceAdd,Nat.reduceLeDiff,Nat.reduceLT,Nat.reduceEqDiff]
    refine callA_tt F ?_
    simp (maxSteps:=1000000) -implicitDefEqProofs only [w1,List.length_cons,List.length_nil,List.cons_append,List.nil_append,go_sem,awp_seq,Nat.reduceBEq,Nat.reduceAdd,Nat.reduceMul,Nat.reduceLeDiff,Nat.reduceLT]
    refine roundK_mk ⟨(k+1,[-2,(k:Int)],true),by show k+1≤_;omega,fun h=>(by cases h),hR,by show 2≤k+1+2;omega⟩ ?_ (by show rs.length-(k+1)<rs.length-k;omega)
    simp (maxSteps:=1000000) -implicitDefEqProofs only [cond_true,List.length_cons,List.length_nil,List.map_cons,List.map_nil,go_sem,awp_seq,Nat.reduceBEq,Nat.reduceAdd]
   | true =>
    have ml:(acc.map fun z=>i64 z).length=acc.length:=List.length_map _
    simp (maxSteps:=1000000) -implicitDefEqProofs only [g1,e1,cond_true,Int.toNat_natCast,Int.natCast_nonneg,go_sem,awp_seq,Nat.reduceBEq,Nat.reduceAdd,Nat.reduceLeDiff,Nat.reduceLT,Nat.reduceEqDiff]
    refine callA_tt F ?_
    simp (maxSteps:=1000000) -implicitDefEqProofs only [w1,ml,go_sem,awp_seq,Nat.reduceBEq,Nat.reduceMul,Nat.reduceLeDiff,Nat.reduceLT]
    refine ⟨by omega,by omega,?_⟩
    refine roundK_mk ⟨(k+1,acc ++ [(k:Int)],true),by show k+1≤_;omega,fun h=>(by cases h),hR,by show (acc ++ [(k:Int)]).length≤k+1+2;simp;omega⟩ ?_ (by show rs.length-(k+1)<rs.length-k;omega)
    simp (maxSteps:=1000000) -implicitDefEqProofs only [cond_true,List.length_append,List.length_cons,List.length_nil,List.map_append,List.map_cons,List.map_nil,go_sem,awp_seq,Nat.reduceBEq]
 ·obtain rfl:k=rs.length:=by omega
  rw [List.drop_of_length_le (by omega)]at hR
  have hR:R=acc:=by rw [hR];simp [idxs]
  subst hR
  have g1:decide (((rs.length:Nat):Int)<(rs.length:Nat))=false:=by simp
  cases fl with
  | false =>
   obtain rfl:=h0 rfl
   simp (maxSteps:=1000000) -implicitDefEqProofs only [g1,cond_false,List.map_cons,List.map_nil,go_sem,awp_seq,Nat.reduceBEq,Nat.reduceLT]
   all_goals rfl
  | true =>
   have tk:(R.map fun z=>i64 z).take R.length=R.map fun z=>i64 z:=List.take_of_length_le (by rw [List.length_map];exact Nat.le_refl _)
   simp (maxSteps:=1000000) -implicitDefEqProofs only [g1,tk,cond_true,go_sem,awp_seq,Nat.reduceBEq,Nat.reduceLT]
   exact Nat.le_of_eq (List.length_map _).symm
set_option maxHeartbeats 4000000 in
theorem bro33_tf (hl:rs.length≤1000) (hfl:fs.length=rs.length) (G:AT 22 [.agg [i64 n,rulesA rs],.sl pk pl,.sl qk ql] (i64 0)) (S:AT 38 [.sl pk pl,chA ch] (i64 0)) (CF:AT 27 [.sl qk ql,chA ch] (.sl 2 (cs.map prA))) (hcs:cs.isEmpty=true) (hw:(((ch.length:Nat):Int) != n)=true)
  (hf:∀i (hi:i<rs.length) (hi2:i<fs.length),AT 39 [ruleA rs[i],.sl pk pl,chA ch] (boo fs[i])):AT 14 [.agg [i64 n,rulesA rs],.sl pk pl,.sl qk ql,chA ch] (.tup [.sl 1 ((judgeE true false fs).map fun z=>i64 z),i64 0]):=by
 obtain ⟨R,hR⟩:∃R,R=judgeE true false fs:=⟨_,rfl⟩
 rw [←hR]
 have hR:R=[-1] ++ idxs fs 0:=hR
 have c0:decide ((0:Int)<(cs.length:Nat))=false:=by cases cs <;> simp at hcs ⊢
 have z0:((0:Int) != 0)=false:=rfl
 refine ACalls.of ⟨48,[],[]⟩ (fn:=Tryz.f14) Tryz.func14 rfl rfl rfl (by kernel_rfl) (by kernel_rfl) (Nat.le_of_ble_eq_true rfl) ?_
 simp (maxSteps:=1000000) -implicitDefEqProofs only [go_sem,awp_seq,Nat.reduceBEq,Nat.reduceAdd,Nat.reduceLT]
 refine callA_tt G ?_
 simp (maxSteps:=1000000) -implicitDefEqProofs only [z0,go_sem,awp_seq,Nat.reduceBEq,Nat.reduceLT]
 refine callA_tt S ?_
 simp (maxSteps:=1000000) -implicitDefEqProofs only [z0,hw,List.length_map,go_sem,awp_seq,Nat.reduceBNe,Nat.reduceBEq,Nat.reduceMul,Nat.reduceLeDiff,Nat.reduceLT]
 refine callA_tt CF ?_
 simp (maxSteps:=1000000) -implicitDefEqProofs only [c0,List.length_map,go_sem,awp_seq,Nat.reduceBNe,Nat.reduceBEq,Nat.reduceLT]
 refine loop_mk (α:={x:Nat × List Int × Bool // x.1≤rs.length∧(x.2.2=false→x.2.1=[-1])∧R=x.2.1 ++ idxs (fs.drop x.1) x.1∧x.2.1.length≤x.1+2}) (fun x=>[(0,some (.av (.agg [i64 n,rulesA rs]))),(1,some (.av (.sl pk pl))),(2,some (.av (.sl qk ql))),(3,some (.av (chA ch))),(4,some (.ref 4 0)),(8,some (.av (.lit (.slice none 0 0)))),(9,some (.av (i64 0))),(10,some (.av (i64 0))),(11,some (.av (i64 0))),(12,some (bif x.1.2.2 then .osl 59 1 0 x.1.2.1.length else .osl 35 1 0 1)),(45,some (.av (rulesA rs))),(46,some (.av (i64 (rs.length:Nat)))),(47,some (.av (i64 (x.1.1:Nat))))]) (fun _=>[(4,[i64 n,rulesA rs])]) (fun x=>bif x.1.2.2 then [(59,.row 3 1 (x.1.2.1.map fun z=>i64 z))] else [(35,.row 3 1 [i64 (-1)])]) (fun x=>rs.length-x.1.1) ⟨(0,[-1],false),Nat.zero_le _,fun _=>rfl,hR,by decide⟩ ?_ ?_
 ·simp (maxSteps:=1000000) -implicitDefEqProofs only [cond_false,go_sem,awp_seq,Nat.reduceBEq,Int.cast_ofNat_Int]
 clear hR
 rintro ⟨⟨k,acc,fl⟩,hk,h0,hR,hal⟩
 dsimp only at hk h0 hR hal
 by_cases hlt:k<rs.length
 ·have g1:decide (((k:Nat):Int)<(rs.length:Nat))=true:=by simp;omega
  have e1:=map_get ruleA rs hlt
  have w1:IntKind.i64.wrap ((k:Int)+1)=((k+1:Nat):Int):=by rw [IntWalk.i64_in _ (by omega)];omega
  have F:=hf k hlt (by omega)
  rw [List.drop_eq_getElem_cons (show k<fs.length by omega)]at hR
  generalize rs[k]=r at *
  generalize fs[k]'(by omega)=b at *
  unfold idxs at hR
  cases b with
  | false =>
   have hR:R=acc ++ idxs (fs.drop (k+1)) (k+1):=hR
   cases fl with
   | false =>
    simp (maxSteps:=1000000) -implicitDefEqProofs only [g1,e1,cond_false,Int.toNat_natCast,Int.natCast_nonneg,go_sem,awp_seq,Nat.reduceBEq,Nat.reduceAdd,Nat.reduceLeDiff,Nat.reduceLT,Nat.reduceEqDiff]
    refine callA_tt F ?_
    simp (maxSteps:=1000000) -implicitDefEqProofs only [w1,go_sem,awp_seq,Nat.reduceBEq,Nat.reduceLeDiff,Nat.reduceLT]
    refine roundK_mk ⟨(k+1,acc,false),by show k+1≤_;omega,h0,hR,by show acc.length≤k+1+2;omega⟩ ?_ (by show rs.length-(k+1)<rs.length-k;omega)
    simp (maxSteps:=1000000) -implicitDefEqProofs only [cond_false,go_sem,awp_seq,Nat.reduceBEq]
   | true =>
    simp (maxSteps:=1000000) -implicitDefEqProofs only [g1,e1,cond_true,Int.toNat_natCast,Int.natCast_nonneg,go_sem,awp_seq,Nat.reduceBEq,Nat.reduceAdd,Nat.reduceLeDiff,Nat.reduceLT,Nat.reduceEqDiff]
    refine callA_tt F ?_
    simp (maxSteps:=1000000) -implicitDefEqProofs only [w1,go_sem,awp_seq,Nat.reduceBEq,Nat.reduceLeDiff,Nat.reduceLT]
    refine roundK_mk ⟨(k+1,acc,true),by show k+1≤_;omega,h0,hR,by show acc.length≤k+1+2;omega⟩ ?_ (by show rs.length-(k+1)<rs.length-k;omega)
    simp (maxSteps:=1000000) -implicitDefEqProofs only [cond_true,go_sem,awp_seq,Nat.reduceBEq]
  | true =>
   have hR:R=(acc ++ [(k:Int)]) ++ idxs (fs.drop (k+1)) (k+1):=by rw [List.append_assoc];exact hR
   cases fl with
   | false =>
    obtain rfl:=h0 rfl
    simp (maxSteps:=1000000) -implicitDefEqProofs only [g1,e1,cond_false,Int.toNat_natCast,Int.natCast_nonneg,go_sem,awp_seq,Nat.reduceBEq,Nat.reduceAdd,Nat.reduceLeDiff,Nat.reduceLT,Nat.reduceEqDiff]
    refine callA_tt F ?_
    simp (maxSteps:=1000000) -implicitDefEqProofs only [w1,List.length_cons,List.length_nil,List.cons_append,List.nil_append,go_sem,awp_seq,Nat.reduceBEq,Nat.reduceAdd,Nat.reduceMul,Nat.reduceLeDiff,Nat.reduceLT]
    refine roundK_mk ⟨(k+1,[-1,(k:Int)],true),by show k+1≤_;omega,fun h=>(by cases h),hR,by show 2≤k+1+2;omega⟩ ?_ (by show rs.length-(k+1)<rs.length-k;omega)
    simp (maxSteps:=1000000) -implicitDefEqProofs only [cond_true,List.length_cons,List.length_nil,List.map_cons,List.map_nil,go_sem,awp_seq,Nat.reduceBEq,Nat.reduceAdd]
   | true =>
    have ml:(acc.map fun z=>i64 z).length=acc.length:=List.length_map _
    simp (maxSteps:=1000000) -implicitDefEqProofs only [g1,e1,cond_true,Int.toNat_natCast,Int.natCast_nonneg,go_sem,awp_seq,Nat.reduceBEq,Nat.reduceAdd,Nat.reduceLeDiff,Nat.reduceLT,Nat.reduceEqDiff]
    refine callA_tt F ?_
    simp (maxSteps:=1000000) -implicitDefEqProofs only [w1,ml,go_sem,awp_seq,Nat.reduceBEq,Nat.reduceMul,Nat.reduceLeDiff,Nat.reduceLT]
    refine ⟨by omega,by omega,?_⟩
    refine roundK_mk ⟨(k+1,acc ++ [(k:Int)],true),by show k+1≤_;omega,fun h=>(by cases h),hR,by show (acc ++ [(k:Int)]).length≤k+1+2;simp;omega⟩ ?_ (by show rs.length-(k+1)<rs.length-k;omega)
    simp (maxSteps:=1000000) -implicitDefEqProofs only [cond_true,List.length_append,List.length_cons,List.length_nil,List.map_append,List.map_cons,List.map_nil,go_sem,awp_seq,Nat.reduceBEq]
 ·obtain rfl:k=rs.length:=by omega
  rw [List.drop_of_length_le (by omega)]at hR
  have hR:R=acc:=by rw [hR];simp [idxs]
  subst hR
  have g1:decide (((rs.length:Nat):Int)<(rs.length:Nat))=false:=by simp
  cases fl with
  | false =>
   obtain rfl:=h0 rfl
   simp (maxSteps:=1000000) -implicitDefEqProofs only [g1,cond_false,List.map_cons,List.map_nil,go_sem,awp_seq,Nat.reduceBEq,Nat.reduceLT]
   all_goals rfl
  | true =>
   have tk:(R.map fun z=>i64 z).take R.length=R.map fun z=>i64 z:=List.take_of_length_le (by rw [List.length_map];exact Nat.le_refl _)
   simp (maxSteps:=1000000) -implicitDefEqProofs only [g1,tk,cond_true,go_sem,awp_seq,Nat.reduceBEq,Nat.reduceLT]
   exact Nat.le_of_eq (List.length_map _).symm
set_option maxHeartbeats 4000000 in
theorem bro33_tt (hl:rs.length≤1000) (hfl:fs.length=rs.length) (G:AT 22 [.agg [i64 n,rulesA rs],.sl pk pl,.sl qk ql] (i64 0)) (S:AT 38 [.sl pk pl,chA ch] (i64 0)) (CF:AT 27 [.sl qk ql,chA ch] (.sl 2 (cs.map prA))) (hcs:cs.isEmpty=false) (hw:(((ch.length:Nat):Int) != n)=true)
  (hf:∀i (hi:i<rs.length) (hi2:i<fs.length),AT 39 [ruleA rs[i],.sl pk pl,chA ch] (boo fs[i])):AT 14 [.agg [i64 n,rulesA rs],.sl pk pl,.sl qk ql,chA ch] (.tup [.sl 1 ((judgeE true true fs).map fun z=>i64 z),i64 0]):=by
 obtain ⟨R,hR⟩:∃R,R=judgeE true true fs:=⟨_,rfl⟩
 rw [←hR]
 have hR:R=[-1,-2] ++ idxs fs 0:=hR
 have c0:decide ((0:Int)<(cs.length:Nat))=true:=by cases cs <;> simp at hcs ⊢
 have z0:((0:Int) != 0)=false:=rfl
 refine ACalls.of ⟨48,[],[]⟩ (fn:=Tryz.f14) Tryz.func14 rfl rfl rfl (by kernel_rfl) (by kernel_rfl) (Nat.le_of_ble_eq_true rfl) ?_
 simp (maxSteps:=1000000) -implicitDefEqProofs only [go_sem,awp_seq,Nat.reduceBEq,Nat.reduceAdd,Nat.reduceLT]
 refine callA_tt G ?_
 simp (maxSteps:=1000000) -implicitDefEqProofs only [z0,go_sem,awp_seq,Nat.reduceBEq,Nat.reduceLT]
 refine callA_tt S ?_
 simp (maxSteps:=1000000) -implicitDefEqProofs only [z0,hw,List.length_map,go_sem,awp_seq,Nat.reduceBNe,Nat.reduceBEq,Nat.reduceMul,Nat.reduceLeDiff,Nat.reduceLT]
 refine callA_tt CF ?_
 simp (maxSteps:=1000000) -implicitDefEqProofs only [c0,List.length_map,go_sem,awp_seq,Nat.reduceBNe,Nat.reduceBEq,Nat.reduceAdd,Nat.reduceMul,Nat.reduceLeDiff,Nat.reduceLT]
 refine loop_mk (α:={x:Nat × List Int × Bool // x.1≤rs.length∧(x.2.2=false→x.2.1=[-1,-2])∧R=x.2.1 ++ idxs (fs.drop x.1) x.1∧x.2.1.length≤x.1+2}) (fun x=>[(0,some (.av (.agg [i64 n,rulesA rs]))),(1,some (.av (.sl pk pl))),(2,some (.av (.sl qk ql))),(3,some (.av (chA ch))),(4,some (.ref 4 0)),(8,some (.av (.lit (.slice none 0 0)))),(9,some (.av (i64 0))),(10,some (.av (i64 0))),(11,some (.av (i64 0))),(12,some (bif x.1.2.2 then .osl 59 1 0 x.1.2.1.length else .osl 43 1 0 2)),(45,some (.av (rulesA rs))),(46,some (.av (i64 (rs.length:Nat)))),(47,some (.av (i64 (x.1.1:Nat))))]) (fun _=>[(4,[i64 n,rulesA rs])]) (fun x=>bif x.1.2.2 then [(59,.row 3 1 (x.1.2.1.map fun z=>i64 z))] else [(43,.row 3 1 [i64 (-1),i64 (-2)])]) (fun x=>rs.length-x.1.1) ⟨(0,[-1,-2],false),Nat.zero_le _,fun _=>rfl,hR,by decide⟩ ?_ ?_
 ·simp (maxSteps:=1000000) -implicitDefEqProofs only [cond_false,go_sem,awp_seq,Nat.reduceBEq,Nat.reduceAdd,Int.cast_ofNat_Int]
 clear hR
 rintro ⟨⟨k,acc,fl⟩,hk,h0,hR,hal⟩
 dsimp only at hk h0 hR hal
 by_cases hlt:k<rs.length
 ·have g1:decide (((k:Nat):Int)<(rs.length:Nat))=true:=by simp;omega
  have e1:=map_get ruleA rs hlt
  have w1:IntKind.i64.wrap ((k:Int)+1)=((k+1:Nat):Int):=by rw [IntWalk.i64_in _ (by omega)];omega
  have F:=hf k hlt (by omega)
  rw [List.drop_eq_getElem_cons (show k<fs.length by omega)]at hR
  generalize rs[k]=r at *
  generalize fs[k]'(by omega)=b at *
  unfold idxs at hR
  cases b with
  | false =>
   have hR:R=acc ++ idxs (fs.drop (k+1)) (k+1):=hR
   cases fl with
   | false =>
    simp (maxSteps:=1000000) -implicitDefEqProofs only [g1,e1,cond_false,Int.toNat_natCast,Int.natCast_nonneg,go_sem,awp_seq,Nat.reduceBEq,Nat.reduceAdd,Nat.reduceLeDiff,Nat.reduceLT,Nat.reduceEqDiff]
    refine callA_tt F ?_
    simp (maxSteps:=1000000) -implicitDefEqProofs only [w1,go_sem,awp_seq,Nat.reduceBEq,Nat.reduceLeDiff,Nat.reduceLT]
    refine roundK_mk ⟨(k+1,acc,false),by show k+1≤_;omega,h0,hR,by show acc.length≤k+1+2;omega⟩ ?_ (by show rs.length-(k+1)<rs.length-k;omega)
    simp (maxSteps:=1000000) -implicitDefEqProofs only [cond_false,go_sem,awp_seq,Nat.reduceBEq]
   | true =>
    simp (maxSteps:=1000000) -implicitDefEqProofs only [g1,e1,cond_true,Int.toNat_natCast,Int.natCast_nonneg,go_sem,awp_seq,Nat.reduceBEq,Nat.reduceAdd,Nat.reduceLeDiff,Nat.reduceLT,Nat.reduceEqDiff]
    refine callA_tt F ?_
    simp (maxSteps:=1000000) -implicitDefEqProofs only [w1,go_sem,awp_seq,Nat.reduceBEq,Nat.reduceLeDiff,Nat.reduceLT]
    refine roundK_mk ⟨(k+1,acc,true),by show k+1≤_;omega,h0,hR,by show acc.length≤k+1+2;omega⟩ ?_ (by show rs.length-(k+1)<rs.length-k;omega)
    simp (maxSteps:=1000000) -implicitDefEqProofs only [cond_true,go_sem,awp_seq,Nat.reduceBEq]
  | true =>
   have hR:R=(acc ++ [(k:Int)]) ++ idxs (fs.drop (k+1)) (k+1):=by rw [List.append_assoc];exact hR
   cases fl with
   | false =>
    obtain rfl:=h0 rfl
    simp (maxSteps:=1000000) -implicitDefEqProofs only [g1,e1,cond_false,Int.toNat_natCast,Int.natCast_nonneg,go_sem,awp_seq,Nat.reduceBEq,Nat.reduceAdd,Nat.reduceLeDiff,Nat.reduceLT,Nat.reduceEqDiff]
    refine callA_tt F ?_
    simp (maxSteps:=1000000) -implicitDefEqProofs only [w1,List.length_cons,List.length_nil,List.cons_append,List.nil_append,go_sem,awp_seq,Nat.reduceBEq,Nat.reduceAdd,Nat.reduceMul,Nat.reduceLeDiff,Nat.reduceLT]
    refine roundK_mk ⟨(k+1,[-1,-2,(k:Int)],true),by show k+1≤_;omega,fun h=>(by cases h),hR,by show 3≤k+1+2;omega⟩ ?_ (by show rs.length-(k+1)<rs.length-k;omega)
    simp (maxSteps:=1000000) -implicitDefEqProofs only [cond_true,List.length_cons,List.length_nil,List.map_cons,List.map_nil,go_sem,awp_seq,Nat.reduceBEq,Nat.reduceAdd]
   | true =>
    have ml:(acc.map fun z=>i64 z).length=acc.length:=List.length_map _
    simp (maxSteps:=1000000) -implicitDefEqProofs only [g1,e1,cond_true,Int.toNat_natCast,Int.natCast_nonneg,go_sem,awp_seq,Nat.reduceBEq,Nat.reduceAdd,Nat.reduceLeDiff,Nat.reduceLT,Nat.reduceEqDiff]
    refine callA_tt F ?_
    simp (maxSteps:=1000000) -implicitDefEqProofs only [w1,ml,go_sem,awp_seq,Nat.reduceBEq,Nat.reduceMul,Nat.reduceLeDiff,Nat.reduceLT]
    refine ⟨by omega,by omega,?_⟩
    refine roundK_mk ⟨(k+1,acc ++ [(k:Int)],true),by show k+1≤_;omega,fun h=>(by cases h),hR,by show (acc ++ [(k:Int)]).length≤k+1+2;simp;omega⟩ ?_ (by show rs.length-(k+1)<rs.length-k;omega)
    simp (maxSteps:=1000000) -implicitDefEqProofs only [cond_true,List.length_append,List.length_cons,List.length_nil,List.map_append,List.map_cons,List.map_nil,go_sem,awp_seq,Nat.reduceBEq]
 ·obtain rfl:k=rs.length:=by omega
  rw [List.drop_of_length_le (by omega)]at hR
  have hR:R=acc:=by rw [hR];simp [idxs]
  subst hR
  have g1:decide (((rs.length:Nat):Int)<(rs.length:Nat))=false:=by simp
  cases fl with
  | false =>
   obtain rfl:=h0 rfl
   simp (maxSteps:=1000000) -implicitDefEqProofs only [g1,cond_false,List.map_cons,List.map_nil,go_sem,awp_seq,Nat.reduceBEq,Nat.reduceAdd,Nat.reduceLT]
   all_goals rfl
  | true =>
   have tk:(R.map fun z=>i64 z).take R.length=R.map fun z=>i64 z:=List.take_of_length_le (by rw [List.length_map];exact Nat.le_refl _)
   simp (maxSteps:=1000000) -implicitDefEqProofs only [g1,tk,cond_true,go_sem,awp_seq,Nat.reduceBEq,Nat.reduceLT]
   exact Nat.le_of_eq (List.length_map _).symm
set_option maxHeartbeats 4000000 in
theorem exd33_ff (hl:rs.length≤1000) (hfl:fs.length=rs.length) (G:AT 22 [.agg [i64 n,rulesA rs],.sl pk pl,.sl qk ql] (i64 0)) (S:AT 38 [.sl pk pl,chA ch] (i64 0)) (CF:AT 27 [.sl qk ql,chA ch] (.sl 2 (cs.map prA))) (hcs:cs.isEmpty=true) (hw:decide (n<((ch.length:Nat):Int))=false)
  (hf:∀i (hi:i<rs.length) (hi2:i<fs.length),AT 41 [ruleA rs[i],.sl pk pl,chA ch] (boo fs[i])):AT 16 [.agg [i64 n,rulesA rs],.sl pk pl,.sl qk ql,chA ch] (.tup [.sl 1 ((judgeE false false fs).map fun z=>i64 z),i64 0]):=by
 obtain ⟨R,hR⟩:∃R,R=judgeE false false fs:=⟨_,rfl⟩
 rw [←hR]
 have hR:R=[] ++ idxs fs 0:=hR
 have c0:decide ((0:Int)<(cs.length:Nat))=false:=by cases cs <;> simp at hcs ⊢
 have z0:((0:Int) != 0)=false:=rfl
 refine ACalls.of ⟨48,[],[]⟩ (fn:=Tryz.f16) Tryz.func16 rfl rfl rfl (by kernel_rfl) (by kernel_rfl) (Nat.le_of_ble_eq_true rfl) ?_
 simp (maxSteps:=1000000) -implicitDefEqProofs only [go_sem,awp_seq,Nat.reduceBEq,Nat.reduceAdd,Nat.reduceLT]
 refine callA_tt G ?_
 simp (maxSteps:=1000000) -implicitDefEqProofs only [z0,go_sem,awp_seq,Nat.reduceBEq,Nat.reduceLT]
 refine callA_tt S ?_
 simp (maxSteps:=1000000) -implicitDefEqProofs only [z0,hw,List.length_map,go_sem,awp_seq,Nat.reduceBNe,Nat.reduceBEq,Nat.reduceLT]
 refine callA_tt CF ?_
 simp (maxSteps:=1000000) -implicitDefEqProofs only [c0,List.length_map,go_sem,awp_seq,Nat.reduceBNe,Nat.reduceBEq,Nat.reduceLT]
 refine loop_mk (α:={x:Nat × List Int × Bool // x.1≤rs.length∧(x.2.2=false→x.2.1=[])∧R=x.2.1 ++ idxs (fs.drop x.1) x.1∧x.2.1.length≤x.1+2}) (fun x=>[(0,some (.av (.agg [i64 n,rulesA rs]))),(1,some (.av (.sl pk pl))),(2,some (.av (.sl qk ql))),(3,some (.av (chA ch))),(4,some (.ref 4 0)),(8,some (.av (.lit (.slice none 0 0)))),(9,some (.av (i64 0))),(10,some (.av (i64 0))),(11,some (.av (i64 0))),(12,some (bif x.1.2.2 then .osl 59 1 0 x.1.2.1.length else .av (.lit (.slice none 0 0)))),(45,some (.av (rulesA rs))),(46,some (.av (i64 (rs.length:Nat)))),(47,some (.av (i64 (x.1.1:Nat))))]) (fun _=>[(4,[i64 n,rulesA rs])]) (fun x=>bif x.1.2.2 then [(59,.row 3 1 (x.1.2.1.map fun z=>i64 z))] else []) (fun x=>rs.length-x.1.1) ⟨(0,[],false),Nat.zero_le _,fun _=>rfl,hR,by decide⟩ ?_ ?_
 ·simp (maxSteps:=1000000) -implicitDefEqProofs only [cond_false,go_sem,awp_seq,Nat.reduceBEq,Int.cast_ofNat_Int]
 clear hR
 rintro ⟨⟨k,acc,fl⟩,hk,h0,hR,hal⟩
 dsimp only at hk h0 hR hal
 by_cases hlt:k<rs.length
 ·have g1:decide (((k:Nat):Int)<(rs.length:Nat))=true:=by simp;omega
  have e1:=map_get ruleA rs hlt
  have w1:IntKind.i64.wrap ((k:Int)+1)=((k+1:Nat):Int):=by rw [IntWalk.i64_in _ (by omega)];omega
  have F:=hf k hlt (by omega)
  rw [List.drop_eq_getElem_cons (show k<fs.length by omega)]at hR
  generalize rs[k]=r at *
  generalize fs[k]'(by omega)=b at *
  unfold idxs at hR
  cases b with
  | false =>
   have hR:R=acc ++ idxs (fs.drop (k+1)) (k+1):=hR
   cases fl with
   | false =>
    simp (maxSteps:=1000000) -implicitDefEqProofs only [g1,e1,cond_false,Int.toNat_natCast,Int.natCast_nonneg,go_sem,awp_seq,Nat.reduceBEq,Nat.reduceAdd,Nat.reduceLeDiff,Nat.reduceLT,Nat.reduceEqDiff]
    refine callA_tt F ?_
    simp (maxSteps:=1000000) -implicitDefEqProofs only [w1,go_sem,awp_seq,Nat.reduceBEq,Nat.reduceLeDiff,Nat.reduceLT]
    refine roundK_mk ⟨(k+1,acc,false),by show k+1≤_;omega,h0,hR,by show acc.length≤k+1+2;omega⟩ ?_ (by show rs.length-(k+1)<rs.length-k;omega)
    simp (maxSteps:=1000000) -implicitDefEqProofs only [cond_false,go_sem,awp_seq,Nat.reduceBEq]
   | true =>
    simp (maxSteps:=1000000) -implicitDefEqProofs only [g1,e1,cond_true,Int.toNat_natCast,Int.natCast_nonneg,go_sem,awp_seq,Nat.reduceBEq,Nat.reduceAdd,Nat.reduceLeDiff,Nat.reduceLT,Nat.reduceEqDiff]
    refine callA_tt F ?_
    simp (maxSteps:=1000000) -implicitDefEqProofs only [w1,go_sem,awp_seq,Nat.reduceBEq,Nat.reduceLeDiff,Nat.reduceLT]
    refine roundK_mk ⟨(k+1,acc,true),by show k+1≤_;omega,h0,hR,by show acc.length≤k+1+2;omega⟩ ?_ (by show rs.length-(k+1)<rs.length-k;omega)
    simp (maxSteps:=1000000) -implicitDefEqProofs only [cond_true,go_sem,awp_seq,Nat.reduceBEq]
  | true =>
   have hR:R=(acc ++ [(k:Int)]) ++ idxs (fs.drop (k+1)) (k+1):=by rw [List.append_assoc];exact hR
   cases fl with
   | false =>
    obtain rfl:=h0 rfl
    simp (maxSteps:=1000000) -implicitDefEqProofs only [g1,e1,cond_false,Int.toNat_natCast,Int.natCast_nonneg,go_sem,awp_seq,Nat.reduceBEq,Nat.reduceAdd,Nat.reduceLeDiff,Nat.reduceLT,Nat.reduceEqDiff]
    refine callA_tt F ?_
    simp (maxSteps:=1000000) -implicitDefEqProofs only [w1,List.length_cons,List.length_nil,List.cons_append,List.nil_append,go_sem,awp_seq,Nat.reduceBEq,Nat.reduceMul,Nat.reduceLeDiff,Nat.reduceLT]
    refine roundK_mk ⟨(k+1,[(k:Int)],true),by show k+1≤_;omega,fun h=>(by cases h),hR,by show 1≤k+1+2;omega⟩ ?_ (by show rs.length-(k+1)<rs.length-k;omega)
    simp (maxSteps:=1000000) -implicitDefEqProofs only [cond_true,List.length_cons,List.length_nil,List.map_cons,List.map_nil,go_sem,awp_seq,Nat.reduceBEq]
   | true =>
    have ml:(acc.map fun z=>i64 z).length=acc.length:=List.length_map _
    simp (maxSteps:=1000000) -implicitDefEqProofs only [g1,e1,cond_true,Int.toNat_natCast,Int.natCast_nonneg,go_sem,awp_seq,Nat.reduceBEq,Nat.reduceAdd,Nat.reduceLeDiff,Nat.reduceLT,Nat.reduceEqDiff]
    refine callA_tt F ?_
    simp (maxSteps:=1000000) -implicitDefEqProofs only [w1,ml,go_sem,awp_seq,Nat.reduceBEq,Nat.reduceMul,Nat.reduceLeDiff,Nat.reduceLT]
    refine ⟨by omega,by omega,?_⟩
    refine roundK_mk ⟨(k+1,acc ++ [(k:Int)],true),by show k+1≤_;omega,fun h=>(by cases h),hR,by show (acc ++ [(k:Int)]).length≤k+1+2;simp;omega⟩ ?_ (by show rs.length-(k+1)<rs.length-k;omega)
    simp (maxSteps:=1000000) -implicitDefEqProofs only [cond_true,List.length_append,List.length_cons,List.length_nil,List.map_append,List.map_cons,List.map_nil,go_sem,awp_seq,Nat.reduceBEq]
 ·obtain rfl:k=rs.length:=by omega
  rw [List.drop_of_length_le (by omega)]at hR
  have hR:R=acc:=by rw [hR];simp [idxs]
  subst hR
  have g1:decide (((rs.length:Nat):Int)<(rs.length:Nat))=false:=by simp
  cases fl with
  | false =>
   obtain rfl:=h0 rfl
   simp (maxSteps:=1000000) -implicitDefEqProofs only [g1,cond_false,List.map_cons,List.map_nil,go_sem,awp_seq,Nat.reduceBEq,Nat.reduceLT]
   all_goals rfl
  | true =>
   have tk:(R.map fun z=>i64 z).take R.length=R.map fun z=>i64 z:=List.take_of_length_le (by rw [List.length_map];exact Nat.le_refl _)
   simp (maxSteps:=1000000) -implicitDefEqProofs only [g1,tk,cond_true,go_sem,awp_seq,Nat.reduceBEq,Nat.reduceLT]
   exact Nat.le_of_eq (List.length_map _).symm
set_option maxHeartbeats 4000000 in
theorem exd33_ft (hl:rs.length≤1000) (hfl:fs.length=rs.length) (G:AT 22 [.agg [i64 n,rulesA rs],.sl pk pl,.sl qk ql] (i64 0)) (S:AT 38 [.sl pk pl,chA ch] (i64 0)) (CF:AT 27 [.sl qk ql,chA ch] (.sl 2 (cs.map prA))) (hcs:cs.isEmpty=false) (hw:decide (n<((ch.length:Nat):Int))=false)
  (hf:∀i (hi:i<rs.length) (hi2:i<fs.length),AT 41 [ruleA rs[i],.sl pk pl,chA ch] (boo fs[i])):AT 16 [.agg [i64 n,rulesA rs],.sl pk pl,.sl qk ql,chA ch] (.tup [.sl 1 ((judgeE false true fs).map fun z=>i64 z),i64 0]):=by
 obtain ⟨R,hR⟩:∃R,R=judgeE false true fs:=⟨_,rfl⟩
 rw [←hR]
 have hR:R=[-2] ++ idxs fs 0:=hR
 have c0:decide ((0:Int)<(cs.length:Nat))=true:=by cases cs <;> simp at hcs ⊢
 have z0:((0:Int) != 0)=false:=rfl
 refine ACalls.of ⟨48,[],[]⟩ (fn:=Tryz.f16) Tryz.func16 rfl rfl rfl (by kernel_rfl) (by kernel_rfl) (Nat.le_of_ble_eq_true rfl) ?_
 simp (maxSteps:=1000000) -implicitDefEqProofs only [go_sem,awp_seq,Nat.reduceBEq,Nat.reduceAdd,Nat.reduceLT]
 refine callA_tt G ?_
 simp (maxSteps:=1000000) -implicitDefEqProofs only [z0,go_sem,awp_seq,Nat.reduceBEq,Nat.reduceLT]
 refine callA_tt S ?_
 simp (maxSteps:=1000000) -implicitDefEqProofs only [z0,hw,List.length_map,go_sem,awp_seq,Nat.reduceBNe,Nat.reduceBEq,Nat.reduceLT]
 refine callA_tt CF ?_
 simp (maxSteps:=1000000) -implicitDefEqProofs only [c0,List.length_map,go_sem,awp_seq,Nat.reduceBNe,Nat.reduceBEq,Nat.reduceMul,Nat.reduceLeDiff,Nat.reduceLT]
 refine loop_mk (α:={x:Nat × List Int × Bool // x.1≤rs.length∧(x.2.2=false→x.2.1=[-2])∧R=x.2.1 ++ idxs (fs.drop x.1) x.1∧x.2.1.length≤x.1+2}) (fun x=>[(0,some (.av (.agg [i64 n,rulesA rs]))),(1,some (.av (.sl pk pl))),(2,some (.av (.sl qk ql))),(3,some (.av (chA ch))),(4,some (.ref 4 0)),(8,some (.av (.lit (.slice none 0 0)))),(9,some (.av (i64 0))),(10,some (.av (i64 0))),(11,some (.av (i64 0))),(12,some (bif x.1.2.2 then .osl 59 1 0 x.1.2.1.length else .osl 43 1 0 1)),(45,some (.av (rulesA rs))),(46,some (.av (i64 (rs.length:Nat)))),(47,some (.av (i64 (x.1.1:Nat))))]) (fun _=>[(4,[i64 n,rulesA rs])]) (fun x=>bif x.1.2.2 then [(59,.row 3 1 (x.1.2.1.map fun z=>i64 z))] else [(43,.row 3 1 [i64 (-2)])]) (fun x=>rs.length-x.1.1) ⟨(0,[-2],false),Nat.zero_le _,fun _=>rfl,hR,by decide⟩ ?_ ?_
 ·simp (maxSteps:=1000000) -implicitDefEqProofs only [cond_false,go_sem,awp_seq,Nat.reduceBEq,Int.cast_ofNat_Int]
 clear hR
 rintro ⟨⟨k,acc,fl⟩,hk,h0,hR,hal⟩
 dsimp only at hk h0 hR hal
 by_cases hlt:k<rs.length
 ·have g1:decide (((k:Nat):Int)<(rs.length:Nat))=true:=by simp;omega
  have e1:=map_get ruleA rs hlt
  have w1:IntKind.i64.wrap ((k:Int)+1)=((k+1:Nat):Int):=by rw [IntWalk.i64_in _ (by omega)];omega
  have F:=hf k hlt (by omega)
  rw [List.drop_eq_getElem_cons (show k<fs.length by omega)]at hR
  generalize rs[k]=r at *
  generalize fs[k]'(by omega)=b at *
  unfold idxs at hR
  cases b with
  | false =>
   have hR:R=acc ++ idxs (fs.drop (k+1)) (k+1):=hR
   cases fl with
   | false =>
    simp (maxSteps:=1000000) -implicitDefEqProofs only [g1,e1,cond_false,Int.toNat_natCast,Int.natCast_nonneg,go_sem,awp_seq,Nat.reduceBEq,Nat.reduceAdd,Nat.reduceLeDiff,Nat.reduceLT,Nat.reduceEqDiff]
    refine callA_tt F ?_
    simp (maxSteps:=1000000) -implicitDefEqProofs only [w1,go_sem,awp_seq,Nat.reduceBEq,Nat.reduceLeDiff,Nat.reduceLT]
    refine roundK_mk ⟨(k+1,acc,false),by show k+1≤_;omega,h0,hR,by show acc.length≤k+1+2;omega⟩ ?_ (by show rs.length-(k+1)<rs.length-k;omega)
    simp (maxSteps:=1000000) -implicitDefEqProofs only [cond_false,go_sem,awp_seq,Nat.reduceBEq]
   | true =>
    simp (maxSteps:=1000000) -implicitDefEqProofs only [g1,e1,cond_true,Int.toNat_natCast,Int.natCast_nonneg,go_sem,awp_seq,Nat.reduceBEq,Nat.reduceAdd,Nat.reduceLeDiff,Nat.reduceLT,Nat.reduceEqDiff]
    refine callA_tt F ?_
    simp (maxSteps:=1000000) -implicitDefEqProofs only [w1,go_sem,awp_seq,Nat.reduceBEq,Nat.reduceLeDiff,Nat.reduceLT]
    refine roundK_mk ⟨(k+1,acc,true),by show k+1≤_;omega,h0,hR,by show acc.length≤k+1+2;omega⟩ ?_ (by show rs.length-(k+1)<rs.length-k;omega)
    simp (maxSteps:=1000000) -implicitDefEqProofs only [cond_true,go_sem,awp_seq,Nat.reduceBEq]
  | true =>
   have hR:R=(acc ++ [(k:Int)]) ++ idxs (fs.drop (k+1)) (k+1):=by rw [List.append_assoc];exact hR
   cases fl with
   | false =>
    obtain rfl:=h0 rfl
    simp (maxSteps:=1000000) -implicitDefEqProofs only [g1,e1,cond_false,Int.toNat_natCast,Int.natCast_nonneg,go_sem,awp_seq,Nat.reduceBEq,Nat.reduceAdd,Nat.reduceLeDiff,Nat.reduceLT,Nat.reduceEqDiff]
    refine callA_tt F ?_
    simp (maxSteps:=1000000) -implicitDefEqProofs only [w1,List.length_cons,List.length_nil,List.cons_append,List.nil_append,go_sem,awp_seq,Nat.reduceBEq,Nat.reduceAdd,Nat.reduceMul,Nat.reduceLeDiff,Nat.reduceLT]
    refine roundK_mk ⟨(k+1,[-2,(k:Int)],true),by show k+1≤_;omega,fun h=>(by cases h),hR,by show 2≤k+1+2;omega⟩ ?_ (by show rs.length-(k+1)<rs.length-k;omega)
    simp (maxSteps:=1000000) -implicitDefEqProofs only [cond_true,List.length_cons,List.length_nil,List.map_cons,List.map_nil,go_sem,awp_seq,Nat.reduceBEq,Nat.reduceAdd]
   | true =>
    have ml:(acc.map fun z=>i64 z).length=acc.length:=List.length_map _
    simp (maxSteps:=1000000) -implicitDefEqProofs only [g1,e1,cond_true,Int.toNat_natCast,Int.natCast_nonneg,go_sem,awp_seq,Nat.reduceBEq,Nat.reduceAdd,Nat.reduceLeDiff,Nat.reduceLT,Nat.reduceEqDiff]
    refine callA_tt F ?_
    simp (maxSteps:=1000000) -implicitDefEqProofs only [w1,ml,go_sem,awp_seq,Nat.reduceBEq,Nat.reduceMul,Nat.reduceLeDiff,Nat.reduceLT]
    refine ⟨by omega,by omega,?_⟩
    refine roundK_mk ⟨(k+1,acc ++ [(k:Int)],true),by show k+1≤_;omega,fun h=>(by cases h),hR,by show (acc ++ [(k:Int)]).length≤k+1+2;simp;omega⟩ ?_ (by show rs.length-(k+1)<rs.length-k;omega)
    simp (maxSteps:=1000000) -implicitDefEqProofs only [cond_true,List.length_append,List.length_cons,List.length_nil,List.map_append,List.map_cons,List.map_nil,go_sem,awp_seq,Nat.reduceBEq]
 ·obtain rfl:k=rs.length:=by omega
  rw [List.drop_of_length_le (by omega)]at hR
  have hR:R=acc:=by rw [hR];simp [idxs]
  subst hR
  have g1:decide (((rs.length:Nat):Int)<(rs.length:Nat))=false:=by simp
  cases fl with
  | false =>
   obtain rfl:=h0 rfl
   simp (maxSteps:=1000000) -implicitDefEqProofs only [g1,cond_false,List.map_cons,List.map_nil,go_sem,awp_seq,Nat.reduceBEq,Nat.reduceLT]
   all_goals rfl
  | true =>
   have tk:(R.map fun z=>i64 z).take R.length=R.map fun z=>i64 z:=List.take_of_length_le (by rw [List.length_map];exact Nat.le_refl _)
   simp (maxSteps:=1000000) -implicitDefEqProofs only [g1,tk,cond_true,go_sem,awp_seq,Nat.reduceBEq,Nat.reduceLT]
   exact Nat.le_of_eq (List.length_map _).symm
set_option maxHeartbeats 4000000 in
theorem exd33_tf (hl:rs.length≤1000) (hfl:fs.length=rs.length) (G:AT 22 [.agg [i64 n,rulesA rs],.sl pk pl,.sl qk ql] (i64 0)) (S:AT 38 [.sl pk pl,chA ch] (i64 0)) (CF:AT 27 [.sl qk ql,chA ch] (.sl 2 (cs.map prA))) (hcs:cs.isEmpty=true) (hw:decide (n<((ch.length:Nat):Int))=true)
  (hf:∀i (hi:i<rs.length) (hi2:i<fs.length),AT 41 [ruleA rs[i],.sl pk pl,chA ch] (boo fs[i])):AT 16 [.agg [i64 n,rulesA rs],.sl pk pl,.sl qk ql,chA ch] (.tup [.sl 1 ((judgeE true false fs).map fun z=>i64 z),i64 0]):=by
 obtain ⟨R,hR⟩:∃R,R=judgeE true false fs:=⟨_,rfl⟩
 rw [←hR]
 have hR:R=[-1] ++ idxs fs 0:=hR
 have c0:decide ((0:Int)<(cs.length:Nat))=false:=by cases cs <;> simp at hcs ⊢
 have z0:((0:Int) != 0)=false:=rfl
 refine ACalls.of ⟨48,[],[]⟩ (fn:=Tryz.f16) Tryz.func16 rfl rfl rfl (by kernel_rfl) (by kernel_rfl) (Nat.le_of_ble_eq_true rfl) ?_
 simp (maxSteps:=1000000) -implicitDefEqProofs only [go_sem,awp_seq,Nat.reduceBEq,Nat.reduceAdd,Nat.reduceLT]
 refine callA_tt G ?_
 simp (maxSteps:=1000000) -implicitDefEqProofs only [z0,go_sem,awp_seq,Nat.reduceBEq,Nat.reduceLT]
 refine callA_tt S ?_
 simp (maxSteps:=1000000) -implicitDefEqProofs only [z0,hw,List.length_map,go_sem,awp_seq,Nat.reduceBNe,Nat.reduceBEq,Nat.reduceMul,Nat.reduceLeDiff,Nat.reduceLT]
 refine callA_tt CF ?_
 simp (maxSteps:=1000000) -implicitDefEqProofs only [c0,List.length_map,go_sem,awp_seq,Nat.reduceBNe,Nat.reduceBEq,Nat.reduceLT]
 refine loop_mk (α:={x:Nat × List Int × Bool // x.1≤rs.length∧(x.2.2=false→x.2.1=[-1])∧R=x.2.1 ++ idxs (fs.drop x.1) x.1∧x.2.1.length≤x.1+2}) (fun x=>[(0,some (.av (.agg [i64 n,rulesA rs]))),(1,some (.av (.sl pk pl))),(2,some (.av (.sl qk ql))),(3,some (.av (chA ch))),(4,some (.ref 4 0)),(8,some (.av (.lit (.slice none 0 0)))),(9,some (.av (i64 0))),(10,some (.av (i64 0))),(11,some (.av (i64 0))),(12,some (bif x.1.2.2 then .osl 59 1 0 x.1.2.1.length else .osl 35 1 0 1)),(45,some (.av (rulesA rs))),(46,some (.av (i64 (rs.length:Nat)))),(47,some (.av (i64 (x.1.1:Nat))))]) (fun _=>[(4,[i64 n,rulesA rs])]) (fun x=>bif x.1.2.2 then [(59,.row 3 1 (x.1.2.1.map fun z=>i64 z))] else [(35,.row 3 1 [i64 (-1)])]) (fun x=>rs.length-x.1.1) ⟨(0,[-1],false),Nat.zero_le _,fun _=>rfl,hR,by decide⟩ ?_ ?_
 ·simp (maxSteps:=1000000) -implicitDefEqProofs only [cond_false,go_sem,awp_seq,Nat.reduceBEq,Int.cast_ofNat_Int]
 clear hR
 rintro ⟨⟨k,acc,fl⟩,hk,h0,hR,hal⟩
 dsimp only at hk h0 hR hal
 by_cases hlt:k<rs.length
 ·have g1:decide (((k:Nat):Int)<(rs.length:Nat))=true:=by simp;omega
  have e1:=map_get ruleA rs hlt
  have w1:IntKind.i64.wrap ((k:Int)+1)=((k+1:Nat):Int):=by rw [IntWalk.i64_in _ (by omega)];omega
  have F:=hf k hlt (by omega)
  rw [List.drop_eq_getElem_cons (show k<fs.length by omega)]at hR
  generalize rs[k]=r at *
  generalize fs[k]'(by omega)=b at *
  unfold idxs at hR
  cases b with
  | false =>
   have hR:R=acc ++ idxs (fs.drop (k+1)) (k+1):=hR
   cases fl with
   | false =>
    simp (maxSteps:=1000000) -implicitDefEqProofs only [g1,e1,cond_false,Int.toNat_natCast,Int.natCast_nonneg,go_sem,awp_seq,Nat.reduceBEq,Nat.reduceAdd,Nat.reduceLeDiff,Nat.reduceLT,Nat.reduceEqDiff]
    refine callA_tt F ?_
    simp (maxSteps:=1000000) -implicitDefEqProofs only [w1,go_sem,awp_seq,Nat.reduceBEq,Nat.reduceLeDiff,Nat.reduceLT]
    refine roundK_mk ⟨(k+1,acc,false),by show k+1≤_;omega,h0,hR,by show acc.length≤k+1+2;omega⟩ ?_ (by show rs.length-(k+1)<rs.length-k;omega)
    simp (maxSteps:=1000000) -implicitDefEqProofs only [cond_false,go_sem,awp_seq,Nat.reduceBEq]
   | true =>
    simp (maxSteps:=1000000) -implicitDefEqProofs only [g1,e1,cond_true,Int.toNat_natCast,Int.natCast_nonneg,go_sem,awp_seq,Nat.reduceBEq,Nat.reduceAdd,Nat.reduceLeDiff,Nat.reduceLT,Nat.reduceEqDiff]
    refine callA_tt F ?_
    simp (maxSteps:=1000000) -implicitDefEqProofs only [w1,go_sem,awp_seq,Nat.reduceBEq,Nat.reduceLeDiff,Nat.reduceLT]
    refine roundK_mk ⟨(k+1,acc,true),by show k+1≤_;omega,h0,hR,by show acc.length≤k+1+2;omega⟩ ?_ (by show rs.length-(k+1)<rs.length-k;omega)
    simp (maxSteps:=1000000) -implicitDefEqProofs only [cond_true,go_sem,awp_seq,Nat.reduceBEq]
  | true =>
   have hR:R=(acc ++ [(k:Int)]) ++ idxs (fs.drop (k+1)) (k+1):=by rw [List.append_assoc];exact hR
   cases fl with
   | false =>
    obtain rfl:=h0 rfl
    simp (maxSteps:=1000000) -implicitDefEqProofs only [g1,e1,cond_false,Int.toNat_natCast,Int.natCast_nonneg,go_sem,awp_seq,Nat.reduceBEq,Nat.reduceAdd,Nat.reduceLeDiff,Nat.reduceLT,Nat.reduceEqDiff]
    refine callA_tt F ?_
    simp (maxSteps:=1000000) -implicitDefEqProofs only [w1,List.length_cons,List.length_nil,List.cons_append,List.nil_append,go_sem,awp_seq,Nat.reduceBEq,Nat.reduceAdd,Nat.reduceMul,Nat.reduceLeDiff,Nat.reduceLT]
    refine roundK_mk ⟨(k+1,[-1,(k:Int)],true),by show k+1≤_;omega,fun h=>(by cases h),hR,by show 2≤k+1+2;omega⟩ ?_ (by show rs.length-(k+1)<rs.length-k;omega)
    simp (maxSteps:=1000000) -implicitDefEqProofs only [cond_true,List.length_cons,List.length_nil,List.map_cons,List.map_nil,go_sem,awp_seq,Nat.reduceBEq,Nat.reduceAdd]
   | true =>
    have ml:(acc.map fun z=>i64 z).length=acc.length:=List.length_map _
    simp (maxSteps:=1000000) -implicitDefEqProofs only [g1,e1,cond_true,Int.toNat_natCast,Int.natCast_nonneg,go_sem,awp_seq,Nat.reduceBEq,Nat.reduceAdd,Nat.reduceLeDiff,Nat.reduceLT,Nat.reduceEqDiff]
    refine callA_tt F ?_
    simp (maxSteps:=1000000) -implicitDefEqProofs only [w1,ml,go_sem,awp_seq,Nat.reduceBEq,Nat.reduceMul,Nat.reduceLeDiff,Nat.reduceLT]
    refine ⟨by omega,by omega,?_⟩
    refine roundK_mk ⟨(k+1,acc ++ [(k:Int)],true),by show k+1≤_;omega,fun h=>(by cases h),hR,by show (acc ++ [(k:Int)]).length≤k+1+2;simp;omega⟩ ?_ (by show rs.length-(k+1)<rs.length-k;omega)
    simp (maxSteps:=1000000) -implicitDefEqProofs only [cond_true,List.length_append,List.length_cons,List.length_nil,List.map_append,List.map_cons,List.map_nil,go_sem,awp_seq,Nat.reduceBEq]
 ·obtain rfl:k=rs.length:=by omega
  rw [List.drop_of_length_le (by omega)]at hR
  have hR:R=acc:=by rw [hR];simp [idxs]
  subst hR
  have g1:decide (((rs.length:Nat):Int)<(rs.length:Nat))=false:=by simp
  cases fl with
  | false =>
   obtain rfl:=h0 rfl
   simp (maxSteps:=1000000) -implicitDefEqProofs only [g1,cond_false,List.map_cons,List.map_nil,go_sem,awp_seq,Nat.reduceBEq,Nat.reduceLT]
   all_goals rfl
  | true =>
   have tk:(R.map fun z=>i64 z).take R.length=R.map fun z=>i64 z:=List.take_of_length_le (by rw [List.length_map];exact Nat.le_refl _)
   simp (maxSteps:=1000000) -implicitDefEqProofs only [g1,tk,cond_true,go_sem,awp_seq,Nat.reduceBEq,Nat.reduceLT]
   exact Nat.le_of_eq (List.length_map _).symm
set_option maxHeartbeats 4000000 in
theorem exd33_tt (hl:rs.length≤1000) (hfl:fs.length=rs.length) (G:AT 22 [.agg [i64 n,rulesA rs],.sl pk pl,.sl qk ql] (i64 0)) (S:AT 38 [.sl pk pl,chA ch] (i64 0)) (CF:AT 27 [.sl qk ql,chA ch] (.sl 2 (cs.map prA))) (hcs:cs.isEmpty=false) (hw:decide (n<((ch.length:Nat):Int))=true)
  (hf:∀i (hi:i<rs.length) (hi2:i<fs.length),AT 41 [ruleA rs[i],.sl pk pl,chA ch] (boo fs[i])):AT 16 [.agg [i64 n,rulesA rs],.sl pk pl,.sl qk ql,chA ch] (.tup [.sl 1 ((judgeE true true fs).map fun z=>i64 z),i64 0]):=by
 obtain ⟨R,hR⟩:∃R,R=judgeE true true fs:=⟨_,rfl⟩
 rw [←hR]
 have hR:R=[-1,-2] ++ idxs fs 0:=hR
 have c0:decide ((0:Int)<(cs.length:Nat))=true:=by cases cs <;> simp at hcs ⊢
 have z0:((0:Int) != 0)=false:=rfl
 refine ACalls.of ⟨48,[],[]⟩ (fn:=Tryz.f16) Tryz.func16 rfl rfl rfl (by kernel_rfl) (by kernel_rfl) (Nat.le_of_ble_eq_true rfl) ?_
 simp (maxSteps:=1000000) -implicitDefEqProofs only [go_sem,awp_seq,Nat.reduceBEq,Nat.reduceAdd,Nat.reduceLT]
 refine callA_tt G ?_
 simp (maxSteps:=1000000) -implicitDefEqProofs only [z0,go_sem,awp_seq,Nat.reduceBEq,Nat.reduceLT]
 refine callA_tt S ?_
 simp (maxSteps:=1000000) -implicitDefEqProofs only [z0,hw,List.length_map,go_sem,awp_seq,Nat.reduceBNe,Nat.reduceBEq,Nat.reduceMul,Nat.reduceLeDiff,Nat.reduceLT]
 refine callA_tt CF ?_
 simp (maxSteps:=1000000) -implicitDefEqProofs only [c0,List.length_map,go_sem,awp_seq,Nat.reduceBNe,Nat.reduceBEq,Nat.reduceAdd,Nat.reduceMul,Nat.reduceLeDiff,Nat.reduceLT]
 refine loop_mk (α:={x:Nat × List Int × Bool // x.1≤rs.length∧(x.2.2=false→x.2.1=[-1,-2])∧R=x.2.1 ++ idxs (fs.drop x.1) x.1∧x.2.1.length≤x.1+2}) (fun x=>[(0,some (.av (.agg [i64 n,rulesA rs]))),(1,some (.av (.sl pk pl))),(2,some (.av (.sl qk ql))),(3,some (.av (chA ch))),(4,some (.ref 4 0)),(8,some (.av (.lit (.slice none 0 0)))),(9,some (.av (i64 0))),(10,some (.av (i64 0))),(11,some (.av (i64 0))),(12,some (bif x.1.2.2 then .osl 59 1 0 x.1.2.1.length else .osl 43 1 0 2)),(45,some (.av (rulesA rs))),(46,some (.av (i64 (rs.length:Nat)))),(47,some (.av (i64 (x.1.1:Nat))))]) (fun _=>[(4,[i64 n,rulesA rs])]) (fun x=>bif x.1.2.2 then [(59,.row 3 1 (x.1.2.1.map fun z=>i64 z))] else [(43,.row 3 1 [i64 (-1),i64 (-2)])]) (fun x=>rs.length-x.1.1) ⟨(0,[-1,-2],false),Nat.zero_le _,fun _=>rfl,hR,by decide⟩ ?_ ?_
 ·simp (maxSteps:=1000000) -implicitDefEqProofs only [cond_false,go_sem,awp_seq,Nat.reduceBEq,Nat.reduceAdd,Int.cast_ofNat_Int]
 clear hR
 rintro ⟨⟨k,acc,fl⟩,hk,h0,hR,hal⟩
 dsimp only at hk h0 hR hal
 by_cases hlt:k<rs.length
 ·have g1:decide (((k:Nat):Int)<(rs.length:Nat))=true:=by simp;omega
  have e1:=map_get ruleA rs hlt
  have w1:IntKind.i64.wrap ((k:Int)+1)=((k+1:Nat):Int):=by rw [IntWalk.i64_in _ (by omega)];omega
  have F:=hf k hlt (by omega)
  rw [List.drop_eq_getElem_cons (show k<fs.length by omega)]at hR
  generalize rs[k]=r at *
  generalize fs[k]'(by omega)=b at *
  unfold idxs at hR
  cases b with
  | false =>
   have hR:R=acc ++ idxs (fs.drop (k+1)) (k+1):=hR
   cases fl with
   | false =>
    simp (maxSteps:=1000000) -implicitDefEqProofs only [g1,e1,cond_false,Int.toNat_natCast,Int.natCast_nonneg,go_sem,awp_seq,Nat.reduceBEq,Nat.reduceAdd,Nat.reduceLeDiff,Nat.reduceLT,Nat.reduceEqDiff]
    refine callA_tt F ?_
    simp (maxSteps:=1000000) -implicitDefEqProofs only [w1,go_sem,awp_seq,Nat.reduceBEq,Nat.reduceLeDiff,Nat.reduceLT]
    refine roundK_mk ⟨(k+1,acc,false),by show k+1≤_;omega,h0,hR,by show acc.length≤k+1+2;omega⟩ ?_ (by show rs.length-(k+1)<rs.length-k;omega)
    simp (maxSteps:=1000000) -implicitDefEqProofs only [cond_false,go_sem,awp_seq,Nat.reduceBEq]
   | true =>
    simp (maxSteps:=1000000) -implicitDefEqProofs only [g1,e1,cond_true,Int.toNat_natCast,Int.natCast_nonneg,go_sem,awp_seq,Nat.reduceBEq,Nat.reduceAdd,Nat.reduceLeDiff,Nat.reduceLT,Nat.reduceEqDiff]
    refine callA_tt F ?_
    simp (maxSteps:=1000000) -implicitDefEqProofs only [w1,go_sem,awp_seq,Nat.reduceBEq,Nat.reduceLeDiff,Nat.reduceLT]
    refine roundK_mk ⟨(k+1,acc,true),by show k+1≤_;omega,h0,hR,by show acc.length≤k+1+2;omega⟩ ?_ (by show rs.length-(k+1)<rs.length-k;omega)
    simp (maxSteps:=1000000) -implicitDefEqProofs only [cond_true,go_sem,awp_seq,Nat.reduceBEq]
  | true =>
   have hR:R=(acc ++ [(k:Int)]) ++ idxs (fs.drop (k+1)) (k+1):=by rw [List.append_assoc];exact hR
   cases fl with
   | false =>
    obtain rfl:=h0 rfl
    simp (maxSteps:=1000000) -implicitDefEqProofs only [g1,e1,cond_false,Int.toNat_natCast,Int.natCast_nonneg,go_sem,awp_seq,Nat.reduceBEq,Nat.reduceAdd,Nat.reduceLeDiff,Nat.reduceLT,Nat.reduceEqDiff]
    refine callA_tt F ?_
    simp (maxSteps:=1000000) -implicitDefEqProofs only [w1,List.length_cons,List.length_nil,List.cons_append,List.nil_append,go_sem,awp_seq,Nat.reduceBEq,Nat.reduceAdd,Nat.reduceMul,Nat.reduceLeDiff,Nat.reduceLT]
    refine roundK_mk ⟨(k+1,[-1,-2,(k:Int)],true),by show k+1≤_;omega,fun h=>(by cases h),hR,by show 3≤k+1+2;omega⟩ ?_ (by show rs.length-(k+1)<rs.length-k;omega)
    simp (maxSteps:=1000000) -implicitDefEqProofs only [cond_true,List.length_cons,List.length_nil,List.map_cons,List.map_nil,go_sem,awp_seq,Nat.reduceBEq,Nat.reduceAdd]
   | true =>
    have ml:(acc.map fun z=>i64 z).length=acc.length:=List.length_map _
    simp (maxSteps:=1000000) -implicitDefEqProofs only [g1,e1,cond_true,Int.toNat_natCast,Int.natCast_nonneg,go_sem,awp_seq,Nat.reduceBEq,Nat.reduceAdd,Nat.reduceLeDiff,Nat.reduceLT,Nat.reduceEqDiff]
    refine callA_tt F ?_
    simp (maxSteps:=1000000) -implicitDefEqProofs only [w1,ml,go_sem,awp_seq,Nat.reduceBEq,Nat.reduceMul,Nat.reduceLeDiff,Nat.reduceLT]
    refine ⟨by omega,by omega,?_⟩
    refine roundK_mk ⟨(k+1,acc ++ [(k:Int)],true),by show k+1≤_;omega,fun h=>(by cases h),hR,by show (acc ++ [(k:Int)]).length≤k+1+2;simp;omega⟩ ?_ (by show rs.length-(k+1)<rs.length-k;omega)
    simp (maxSteps:=1000000) -implicitDefEqProofs only [cond_true,List.length_append,List.length_cons,List.length_nil,List.map_append,List.map_cons,List.map_nil,go_sem,awp_seq,Nat.reduceBEq]
 ·obtain rfl:k=rs.length:=by omega
  rw [List.drop_of_length_le (by omega)]at hR
  have hR:R=acc:=by rw [hR];simp [idxs]
  subst hR
  have g1:decide (((rs.length:Nat):Int)<(rs.length:Nat))=false:=by simp
  cases fl with
  | false =>
   obtain rfl:=h0 rfl
   simp (maxSteps:=1000000) -implicitDefEqProofs only [g1,cond_false,List.map_cons,List.map_nil,go_sem,awp_seq,Nat.reduceBEq,Nat.reduceAdd,Nat.reduceLT]
   all_goals rfl
  | true =>
   have tk:(R.map fun z=>i64 z).take R.length=R.map fun z=>i64 z:=List.take_of_length_le (by rw [List.length_map];exact Nat.le_refl _)
   simp (maxSteps:=1000000) -implicitDefEqProofs only [g1,tk,cond_true,go_sem,awp_seq,Nat.reduceBEq,Nat.reduceLT]
   exact Nat.le_of_eq (List.length_map _).symm
end
end Go.Proofs.YtmegoiaijfeilaaGreatDoor
set_option linter.unusedSimpArgs false
set_option linter.unusedVariables false
namespace Go.Proofs.YtmegoiaijfeilaaGreatDoor
open Go.RowKit Lim
abbrev shRu:SH:=.cons shI (.cons shI (.cons shI (.cons shI (.cons .str .nil))))
abbrev shSp:SH:=.cons shI (.cons (.sl shRu) .nil)
abbrev shPr:SH:=.cons shI (.cons shI .nil)
theorem i64_z {z:Int} (h:IntKind.min .i64≤z∧z≤IntKind.max .i64):in64Z z:=by simpa [IntKind.min,IntKind.max,IntKind.signed,IntKind.bits]using h
def toRu (x:Int × Int × Int × Int × List UInt8):RuleV:=⟨x.1,x.2.1,x.2.2.1,x.2.2.2.1,x.2.2.2.2⟩
theorem specs_den (n:Int) (rs:List (Int × Int × Int × Int × List UInt8)):SH.top shSp (eraL (vtOf shSp) ((n,rs):(vtOf shSp).den))=.agg [i64 n,rulesA (rs.map toRu)]:=by
 have e:(rs.map toRu).map ruleA=rs.map (fun x=>AV.agg [i64 x.1,i64 x.2.1,i64 x.2.2.1,i64 x.2.2.2.1,str x.2.2.2.2]):=by rw [List.map_map];rfl
 unfold rulesA
 rw [e]
 rfl
theorem ac_swap {f:FuncId} {a a' b b':AV} {r:List AV} {v:AV} (h1:a'=a) (h2:b'=b) (h:AC f (a :: b :: r) v):AC f (a' :: b' :: r) v:=by
 rw [h1,h2]
 exact h
end Go.Proofs.YtmegoiaijfeilaaGreatDoor
