import Derived.Test.YtmekiphpjpblpaaGreatC2
import Derived.StillTailTactics
import Derived.Deep.QuietTactic
import Derived.BigQuiet
import Derived.Shelf.SlSortCmp.Insertion1
import Derived.Test.YtmekiphpjpblpaaGreatProg
import Derived.Sort.OwnSortedInts
import Derived.Shelf.SlSortCmp.NoneTotal
import Derived.Sort.LotA
import Derived.LoopN
import Derived.Maps.RangeWalk
import Derived.Maps.OwnSet
import Derived.Deep.Quiet
import Derived.Deep.RegionLaw
import Derived.Deep.DeepCutAuto
/- Texts merged: Se Sb Sf Sk Sl Slin Sm WkA Sq St Sx0 Sg Sh Si Sn So0 Sj Sr WiA. -/
set_option linter.unusedSimpArgs false
set_option linter.unusedVariables false
set_option maxHeartbeats 40000000
set_option maxRecDepth 100000
namespace Go.Proofs.YtmekiphpjpblpaaGreat
open Go.RowKit Lim
theorem fixE_tri (rs:List RuleV) (pool:List PI) (vars:Nat):Tri (fixE rs pool vars):=fun i=>by
 unfold fixE
 by_cases h:i<pool.length
 ·have e:at0 (pool.map (fix1 rs) ++ List.replicate (vars-pool.length) (-1)) i=fix1 rs pool[i]:=by
   rw [at0,List.getD_eq_getElem?_getD,List.getElem?_append_left (by simpa using h),List.getElem?_map,List.getElem?_eq_getElem h]
   rfl
  rw [e]
  unfold fix1
  split
  ·exact .inr (.inr rfl)
  ·split
   ·exact .inr (.inl rfl)
   ·exact .inl rfl
 ·by_cases h2:i<vars
  ·refine .inl ?_
   rw [at0,List.getD_eq_getElem?_getD,List.getElem?_append_right (by simpa using h),List.getElem?_replicate,if_pos (by simp;omega)]
   rfl
  ·refine .inr (.inl ?_)
   exact at0_out (by simp;omega)
theorem fixE_length {rs:List RuleV} {pool:List PI}:(fixE rs pool (varsE rs pool)).length=varsE rs pool:=by
 unfold fixE varsE
 simp
theorem rises_nodup:∀{t:List Int},risesB t=true→t.Nodup
 | [],_=>List.nodup_nil
 | c :: cs,h=>by
  obtain ⟨h1,h2⟩:=rises_cons h
  refine List.nodup_cons.2 ⟨fun hm=>?_,rises_nodup h1⟩
  have:=h2 c hm
  omega
theorem feas_test {n:Int} {rs:List RuleV} {pool:List PI} {l:List (Int × Int)} {given y:List Int} (ht:taskE n rs pool l=0) (hg:∀id∈given,0≤posI pool id) (hy:FeasG pool (consE n rs pool (varsE rs pool) pool.length l) (fixE rs pool (varsE rs pool)) given y) :
  ((pickI pool y).length:Int)=n∧(∀id∈given,id∈pickI pool y)∧broE n rs pool l (pickI pool y)=([],0)∧risesB (pickI pool y)=true∧∀id∈pickI pool y,0≤posI pool id:=by
 obtain ⟨hf,hgi⟩:=hy
 obtain ⟨hsp,hp⟩:=task_in ht
 obtain ⟨hid,hit⟩:=pool_ok hp
 have h18:pool.length≤18:=by
  unfold poolE at hp
  split at hp
  ·exact absurd hp (by decide)
  ·omega
 have hchk:=spec_dem hsp
 have hyl:y.length=varsE rs pool:=hf.len.trans fixE_length
 have hv:varsE rs pool=pool.length+setsN rs:=rfl
 have hpl:pool.length≤y.length:=by omega
 have hsplit:=pick_split hid hpl hf.bin
 obtain ⟨p,hpp⟩:∃p,p=chP (pickI pool y):=⟨_,rfl⟩
 rw [←hpp]at hsplit
 have htake:y.take pool.length=pool.map fun z=>oneI (p z):=by
  conv=>lhs;rw [hsplit]
  rw [List.take_append_of_le_length (by simp)]
  exact List.take_of_length_le (by simp)
 have hpick:=pick_filt htake
 obtain ⟨ys,hys⟩:∃ys,ys=y.drop pool.length:=⟨_,rfl⟩
 rw [←hys]at hsplit
 have hysl:ys.length=setsN rs:=by rw [hys,List.length_drop];omega
 have hysb:∀i,at0 ys i=0∨at0 ys i=1:=fun i=>by
  have:=hf.bin (pool.length+i)
  have e:at0 ys i=at0 y (pool.length+i):=by
   rw [hys]
   simp [at0,List.getD_eq_getElem?_getD,List.getElem?_drop]
  rw [e]
  exact this
 have hrow:=hf.row
 have hfix:=hf.fix
 rw [hsplit]at hrow hfix
 unfold consE at hrow
 rw [List.all_cons,List.all_append,Bool.and_eq_true,Bool.and_eq_true,ok_iff,dot_coefs,sum_len]at hrow
 obtain ⟨h1,h2,h3⟩:=hrow
 have hrise:=rises_of p hid
 rw [←hpick]at hrise
 have hmem:∀id∈pickI pool y,∃z∈pool,z.1=id:=fun id h=>by
  obtain ⟨i,hi,_,h5⟩:=(pick_mem id hpl).1 h
  exact ⟨pool[i],List.getElem_mem hi,h5⟩
 have hlen:((pickI pool y).length:Int)=n:=by
  rw [hpick,List.length_map]
  omega
 have hgt:∀id∈given,id∈pickI pool y:=fun id h=>by
  rcases pos_spec (pool:=pool) id with ⟨h4,_⟩|⟨i,hi,h4,h5⟩
  ·have:=hg id h;omega
  ·have h6:=hgi id h
   rw [h4,Int.toNat_natCast]at h6
   exact (pick_mem id hpl).2 ⟨i,hi,h6,h5⟩
 have hpos:∀id∈pickI pool y,0≤posI pool id:=fun id h=>by
  obtain ⟨z,hz,h5⟩:=hmem id h
  rcases pos_spec (pool:=pool) id with ⟨_,h4⟩|⟨i,hi,h4,_⟩
  ·exact absurd h5 (h4 z hz)
  ·omega
 refine ⟨hlen,hgt,?_,hrise.1,hpos⟩
 have hsel:(selE pool (pickI pool y)).2=0:=by
  unfold selE
  rw [hrise.1,if_pos rfl]
  exact pick_ok pool _ [] hmem
 have hb2:(broE n rs pool l (pickI pool y)).2=0:=by
  unfold broE
  rw [if_neg (by rw [ht];simp),if_neg (by rw [hsel];simp)]
 have hlaw:=rows_law n rs pool l (pickI pool y) hb2
 rw [←hpp]at hlaw
 have hrules:=rules_sets h18 hit rs p (varsE rs pool) rs ys 0 (fun r hr=>(hchk r hr).2) (by omega) hysb (by omega) (by rw [Nat.add_zero];exact h2)
 have hcons:(consE n rs pool (varsE rs pool) pool.length l).all (okRow (asgE p pool rs))=true:=by
  unfold consE asgE
  rw [List.all_cons,List.all_append,Bool.and_eq_true,Bool.and_eq_true,ok_iff,dot_coefs,sum_len]
  refine ⟨h1,?_,?_⟩
  ·have hrr:=rules_rows h18 hit rs p (varsE rs pool) rs (setsV p pool rs) 0 (fun r hr=>(hchk r hr).2) (by simp) (by rw [setsV_len];rfl)
   rw [Nat.add_zero]at hrr
   rw [hrr]
   exact hrules
  ·rw [List.all_map,List.all_eq_true]at h3 ⊢
   intro c hc
   have h7:=h3 c hc
   simp only [Function.comp]at h7 ⊢
   unfold enmR at h7 ⊢
   rw [ok_iff,dot_coefs]at h7 ⊢
   exact h7
 have hfx:okFix (fixE rs pool (varsE rs pool)) (asgE p pool rs)=true:=by
  unfold fixE asgE at *
  rw [fix_app _ _ _ _ (by simp),fix_neg,Bool.and_true]at *
  exact hfix
 rw [hcons,hfx]at hlaw
 refine Prod.ext ?_ hb2
 exact List.isEmpty_iff.1 hlaw.symm
theorem prep_ok {n:Int} {rs:List RuleV} {pool:List PI} {l:List (Int × Int)} {given val:List Int} (h:prepE n rs pool l given val=0):probE n rs pool l val=0∧(∀id∈given,0≤posI pool id)∧given.Nodup:=by
 unfold prepE at h
 by_cases h1:probE n rs pool l val=0
 ·rw [if_neg (by simp [h1])]at h
  split at h
  ·exact absurd h (by decide)
  ·rename_i h2
   split at h
   ·rename_i h3
    refine ⟨h1,fun id hid=>?_,h3⟩
    rw [Bool.not_eq_true,List.any_eq_false]at h2
    have:=h2 id hid
    rw [decide_eq_true_eq]at this
    omega
   ·exact absurd h (by decide)
 ·rw [if_pos h1]at h
  exact absurd h h1
theorem prep_mk {n:Int} {rs:List RuleV} {pool:List PI} {l:List (Int × Int)} {given val:List Int} (h1:probE n rs pool l val=0) (h2:∀id∈given,0≤posI pool id) (h3:given.Nodup):prepE n rs pool l given val=0:=by
 unfold prepE
 rw [if_neg (by simp [h1]),if_neg,if_pos h3]
 rw [Bool.not_eq_true,List.any_eq_false]
 intro id hid
 rw [decide_eq_true_eq]
 have:=h2 id hid
 omega
theorem pos_lt {pool:List PI} {rs:List RuleV} (id:Int) (h:0≤posI pool id):(posI pool id).toNat<pool.length:=by
 rcases pos_spec (pool:=pool) id with ⟨h1,_⟩|⟨i,hi,h1,_⟩ <;> omega
abbrev consV (n:Int) (rs:List RuleV) (pool:List PI) (l:List (Int × Int)):List RowP:=consE n rs pool (varsE rs pool) pool.length l
abbrev fixV (rs:List RuleV) (pool:List PI):List Int:=fixE rs pool (varsE rs pool)
abbrev valV (rs:List RuleV) (pool:List PI) (val:List Int):List Int:=valE val (varsE rs pool)
theorem test_spec {n:Int} {rs:List RuleV} {pool:List PI} {l:List (Int × Int)} {given val:List Int} (h:prepE n rs pool l given val=0) :
  (testE n rs pool l given val=([],14)∧∀y,¬FeasG pool (consV n rs pool l) (fixV rs pool) given y)∨∃x,testE n rs pool l given val=(pickI pool x,0)∧BestG (valV rs pool val) (FeasG pool (consV n rs pool l) (fixV rs pool) given) x:=by
 obtain ⟨_,hg,_⟩:=prep_ok h
 unfold testE
 rw [if_neg (by simp [h])]
 refine solveE_spec (fixE_tri _ _ _) fun id hid=>?_
 have h1:=pos_lt (rs:=rs) id (hg id hid)
 have h2:pool.length≤varsE rs pool:=Nat.le_add_right _ _
 show _<(fixE rs pool (varsE rs pool)).length
 rw [fixE_length]
 omega
theorem test_err {n:Int} {rs:List RuleV} {pool:List PI} {l:List (Int × Int)} {given val:List Int} (h:(testE n rs pool l given val).2≠0):(testE n rs pool l given val).1=[]:=by
 by_cases hp:prepE n rs pool l given val=0
 ·rcases test_spec hp with ⟨e,_⟩|⟨x,e,_⟩
  ·rw [e]
  ·rw [e]at h;exact absurd rfl h
 ·unfold testE
  rw [if_pos hp]
theorem test_ok {n:Int} {rs:List RuleV} {pool:List PI} {l:List (Int × Int)} {given val:List Int} (h:(testE n rs pool l given val).2=0) :
  prepE n rs pool l given val=0∧(((testE n rs pool l given val).1.length:Int)=n∧(∀id∈given,id∈(testE n rs pool l given val).1)∧broE n rs pool l (testE n rs pool l given val).1=([],0)∧risesB (testE n rs pool l given val).1=true∧∀id∈(testE n rs pool l given val).1,0≤posI pool id) ∧
  ∃x,(testE n rs pool l given val).1=pickI pool x∧BestG (valV rs pool val) (FeasG pool (consV n rs pool l) (fixV rs pool) given) x:=by
 by_cases hp:prepE n rs pool l given val=0
 ·rcases test_spec hp with ⟨e,_⟩|⟨x,e,hb⟩
  ·rw [e]at h;exact absurd h (by decide)
  ·obtain ⟨h1,h2,_⟩:=prep_ok hp
   rw [e]
   exact ⟨hp,feas_test (prob_len h1).1 h2 hb.1,x,rfl,hb⟩
 ·unfold testE at h
  rw [if_pos hp]at h
  exact absurd h hp
theorem prob_val_ok {n:Int} {rs:List RuleV} {pool:List PI} {l:List (Int × Int)} {val:List Int} (h:probE n rs pool l val=0):val.length=pool.length∧val.any badV=false:=by
 obtain ⟨h1,_,_,h4⟩:=prob_len h
 refine ⟨h4,?_⟩
 unfold probE at h
 rw [if_neg (by simp [h1]),if_neg (by simp [h4])]at h
 split at h
 ·exact absurd h (by decide)
 ·rename_i h2;simpa using h2
theorem free_of {n:Int} {rs:List RuleV} {pool:List PI} {l:List (Int × Int)} {given val:List Int} (h:(testE n rs pool l given val).2=0):freeE pool val (testE n rs pool l given val).1 given=(isrt (ltF pool val) (leftE (testE n rs pool l given val).1 given),0):=by
 obtain ⟨hp,⟨_,_,_,_,hpos⟩,_⟩:=test_ok h
 obtain ⟨h1,h2,_⟩:=prep_ok hp
 obtain ⟨v1,v2⟩:=prob_val_ok h1
 unfold freeE
 rw [if_neg (by simp [v1]),if_neg (by simp [v2]),if_neg,if_neg]
 ·rw [Bool.not_eq_true,List.any_eq_false]
  intro id hid
  rw [decide_eq_true_eq]
  have:=h2 id hid
  omega
 ·rw [Bool.not_eq_true,List.any_eq_false]
  intro id hid
  rw [decide_eq_true_eq]
  have:=hpos id hid
  omega
theorem left_len {t g:List Int} (ht:t.Nodup) (hg:g.Nodup) (hs:∀x∈g,x∈t):(leftE t g).length+g.length=t.length:=by
 have hp:(leftE t g ++ g).Perm t:=by
  refine (List.perm_ext_iff_of_nodup ?_ ht).2 fun x=>?_
  ·rw [List.nodup_append]
   refine ⟨left_nodup _ _,hg,fun a ha b hb e=>?_⟩
   subst e
   exact ((left_mem _ _ _).1 ha).2 hb
  ·rw [List.mem_append,left_mem]
   constructor
   ·rintro (⟨h,_⟩|h)
    ·exact h
    ·exact hs x h
   ·intro h
    by_cases hx:x∈g
    ·exact .inr hx
    ·exact .inl ⟨h,hx⟩
 have:=hp.length_eq
 rw [List.length_append]at this
 exact this
theorem isrt_len (lt:Int→Int→Bool) (l:List Int):(isrt lt l).length=l.length:=(isrt_perm l).length_eq
theorem free_len2 {n:Int} {rs:List RuleV} {pool:List PI} {l:List (Int × Int)} {given val:List Int} (h:(testE n rs pool l given val).2=0):(((freeE pool val (testE n rs pool l given val).1 given).1.length+given.length:Nat):Int)=n:=by
 obtain ⟨hp,⟨a1,a2,_,a4,_⟩,_⟩:=test_ok h
 obtain ⟨_,_,h3⟩:=prep_ok hp
 rw [free_of h,isrt_len,left_len (rises_nodup a4) h3 a2]
 exact a1
theorem next_ok {n:Int} {rs:List RuleV} {pool:List PI} {l:List (Int × Int)} {given val:List Int} (h:(testE n rs pool l given val).2=0) (hn:(given.length:Int)<n) :
  ∃a r,(freeE pool val (testE n rs pool l given val).1 given).1=a :: r∧nextE n rs pool l given val=(a,0)∧a∈(testE n rs pool l given val).1∧a ∉ given:=by
 obtain ⟨hp,_,_⟩:=test_ok h
 have hl:=free_len2 h
 have hf:=free_of h
 cases hfr:(freeE pool val (testE n rs pool l given val).1 given).1 with
 | nil=>rw [hfr]at hl;simp at hl;omega
 | cons a r =>
  have hm:a∈leftE (testE n rs pool l given val).1 given:=by
   rw [hf]at hfr
   have:a∈isrt (ltF pool val) (leftE (testE n rs pool l given val).1 given):=by
    have e:isrt (ltF pool val) (leftE (testE n rs pool l given val).1 given)=a :: r:=hfr
    rw [e];simp
   exact (isrt_perm _).mem_iff.1 this
  obtain ⟨m1,m2⟩:=(left_mem _ _ _).1 hm
  refine ⟨a,r,rfl,?_,m1,m2⟩
  unfold nextE
  rw [if_neg (by simp [hp]),if_neg (by omega),if_neg (by simp [h]),if_neg (by rw [hf];simp),hfr]
theorem next_done {n:Int} {rs:List RuleV} {pool:List PI} {l:List (Int × Int)} {given val:List Int} (hp:prepE n rs pool l given val=0) (hn:n≤(given.length:Int)):nextE n rs pool l given val=(0,21):=by
 unfold nextE
 rw [if_neg (by simp [hp]),if_pos hn]
theorem next_err {n:Int} {rs:List RuleV} {pool:List PI} {l:List (Int × Int)} {given val:List Int} (h:(testE n rs pool l given val).2≠0):(nextE n rs pool l given val).1=0∧(nextE n rs pool l given val).2≠0:=by
 unfold nextE
 by_cases hp:prepE n rs pool l given val=0
 ·rw [if_neg (by simp [hp])]
  by_cases hn:n≤(given.length:Int)
  ·rw [if_pos hn];exact ⟨rfl,by decide⟩
  ·rw [if_neg hn,if_pos h];exact ⟨rfl,h⟩
 ·rw [if_pos hp];exact ⟨rfl,hp⟩
theorem test_stable {n:Int} {rs:List RuleV} {pool:List PI} {l:List (Int × Int)} {given val:List Int} {a:Int} (h:(testE n rs pool l given val).2=0) (ha:a∈(testE n rs pool l given val).1) (hg:a ∉ given):testE n rs pool l (given ++ [a]) val=testE n rs pool l given val:=by
 obtain ⟨hp,⟨a1,a2,a3,a4,a5⟩,x,e,hx,hb⟩:=test_ok h
 obtain ⟨p1,p2,p3⟩:=prep_ok hp
 have hp2:prepE n rs pool l (given ++ [a]) val=0:=by
  refine prep_mk p1 (fun id hid=>?_) ?_
  ·rcases List.mem_append.1 hid with hid|hid
   ·exact p2 id hid
   ·rw [List.mem_singleton.1 hid];exact a5 a ha
  ·rw [List.nodup_append]
   exact ⟨p3,by simp,fun c hc d hd e=>hg (by rw [List.mem_singleton.1 hd]at e;rw [←e];exact hc)⟩
 have hxl:pool.length≤x.length:=by
  rw [hx.1.len,fixE_length]
  exact Nat.le_add_right _ _
 have hx2:FeasG pool (consV n rs pool l) (fixV rs pool) (given ++ [a]) x:=by
  refine ⟨hx.1,fun id hid=>?_⟩
  rcases List.mem_append.1 hid with hid|hid
  ·exact hx.2 id hid
  ·rw [List.mem_singleton.1 hid]
   rw [e]at ha
   obtain ⟨i,hi,b1,b2⟩:=(pick_mem a hxl).1 ha
   obtain ⟨hid,_⟩:=pool_ok (task_in (prob_len p1).1).2
   rw [←b2,pos_get hid hi]
   exact b1
 rcases test_spec hp2 with ⟨_,h2⟩|⟨x2,e2,hb2⟩
 ·exact absurd hx2 (h2 x)
 ·have:x2=x:=BestG.uniq hb2 ⟨hx2,fun z hz=>hb z ⟨hz.1,fun id hid=>hz.2 id (by simp [hid])⟩⟩
  rw [e2,this,←e]
  exact Prod.ext rfl h.symm
def SlI (w:World) (ex:Nat→Prop) (v:Value) (l:List Int):Prop:=∃A c,v=.slice A l.length c∧l.length≤c∧∀i (h:i<l.length),∃b off,A=some ⟨b,off,none⟩∧ex b∧w.cell? ⟨b,off+i,none⟩=some (.int .i64 (l[i]'h))
def SlL (w:World) (ex:Nat→Prop) (v:Value) (L:List (List Int)):Prop:=∃A c,v=.slice A L.length c∧∀i (h:i<L.length),∃b off u,A=some ⟨b,off,none⟩∧ex b∧w.cell? ⟨b,off+i,none⟩=some u∧SlI w ex u (L[i]'h)
def SlR (w:World) (ex:Nat→Prop) (v:Value) (R:List RowP):Prop:=∃A c,v=.slice A R.length c∧∀i (h:i<R.length),∃b off u,A=some ⟨b,off,none⟩∧ex b∧w.cell? ⟨b,off+i*3,none⟩=some u∧w.cell? ⟨b,off+i*3+1,none⟩=some (.int .i64 (R[i]'h).2.1)∧w.cell? ⟨b,off+i*3+2,none⟩=some (.int .i64 (R[i]'h).2.2)∧SlI w ex u (R[i]'h).1
section
variable {w w':World} {ex ex':Nat→Prop} {v:Value}
theorem cell_same {b o:Nat} {u:Value} (hc:w.cell? ⟨b,o,none⟩=some u) (hk:b<w.heap.size→w'.heap[b]? = w.heap[b]?):w'.cell? ⟨b,o,none⟩=some u :=
 (World.cell?_of_block (a:=⟨b,o,none⟩) (hk (World.block_lt_of_cell? w _ hc))).trans hc
theorem SlI.keep {l:List Int} (h:SlI w ex v l) (hk:∀b,ex b→b<w.heap.size→w'.heap[b]? = w.heap[b]?∧ex' b):SlI w' ex' v l:=by
 obtain ⟨A,c,h1,h0,h2⟩:=h
 refine ⟨A,c,h1,h0,fun i hi=>?_⟩
 obtain ⟨b,off,e1,e2,e3⟩:=h2 i hi
 have hb:=World.block_lt_of_cell? w _ e3
 exact ⟨b,off,e1,(hk b e2 hb).2,cell_same e3 fun _=>(hk b e2 hb).1⟩
theorem SlL.keep {L:List (List Int)} (h:SlL w ex v L) (hk:∀b,ex b→b<w.heap.size→w'.heap[b]? = w.heap[b]?∧ex' b):SlL w' ex' v L:=by
 obtain ⟨A,c,h1,h2⟩:=h
 refine ⟨A,c,h1,fun i hi=>?_⟩
 obtain ⟨b,off,u,e1,e2,e3,e4⟩:=h2 i hi
 have hb:=World.block_lt_of_cell? w _ e3
 exact ⟨b,off,u,e1,(hk b e2 hb).2,cell_same e3 fun _=>(hk b e2 hb).1,e4.keep hk⟩
theorem SlR.keep {R:List RowP} (h:SlR w ex v R) (hk:∀b,ex b→b<w.heap.size→w'.heap[b]? = w.heap[b]?∧ex' b):SlR w' ex' v R:=by
 obtain ⟨A,c,h1,h2⟩:=h
 refine ⟨A,c,h1,fun i hi=>?_⟩
 obtain ⟨b,off,u,e1,e2,e3,e4,e5,e6⟩:=h2 i hi
 have hb:=World.block_lt_of_cell? w _ e3
 exact ⟨b,off,u,e1,(hk b e2 hb).2,cell_same e3 fun _=>(hk b e2 hb).1,cell_same e4 fun _=>(hk b e2 hb).1,cell_same e5 fun _=>(hk b e2 hb).1,e6.keep hk⟩
theorem SlI.len {l:List Int} (h:SlI w ex v l):∃A c,v=.slice A l.length c:=by
 obtain ⟨A,c,h1,_,_⟩:=h
 exact ⟨A,c,h1⟩
theorem SlI.nil (c:Nat) (A:Option Addr):SlI w ex (.slice A 0 c) []:=⟨A,c,rfl,Nat.zero_le _,fun i hi=>absurd hi (Nat.not_lt_zero i)⟩
theorem SlI.of_rep {Z:Zone} {l:List Int} (h:Rep w Z (.sl 1 (l.map fun z=>i64 z)) v):SlI w (fun b=>b<w.heap.size) v l:=by
 generalize hm:l.map (fun z=>i64 z)=es at h
 have hl:es.length=l.length:=by rw [←hm,List.length_map]
 cases h with
 | nil =>
  obtain rfl:l=[]:=List.length_eq_zero_iff.1 (by rw [←hl];rfl)
  exact SlI.nil _ _
 | sl vs hb hc hkk hmm hr =>
  rw [hl]at *
  refine ⟨_,_,rfl,hc,fun i hi=>?_⟩
  subst hm
  have h0:=hr i (by rw [List.length_map];exact hi) 0 (by simp [AV.cells])
  simp only [List.getElem_map,AV.cells]at h0
  have c0:=(hmm i 0 hi (by omega)).1
  have e0:vs i 0=.int .i64 l[i]:=h0.lit_eq
  rw [e0,Nat.mul_one,Nat.add_zero]at c0
  exact ⟨_,_,rfl,World.block_lt_of_cell? w _ c0,c0⟩
end
def natL (l:List Nat):List Int:=l.map fun (i:Nat)=>(i:Int)
theorem natL_len (l:List Nat):(natL l).length=l.length:=by simp [natL]
abbrev tSr:TypeId:=163
structure Srx where
 S:Nat
 X:Nat
 M:Nat
 pv:Value
 pr:Value
 pf:Value
 fr:Value
 lo:Value
 hi:Value
 od:Value
 wide:Int
def Srx.ex (K:Srx) (b:Nat):Prop:=b≠K.S∧b≠K.X∧b≠K.M
def lowL (s:Srch):List (List Int):=(List.range (s.free.length+1)).map fun d=>s.R.map fun r=>lowE r.1 (s.free.drop d)
def highL (s:Srch):List (List Int):=(List.range (s.free.length+1)).map fun d=>s.R.map fun r=>highE r.1 (s.free.drop d)
def sumsL (s:Srch) (x:List Int):List Int:=s.R.map fun r=>dotE r.1 x
def ints (l:List Int):Array Value:=(l.map (Value.int .i64)).toArray
def Srx.cs (K:Srx) (s:Srch) (x:List Int) (val:Int) (st:St) (bv:Value):Array Value :=
 #[K.pv,K.pr,K.pf,K.fr,.bool s.one,.bool s.once,.slice (some ⟨K.X,0,none⟩) x.length x.length,.int .i64 val,.slice (some ⟨K.M,0,none⟩) s.R.length s.R.length,K.lo,K.hi,.int .i64 K.wide,K.od,.int .i64 st.least,bv,.int .i64 st.most,.bool st.found]
structure SAt (K:Srx) (s:Srch) (w0:World) (x:List Int) (val:Int) (sums:List Int) (st:St) (bv:Value) (w:World):Prop where
 below:Below w0.heap.size w0 w
 hS:w.heap[K.S]? = some (.cells (K.cs s x val st bv) tSr (0,0))
 hX:w.heap[K.X]? = some (.cells (ints x) 3 (0,0))
 hM:w.heap[K.M]? = some (.cells (ints sums) 3 (0,0))
 sl:sums.length=s.R.length
 pv:SlI w K.ex K.pv s.v
 pr:SlR w K.ex K.pr s.R
 fr:SlI w K.ex K.fr (natL s.free)
 lo:SlL w K.ex K.lo (lowL s)
 hi:SlL w K.ex K.hi (highL s)
 od:SlI w K.ex K.od (natL s.ord)
 bst:SlI w K.ex bv st.best
 xl:x.length=s.v.length
 n1:K.S≠K.X
 n2:K.S≠K.M
 n3:K.X≠K.M
 z1:w0.heap.size≤K.S
 z2:w0.heap.size≤K.X
 z3:w0.heap.size≤K.M
 wd:(K.wide = -1∧s.uw=false)∨∃(k:Nat) (hk:k<s.R.length) (lo:Int),K.wide=k∧s.uw=true∧s.R[k]'hk=(s.cw,lo,s.mx)
section
variable {K:Srx} {s:Srch} {w0 w w':World} {x:List Int} {val:Int} {sums:List Int} {st:St} {bv:Value}
structure SFr (K:Srx) (w w':World):Prop where
 os:w'.os=w.os
 tape:w'.tape=w.tape
 output:w'.output=w.output
 size:w.heap.size≤w'.heap.size
 block:∀q,q<w.heap.size→K.ex q→w'.heap[q]? = w.heap[q]?
theorem SFr.trans {K:Srx} {a b c:World} (h1:SFr K a b) (h2:SFr K b c):SFr K a c :=
 ⟨h2.os.trans h1.os,h2.tape.trans h1.tape,h2.output.trans h1.output,Nat.le_trans h1.size h2.size,fun q hq he=>(h2.block q (Nat.lt_of_lt_of_le hq h1.size) he).trans (h1.block q hq he)⟩
theorem SFr.of (h:Below w.heap.size w w'):SFr K w w':=⟨h.os,h.tape,h.output,h.size,fun q hq _=>h.block q hq⟩
theorem SAt.move (h:SAt K s w0 x val sums st bv w) (hf:SFr K w w') {x':List Int} {val':Int} {sums':List Int} {st':St} {bv':Value}
  (hS:w'.heap[K.S]? = some (.cells (K.cs s x' val' st' bv') tSr (0,0))) (hX:w'.heap[K.X]? = some (.cells (ints x') 3 (0,0))) (hM:w'.heap[K.M]? = some (.cells (ints sums') 3 (0,0)))
  (hsl:sums'.length=s.R.length) (hxl:x'.length=s.v.length) (hb:SlI w' K.ex bv' st'.best):SAt K s w0 x' val' sums' st' bv' w':=by
 have hk:∀b,K.ex b→b<w.heap.size→w'.heap[b]? = w.heap[b]?∧K.ex b:=fun b he hlt=>⟨hf.block b hlt he,he⟩
 exact ⟨⟨hf.os.trans h.below.os,hf.tape.trans h.below.tape,hf.output.trans h.below.output,Nat.le_trans h.below.size hf.size,fun q hq=>(hf.block q (Nat.lt_of_lt_of_le hq h.below.size) ⟨by have:=h.z1;omega,by have:=h.z2;omega,by have:=h.z3;omega⟩).trans (h.below.block q hq)⟩,
  hS,hX,hM,hsl,h.pv.keep hk,h.pr.keep hk,h.fr.keep hk,h.lo.keep hk,h.hi.keep hk,h.od.keep hk,hb,hxl,h.n1,h.n2,h.n3,h.z1,h.z2,h.z3,h.wd⟩
theorem SAt.call (h:SAt K s w0 x val sums st bv w) (hb:Below w.heap.size w w'):SAt K s w0 x val sums st bv w' :=
 h.move (.of hb) ((hb.block _ (Array.getElem?_eq_some_iff.1 h.hS).1).trans h.hS) ((hb.block _ (Array.getElem?_eq_some_iff.1 h.hX).1).trans h.hX) ((hb.block _ (Array.getElem?_eq_some_iff.1 h.hM).1).trans h.hM) h.sl h.xl (h.bst.keep fun b he hlt=>⟨hb.block b hlt,he⟩)
theorem SAt.cell (h:SAt K s w0 x val sums st bv w) {i:Nat} {u:Value} (hu:(K.cs s x val st bv)[i]? = some u):w.cell? ⟨K.S,i,none⟩=some u:=by
 rw [Lib.cell_of_heap h.hS]
 exact hu
theorem SAt.xc (h:SAt K s w0 x val sums st bv w) {i:Nat} (hi:i<x.length):w.cell? ⟨K.X,i,none⟩=some (.int .i64 x[i]):=by
 rw [Lib.cell_of_heap h.hX]
 simp [ints,hi]
theorem SAt.mc (h:SAt K s w0 x val sums st bv w) {i:Nat} (hi:i<sums.length):w.cell? ⟨K.M,i,none⟩=some (.int .i64 sums[i]):=by
 rw [Lib.cell_of_heap h.hM]
 simp [ints,hi]
end
theorem dot_take {c x:List Int}:∀{k:Nat} (hk:k<c.length) (hk2:k<x.length),dotE (c.take (k+1)) (x.take (k+1))=dotE (c.take k) (x.take k)+c[k]*x[k]:=by
 induction c generalizing x with
 | nil=>intro k hk;exact absurd hk (Nat.not_lt_zero k)
 | cons a c ih =>
  intro k hk hk2
  cases x with
  | nil=>exact absurd hk2 (Nat.not_lt_zero k)
  | cons b x =>
   cases k with
   | zero=>simp [dotE]
   | succ k =>
    have:=@ih x k (by simpa using hk) (by simpa using hk2)
    simp only [List.take_succ_cons,dotE,this,List.getElem_cons_succ]
    omega
theorem at0_get {l:List Int} {i:Nat} (h:i<l.length):at0 l i=l[i]:=by
 rw [at0,List.getD_eq_getElem?_getD,List.getElem?_eq_getElem h];rfl
theorem take_at0 {l:List Int} {k i:Nat}:at0 (l.take k) i=at0 l i∨at0 (l.take k) i=0:=by
 by_cases h:i<k
 ·refine .inl ?_
  simp [at0,List.getD_eq_getElem?_getD,List.getElem?_take,h]
 ·refine .inr ?_
  simp [at0,List.getD_eq_getElem?_getD,List.getElem?_take,h]
def Rng (c:List Int):Prop:=∀i,-1000000≤at0 c i∧at0 c i≤1000000
theorem Rng.take {c:List Int} (h:Rng c) (k:Nat):Rng (c.take k):=fun i=>by
 rcases take_at0 (l:=c) (k:=k) (i:=i)with e|e
 ·rw [e];exact h i
 ·rw [e];decide
theorem Bin.take {c:List Int} (h:Bin c) (k:Nat):Bin (c.take k):=fun i=>by
 rcases take_at0 (l:=c) (k:=k) (i:=i)with e|e
 ·rw [e];exact h i
 ·exact .inl e
theorem dot_rng {c x:List Int} (hc:Rng c) (hx:Bin x) (h24:c.length≤24):-24000000≤dotE c x∧dotE c x≤24000000:=by
 have:=dot_up c x hc hx
 omega
theorem mul01 {c b:Int} (hc:-1000000≤c∧c≤1000000) (h:b=0∨b=1):-1000000≤c*b∧c*b≤1000000:=by
 rcases h with rfl|rfl
 ·rw [Int.mul_zero];decide
 ·rw [Int.mul_one];exact hc
theorem prod_w {w:World} {ex ex':Nat→Prop} {u v:Value} {c x:List Int} (hu:SlI w ex u c) (hv:SlI w ex' v x) (hl:c.length=x.length) (h24:c.length≤24) (hc:Rng c) (hx:Bin x) :
  Calls Tryz.prog 137 #[u,v] w fun e w'=>e=.returned (.int .i64 (dotE c x))∧w'=w:=by
 obtain ⟨A,a,rfl,_,hA⟩:=hu
 obtain ⟨B,b,rfl,_,hB⟩:=hv
 have hlen:((c.length:Nat):Int)≤24:=by omega
 go_enter Tryz.func137,Tryz.ntmps137
 go_wp2
 go_loopw [5,10] (fun s i wl=>∃k:Nat,i=.int .i64 k∧k≤c.length∧s=.int .i64 (dotE (c.take k) (x.take k))∧wl=w) (fun _ i _=>c.length-(intOf i).toNat)
 case atStart=>exact ⟨0,rfl,Nat.zero_le _,rfl,rfl⟩
 case round =>
  obtain ⟨k,rfl,hk,rfl,rfl⟩:=hrel
  by_cases hlt:k<c.length
  ·obtain ⟨b1,o1,rfl,_,c1⟩:=hA k hlt
   obtain ⟨b2,o2,rfl,_,c2⟩:=hB k (by omega)
   have hst:=dot_take hlt (show k<x.length by omega)
   have r1:=dot_rng (hc.take k) (hx.take k) (by rw [List.length_take];omega)
   have r2:=hc k
   have r3:=hx k
   rw [at0_get hlt]at r2
   rw [at0_get (show k<x.length by omega)]at r3
   have r4:=mul01 r2 r3
   clear hA hB
   generalize dotE (c.take k) (x.take k)=s at *
   obtain ⟨ck,hck⟩:∃ck,ck=c[k]:=⟨_,rfl⟩
   obtain ⟨xk,hxk⟩:∃xk,xk=x[k]:=⟨_,rfl⟩
   rw [←hck]at c1 hst r2 r4
   rw [←hxk]at c2 hst r3 r4
   have HS:=Lib.hid hst
   clear hst hck hxk
   have g1:((k:Nat):Int)<((c.length:Nat):Int):=by omega
   have g2:((k:Nat):Int)<((x.length:Nat):Int):=by omega
   have w1:RowKit.wrap64 (ck*xk)=ck*xk:=IntWalk.wrap64_in _ (by omega)
   have w2:RowKit.wrap64 (s+ck*xk)=s+ck*xk:=IntWalk.wrap64_in _ (by omega)
   have W:=And.intro (Lib.hid w1) (Lib.hid w2)
   clear w1 w2
   go_wp2
   refine ⟨⟨k+1,by simp,by omega,by simp only [HS.out,W.1.out,W.2.out,true_and]⟩,?_⟩
   simp only [intOf]
   omega
  ·obtain rfl:k=c.length:=by omega
   have g1:¬((c.length:Nat):Int)<((c.length:Nat):Int):=by omega
   rw [List.take_length,hl,List.take_length]
   go_wp2
   go_ret
   exact ⟨rfl,rfl⟩
structure ROK (R:List RowP) (n:Nat):Prop where
 len:∀r∈R,r.1.length=n
 rng:∀r∈R,Rng r.1
 lo:∀r∈R,-24000000≤r.2.1∧r.2.1≤24000000
 hi:∀r∈R,-24000000≤r.2.2∧r.2.2≤24000000
 n60:R.length≤60
theorem low_rng {c:List Int} (hc:Rng c):∀fr:List Nat,-(1000000*(fr.length:Nat))≤lowE c fr∧lowE c fr≤0
 | []=>by simp [lowE,sumN]
 | i :: fr=>by
  have:=low_rng hc fr
  have h:=hc i
  have e:lowE c (i :: fr)=min (at0 c i) 0+lowE c fr:=rfl
  rw [e,List.length_cons]
  omega
theorem high_rng {c:List Int} (hc:Rng c):∀fr:List Nat,0≤highE c fr∧highE c fr≤1000000*(fr.length:Nat)
 | []=>by simp [highE,sumN]
 | i :: fr=>by
  have:=high_rng hc fr
  have h:=hc i
  have e:highE c (i :: fr)=max (at0 c i) 0+highE c fr:=rfl
  rw [e,List.length_cons]
  omega
theorem all_take {α:Type} {p:α→Bool} {l:List α} (h:∀j (hj:j<l.length),p (l[j]'hj)=true):l.all p=true:=by
 rw [List.all_eq_true]
 intro a ha
 obtain ⟨j,hj,rfl⟩:=List.mem_iff_getElem.1 ha
 exact h j hj
def possR (x:List Int) (fr:List Nat) (r:RowP):Bool:=!(decide (r.2.2<dotE r.1 x+lowE r.1 fr) || decide (dotE r.1 x+highE r.1 fr<r.2.1))
theorem poss_w {K:Srx} {s:Srch} {w0 w:World} {x:List Int} {st:St} {bv:Value} {n:Nat} (h:SAt K s w0 x (dotE s.v x) (sumsL s x) st bv w) (hs:SOK s n) (hR:ROK s.R n) (hb:Bin x) (hx:x.length=n) (d:Nat) (hd:d≤s.free.length) :
  Calls Tryz.prog 139 #[.pointer (some ⟨K.S,0,none⟩),.int .i64 d] w fun e w'=>e=.returned (.bool (possB s.R x (s.free.drop d)))∧Below w.heap.size w w':=by
 have hfl:=free_len hs
 have hn24:=hs.n24
 obtain ⟨A,cA,eA,hrow⟩:=h.pr
 obtain ⟨L,cL,eL,hlow⟩:=h.lo
 obtain ⟨H,cH,eH,hhigh⟩:=h.hi
 have hll:(lowL s).length=s.free.length+1:=by simp [lowL]
 have hhl:(highL s).length=s.free.length+1:=by simp [highL]
 have hdl:d<(lowL s).length:=by omega
 have hdh:d<(highL s).length:=by omega
 obtain ⟨bl,ol,ul,rfl,xl,cl,sl⟩:=hlow d hdl
 obtain ⟨bh,oh,uh,rfl,xh,ch,sh⟩:=hhigh d hdh
 obtain ⟨Ll,cLl,rfl,_,hlr⟩:=sl
 obtain ⟨Lh,cLh,rfl,_,hhr⟩:=sh
 have ell:(lowL s)[d]=s.R.map fun r=>lowE r.1 (s.free.drop d):=by simp [lowL]
 have ehh:(highL s)[d]=s.R.map fun r=>highE r.1 (s.free.drop d):=by simp [highL]
 obtain ⟨lw,hlw⟩:∃lw,lw=(lowL s)[d]:=⟨_,rfl⟩
 obtain ⟨hw,hhw⟩:∃hw,hw=(highL s)[d]:=⟨_,rfl⟩
 rw [←hlw]at ell cl hlr
 rw [←hhw]at ehh ch hhr
 have el:lw.length=s.R.length:=by rw [ell,List.length_map]
 have eh:hw.length=s.R.length:=by rw [ehh,List.length_map]
 clear hlow hhigh hlw hhw
 have s1:=h.cell (i:=1) (u:=K.pr) rfl
 have s8:=h.cell (i:=8) (u:=.slice (some ⟨K.M,0,none⟩) s.R.length s.R.length) rfl
 have s9:=h.cell (i:=9) (u:=K.lo) rfl
 have s10:=h.cell (i:=10) (u:=K.hi) rfl
 rw [eA]at s1
 rw [eL]at s9
 rw [eH]at s10
 have hn60:((s.R.length:Nat):Int)≤60:=by have:=hR.n60;omega
 have hSs:K.S<w.heap.size:=(Array.getElem?_eq_some_iff.1 h.hS).1
 have hfl2:(s.free.drop d).length≤24:=by rw [List.length_drop];omega
 have gd:((d:Nat):Int)<(((lowL s).length:Nat):Int):=by omega
 have gd2:((d:Nat):Int)<(((highL s).length:Nat):Int):=by omega
 have hd24:((lowL s).length:Int)≤25:=by omega
 have hd242:((highL s).length:Int)≤25:=by omega
 have hposs:possB s.R x (s.free.drop d)=s.R.all (possR x (s.free.drop d)):=rfl
 obtain ⟨pb,hpb⟩:∃pb,pb=possB s.R x (s.free.drop d):=⟨_,rfl⟩
 rw [←hpb]at hposs ⊢
 clear hpb
 have HP:=Lib.hid hposs
 clear hposs
 obtain ⟨ll,hll2⟩:∃ll,ll=(lowL s).length:=⟨_,rfl⟩
 obtain ⟨lh,hlh2⟩:∃lh,lh=(highL s).length:=⟨_,rfl⟩
 rw [←hll2]at s9 gd hd24
 rw [←hlh2]at s10 gd2 hd242
 clear hll2 hlh2
 go_enter Tryz.func139,Tryz.ntmps139
 go_wp2
 go_loopw [13] (fun i wl=>∃k:Nat,i=.int .i64 k∧k≤s.R.length∧Below w.heap.size w wl∧∀j (hj:j<s.R.length),j<k→possR x (s.free.drop d) (s.R[j]'hj)=true) (fun i _=>s.R.length-(intOf i).toNat)
 case atStart=>exact ⟨0,rfl,Nat.zero_le _,Below.refl _ _,fun _ _ h=>absurd h (Nat.not_lt_zero _)⟩
 case round =>
  obtain ⟨k,rfl,hk,hbl,hgood⟩:=hrel
  by_cases hlt:k<s.R.length
  ·obtain ⟨b,off,_,rfl,_,d0,d1,d2,Ac,cc,rfl,_,_⟩:=hrow k hlt
   obtain ⟨lc,hlc⟩:∃lc,lc=s.R[k].1.length:=⟨_,rfl⟩
   rw [←hlc]at d0
   clear hlc
   obtain ⟨b3,o3,rfl,_,d3⟩:=hlr k (by omega)
   obtain ⟨b4,o4,rfl,_,d4⟩:=hhr k (by omega)
   have d5:=h.mc (i:=k) (by unfold sumsL;rw [List.length_map];exact hlt)
   have e3:lw[k]'(by omega)=lowE s.R[k].1 (s.free.drop d):=by simp only [ell,List.getElem_map]
   have e4:hw[k]'(by omega)=highE s.R[k].1 (s.free.drop d):=by simp only [ehh,List.getElem_map]
   have e5:(sumsL s x)[k]'(by unfold sumsL;rw [List.length_map];exact hlt)=dotE s.R[k].1 x:=by simp [sumsL]
   rw [e3]at d3
   rw [e4]at d4
   rw [e5]at d5
   have hm:=List.getElem_mem hlt
   have r1:=dot_rng (hR.rng _ hm) hb (by have:=hR.len _ hm;omega)
   have r2:=low_rng (hR.rng _ hm) (s.free.drop d)
   have r3:=high_rng (hR.rng _ hm) (s.free.drop d)
   have r4:=hR.lo _ hm
   have r5:=hR.hi _ hm
   have hpr0:possR x (s.free.drop d) s.R[k]=!(decide (s.R[k].2.2<dotE s.R[k].1 x+lowE s.R[k].1 (s.free.drop d)) || decide (dotE s.R[k].1 x+highE s.R[k].1 (s.free.drop d)<s.R[k].2.1)):=rfl
   have hgd:possR x (s.free.drop d) s.R[k]=true→∀j (hj:j<s.R.length),j<k+1→possR x (s.free.drop d) (s.R[j]'hj)=true:=fun h j hj hj2=>by
    by_cases e:j=k
    ·subst e;exact h
    ·exact hgood j hj (by omega)
   have hbd:possR x (s.free.drop d) s.R[k]=false→pb=false:=fun h=>by
    rw [HP.out,←Bool.not_eq_true,List.all_eq_true]
    intro ha
    rw [ha _ hm]at h
    exact absurd h (by simp)
   have HG:=Lib.hid hgd
   have HB:=Lib.hid hbd
   clear hgd hbd hgood e3 e4 e5
   generalize possR x (s.free.drop d) s.R[k]=pr at *
   generalize dotE s.R[k].1 x=sm at *
   generalize lowE s.R[k].1 (s.free.drop d)=lo at *
   generalize highE s.R[k].1 (s.free.drop d)=hi at *
   obtain ⟨mn,hmn⟩:∃mn,mn=s.R[k].2.1:=⟨_,rfl⟩
   obtain ⟨mx,hmx⟩:∃mx,mx=s.R[k].2.2:=⟨_,rfl⟩
   rw [←hmn]at d1 r4 hpr0
   rw [←hmx]at d2 r5 hpr0
   have hpr:=Lib.hid hpr0
   clear hpr0
   clear hmn hmx
   have mv:∀{b o:Nat} {u:Value},w.cell? ⟨b,o,none⟩=some u→wr.cell? ⟨b,o,none⟩=some u:=fun hc=>cell_same hc fun hb=>hbl.block _ hb
   have f0:=mv d0
   have f1:=mv d1
   have f2:=mv d2
   have hbl2:Below w.heap.size w (wr.alloc (.cells #[.slice Ac lc cc,.int .i64 mn,.int .i64 mx] 110)):=hbl.alloc hbl.size _
   have g1:((k:Nat):Int)<((s.R.length:Nat):Int):=by omega
   have g3:((k:Nat):Int)<((lw.length:Nat):Int):=by omega
   have g4:((k:Nat):Int)<((hw.length:Nat):Int):=by omega
   go_upto_region 4 with fail
   obtain ⟨W,hW⟩:∃W,W=wr.alloc (.cells #[.slice Ac lc cc,.int .i64 mn,.int .i64 mx] 110):=⟨_,rfl⟩
   obtain ⟨V,hV⟩:∃V,V=wr.heap.size:=⟨_,rfl⟩
   have v1:W.cell? ⟨V,1,none⟩=some (.int .i64 mn):=by rw [hW,hV,Lib.cell_of_heap (heap_alloc_new wr _)];rfl
   have v2:W.cell? ⟨V,2,none⟩=some (.int .i64 mx):=by rw [hW,hV,Lib.cell_of_heap (heap_alloc_new wr _)];rfl
   rw [←hW]at hbl2 ⊢
   rw [←hV]
   clear hW hV
   have mv:∀{b o:Nat} {u:Value},w.cell? ⟨b,o,none⟩=some u→W.cell? ⟨b,o,none⟩=some u:=fun hc=>cell_same hc fun hb=>hbl2.block _ hb
   have t8:=mv s8
   have t9:=mv s9
   have t10:=mv s10
   have q3:=mv d3
   have q4:=mv d4
   have q5:=mv d5
   have ql:=mv cl
   have qh:=mv ch
   have w1:IntKind.i64.wrap (sm+lo)=sm+lo:=IntWalk.i64_in _ (by omega)
   have w2:IntKind.i64.wrap (sm+hi)=sm+hi:=IntWalk.i64_in _ (by omega)
   clear mv f0 f1 f2 d0 d1 d2 d3 d4 d5 cl ch s1 s8 s9 s10 hrow hlr hhr
   by_cases c1:mx<sm+lo
   ·have cb:decide (sm+lo > mx)=true:=decide_eq_true c1
    have:pr=false:=by rw [hpr.out,decide_eq_true c1];rfl
    have hp0:=HB.out this
    subst hp0
    go_quiet (fail)
    go_wp2
    go_ret
    exact ⟨rfl,below_drewN hbl2 _⟩
   ·have cb:decide (sm+lo > mx)=false:=decide_eq_false c1
    by_cases c2:sm+hi<mn
    ·have cb2:decide (sm+hi<mn)=true:=decide_eq_true c2
     have:pr=false:=by rw [hpr.out,decide_eq_true c2,Bool.or_true];rfl
     have hp0:=HB.out this
     subst hp0
     go_quiet (fail)
     go_wp2
     go_ret
     exact ⟨rfl,below_drewN hbl2 _⟩
    ·have cb2:decide (sm+hi<mn)=false:=decide_eq_false c2
     have:pr=true:=by rw [hpr.out,decide_eq_false c1,decide_eq_false c2];rfl
     go_quiet (fail)
     go_wp2
     refine ⟨⟨k+1,by simp,by omega,below_drewN hbl2 _,HG.out this⟩,?_⟩
     simp only [intOf]
     omega
  ·obtain rfl:k=s.R.length:=by omega
   have g1:¬((s.R.length:Nat):Int)<((s.R.length:Nat):Int):=by omega
   have:pb=true:=by rw [HP.out];exact all_take fun j hj=>hgood j hj hj
   subst this
   go_wp2
   go_ret
   exact ⟨rfl,hbl⟩
theorem freeL_take {f:List Int} {k:Nat} (hk:k<f.length):freeL (f.take (k+1))=freeL (f.take k) ++ if f[k]<0 then [k] else []:=by
 unfold freeL
 have h1:(f.take (k+1)).length=k+1:=by rw [List.length_take];omega
 have h2:(f.take k).length=k:=by rw [List.length_take];omega
 rw [h1,h2,List.range_succ,List.filter_append]
 have e1:(List.range k).filter (fun i=>decide (at0 (f.take (k+1)) i<0))=(List.range k).filter fun i=>decide (at0 (f.take k) i<0):=by
  refine List.filter_congr fun i hi=>?_
  have hi:=List.mem_range.1 hi
  have:at0 (f.take (k+1)) i=at0 (f.take k) i:=by
   simp [at0,List.getD_eq_getElem?_getD,List.getElem?_take,hi,show i<k+1 by omega]
  rw [this]
 have e2:at0 (f.take (k+1)) k=f[k]:=by
  simp [at0,List.getD_eq_getElem?_getD,List.getElem?_take,hk]
 rw [e1]
 congr 1
 by_cases h:f[k]<0
 ·rw [if_pos h,List.filter_cons_of_pos (by rw [e2];simpa using h)];rfl
 ·rw [if_neg h,List.filter_cons_of_neg (by rw [e2];simpa using h)];rfl
theorem freeL_le (f:List Int):(freeL f).length≤f.length:=by
 unfold freeL
 exact Nat.le_trans (List.length_filter_le _ _) (by simp)
theorem freeV_w {w:World} {ex:Nat→Prop} {pv pr pf:Value} {f:List Int} (hx:∀b,ex b→b<w.heap.size) (hf:SlI w ex pf f) (h1:pv.oneCell'=true) (h2:pr.oneCell'=true) (h24:f.length≤24) :
  Calls Tryz.prog 108 #[.agg #[pv,pr,pf]] w fun e w'=>∃v,e=.returned v∧Below w.heap.size w w'∧w'.ownsRow w.heap.size 3 1 v (freeL f).length ((natL (freeL f)).map (Value.int .i64)):=by
 obtain ⟨A,c,rfl,hc,hA⟩:=hf
 obtain ⟨W1,hW1⟩:∃W1,W1=w.alloc (.cells #[pv,pr,.slice A f.length c] 53):=⟨_,rfl⟩
 have hB1:Below w.heap.size w W1:=by rw [hW1];exact (Below.refl _ _).alloc (Nat.le_refl _) _
 have c2:W1.cell? ⟨w.heap.size,2,none⟩=some (.slice A f.length c):=by rw [hW1,Lib.cell_of_heap (heap_alloc_new w _)];rfl
 have hlen:((f.length:Nat):Int)≤24:=by omega
 have hs1:w.heap.size<W1.heap.size:=by rw [hW1];simp
 go_enter Tryz.func108,Tryz.ntmps108
 go_upto_region 2 with fail
 rw [←hW1]
 clear hW1
 go_wp2
 go_loopw [3,9] (fun v i wl=>∃k:Nat,i=.int .i64 k∧k≤f.length∧Below w.heap.size w wl∧wl.ownsRow w.heap.size 3 1 v (freeL (f.take k)).length ((natL (freeL (f.take k))).map (Value.int .i64))) (fun _ i _=>f.length-(intOf i).toNat)
 case atStart=>exact ⟨0,rfl,Nat.zero_le _,hB1,World.ownsRow_nil _ _ _ _⟩
 case round =>
  obtain ⟨k,rfl,hk,hbl,hown⟩:=hrel
  by_cases hlt:k<f.length
  ·obtain ⟨b1,o1,rfl,_,c1⟩:=hA k hlt
   have d1:=cell_same (w':=wr) c1 fun hb=>hbl.block _ hb
   have g1:((k:Nat):Int)<((f.length:Nat):Int):=by omega
   have hst:=freeL_take hlt
   have hle:=freeL_le (f.take k)
   rw [List.length_take]at hle
   obtain ⟨z,hz⟩:∃z,z=f[k]:=⟨_,rfl⟩
   rw [←hz]at d1 hst
   have hsz:=hbl.size
   have HST:=Lib.hid hst
   clear hz hst hA c1
   generalize freeL (f.take k)=L at *
   by_cases hneg:z<0
   ·go_wp2_with (at_builtin;(refine app_int (B0:=w.heap.size) (w0:=w) rfl _ _ rfl w.heap.size _ L.length _ rfl (hown.alloc _) (k:Int) wr.heap.size rfl ?f1 (hbl.alloc hbl.size _) (Nat.le_refl _) ?f2 (by omega) ?_))
    case f1=>rw [Lib.cell_of_heap (heap_alloc_new wr _)];rfl
    case f2=>simp;omega
    intro v' w3 hown3 hB3 _
    go_wp2
    refine ⟨⟨k+1,by simp,by omega,hB3,?_⟩,?_⟩
    ·rw [HST.out,if_pos hneg]
     unfold natL at *
     rw [List.length_append,List.map_append,List.map_append]
     exact hown3
    ·simp only [intOf]
     omega
   ·go_wp2
    refine ⟨⟨k+1,by simp,by omega,hbl,?_⟩,?_⟩
    ·rw [HST.out,if_neg hneg,List.append_nil]
     exact hown
    ·simp only [intOf]
     omega
  ·obtain rfl:k=f.length:=by omega
   have g1:¬((f.length:Nat):Int)<((f.length:Nat):Int):=by omega
   rw [List.take_length]at hown
   go_wp2
   go_ret
   exact ⟨_,rfl,hbl,hown⟩
def WideOK (R:List RowP) (wd:Int):Prop:=wd = -1∨∃(k:Nat) (hk:k<R.length),wd=k∧∀i,at0 (R[k]'hk).1 i=0∨at0 (R[k]'hk).1 i=1
theorem widest_w {w:World} {ex:Nat→Prop} {pv pr pf:Value} {R:List RowP} {n:Nat} (hr:SlR w ex pr R) (h1:pv.oneCell'=true) (h2:pf.oneCell'=true) (hR:ROK R n) (h24:n≤24) :
  Calls Tryz.prog 136 #[.agg #[pv,pr,pf]] w fun e w'=>∃wd:Int,e=.returned (.int .i64 wd)∧Below w.heap.size w w'∧WideOK R wd:=by
 obtain ⟨A,c,rfl,hA⟩:=hr
 obtain ⟨W1,hW1⟩:∃W1,W1=w.alloc (.cells #[pv,.slice A R.length c,pf] 53):=⟨_,rfl⟩
 have hB1:Below w.heap.size w W1:=by rw [hW1];exact (Below.refl _ _).alloc (Nat.le_refl _) _
 have c1:W1.cell? ⟨w.heap.size,1,none⟩=some (.slice A R.length c):=by rw [hW1,Lib.cell_of_heap (heap_alloc_new w _)];rfl
 have hlen:((R.length:Nat):Int)≤60:=by have:=hR.n60;omega
 go_enter Tryz.func136,Tryz.ntmps136
 go_upto_region 2 with fail
 rw [←hW1]
 clear hW1
 go_wp2
 go_loopw [3,4,13] (fun wv mv i wl=>∃(k:Nat) (wd most:Int),i=.int .i64 k∧k≤R.length∧wv=.int .i64 wd∧mv=.int .i64 most∧0≤most∧most≤24∧WideOK R wd∧Below w.heap.size w wl) (fun _ _ i _=>R.length-(intOf i).toNat)
 case atStart=>exact ⟨0,-1,0,rfl,Nat.zero_le _,rfl,rfl,by omega,by omega,.inl rfl,hB1⟩
 case round =>
  obtain ⟨k,wd,most,rfl,hk,rfl,rfl,hm1,hm2,hwd,hbl⟩:=hrel
  by_cases hlt:k<R.length
  ·obtain ⟨b1,o1,_,rfl,_,d0,d1,d2,Ac,cc,rfl,_,hcf⟩:=hA k hlt
   have hm:=List.getElem_mem hlt
   have hcl:=hR.len _ hm
   have mv:∀{b o:Nat} {u:Value},w.cell? ⟨b,o,none⟩=some u→wr.cell? ⟨b,o,none⟩=some u:=fun hc=>cell_same hc fun hb=>hbl.block _ hb
   have f0:=mv d0
   have f1:=mv d1
   have f2:=mv d2
   obtain ⟨mn,hmn⟩:∃mn,mn=R[k].2.1:=⟨_,rfl⟩
   obtain ⟨mx,hmx⟩:∃mx,mx=R[k].2.2:=⟨_,rfl⟩
   rw [←hmn]at f1
   rw [←hmx]at f2
   have g1:((k:Nat):Int)<((R.length:Nat):Int):=by omega
   have hwk:(∀i,at0 R[k].1 i=0∨at0 R[k].1 i=1)→WideOK R (k:Int):=fun h=>.inr ⟨k,hlt,rfl,h⟩
   clear hmn hmx d0 d1 d2 mv hA
   have HWK:=Lib.hid hwk
   clear hwk hm
   generalize R[k].1=cs at *
   have hcl24:((cs.length:Nat):Int)≤24:=by omega
   have HCL:=Lib.hid hcl
   clear hcl
   go_upto_region 5 with fail
   obtain ⟨W,hW⟩:∃W,W=wr.alloc (.cells #[.slice Ac cs.length cc,.int .i64 mn,.int .i64 mx] 110):=⟨_,rfl⟩
   obtain ⟨V,hV⟩:∃V,V=wr.heap.size:=⟨_,rfl⟩
   have hbW:Below w.heap.size w W:=by rw [hW];exact hbl.alloc hbl.size _
   have v0:W.cell? ⟨V,0,none⟩=some (.slice Ac cs.length cc):=by rw [hW,hV,Lib.cell_of_heap (heap_alloc_new wr _)];rfl
   rw [←hW,←hV]
   clear hW hV f0 f1 f2
   go_wp2
   go_loopw [7,21] (fun ov j wl=>∃(m:Nat) (ones:Int),j=.int .i64 m∧m≤cs.length∧ov=.int .i64 ones∧0≤ones∧ones≤m∧(∀i,i<m→at0 cs i=0∨at0 cs i=1)∧wl=W) (fun _ j _=>cs.length-(intOf j).toNat)
   case atStart=>exact ⟨0,0,rfl,Nat.zero_le _,rfl,by omega,by omega,fun _ h=>absurd h (Nat.not_lt_zero _),rfl⟩
   case round =>
    obtain ⟨m,ones,rfl,hmm,rfl,ho1,ho2,h01,rfl⟩:=hrel
    by_cases hlm:m<cs.length
    ·obtain ⟨b2,o2,rfl,_,e2⟩:=hcf m hlm
     have e3:=cell_same (w':=wr) e2 fun hb=>hbW.block _ hb
     have g2:((m:Nat):Int)<((cs.length:Nat):Int):=by omega
     have ha:=at0_get hlm
     generalize cs[m]=z at *
     have HA:=Lib.hid ha
     clear ha e2 hcf
     by_cases hz:z=0
     ·subst hz
      go_wp2
      refine ⟨⟨m+1,ones,by simp,by omega,rfl,by omega,by omega,fun i hi=>?_,trivial⟩,?_⟩
      ·by_cases e:i=m
       ·rw [e];exact .inl HA.out
       ·exact h01 i (by omega)
      ·simp only [intOf]
       omega
     ·by_cases hz1:z=1
      ·subst hz1
       go_wp2
       refine ⟨⟨m+1,ones+1,by simp,by omega,rfl,by omega,by omega,fun i hi=>?_,trivial⟩,?_⟩
       ·by_cases e:i=m
        ·rw [e];exact .inr HA.out
        ·exact h01 i (by omega)
       ·simp only [intOf]
        omega
      ·have q1:(z != 0)=true:=by simpa using hz
       have q2:(z != 1)=true:=by simpa using hz1
       have q3:¬most < -1:=by omega
       go_wp2
       refine ⟨⟨k+1,wd,most,by simp,by omega,rfl,rfl,hm1,hm2,hwd,hbW⟩,?_⟩
       simp only [intOf]
       omega
    ·obtain rfl:m=cs.length:=by omega
     have g2:¬((cs.length:Nat):Int)<((cs.length:Nat):Int):=by omega
     have hw2:WideOK R (k:Int):=HWK.out fun i=>by
      by_cases hi:i<cs.length
      ·exact h01 i hi
      ·exact .inl (at0_out (by omega))
     have ho3:ones≤24:=by omega
     by_cases hgt:most<ones
     ·go_wp2
      refine ⟨⟨k+1,(k:Int),ones,by simp,by omega,rfl,rfl,by omega,by omega,hw2,hbW⟩,?_⟩
      simp only [intOf]
      omega
     ·go_wp2
      refine ⟨⟨k+1,wd,most,by simp,by omega,rfl,rfl,hm1,hm2,hwd,hbW⟩,?_⟩
      simp only [intOf]
      omega
  ·obtain rfl:k=R.length:=by omega
   have g1:¬((R.length:Nat):Int)<((R.length:Nat):Int):=by omega
   go_wp2
   go_ret
   exact ⟨_,rfl,hbl,hwd⟩
end Go.Proofs.YtmekiphpjpblpaaGreat
namespace Go.Proofs
open Go.Shelf
def Tryz.insI_ren:Go.Shelf.Ren:=⟨fun|20=>79|n=>n,fun|24=>3|22=>27|3=>3|25=>69|4=>4|0=>0|n=>n,fun|n=>n⟩
theorem Tryz.insI:Go.Proofs.SlLaysF.n20 Tryz.prog Tryz.insI_ren:={
 mixed:=by kernel_rfl
 f20:=⟨Tryz.f79.name,by decide,Tryz.func79.trans (congrArg some (by kernel_rfl))⟩
 t0:=Tryz.underlying0
 a0:=Tryz.isAgg0
 z0:=Tryz.sizeOf0
 v0:=Tryz.zeroValue0
 t3:=Tryz.underlying3
 a3:=Tryz.isAgg3
 z3:=Tryz.sizeOf3
 v3:=Tryz.zeroValue3
 t4:=Tryz.underlying4
 a4:=Tryz.isAgg4
 z4:=Tryz.sizeOf4
 v4:=Tryz.zeroValue4
 t22:=Tryz.underlying27
 a22:=Tryz.isAgg27
 z22:=Tryz.sizeOf27
 v22:=Tryz.zeroValue27
 a24:=Tryz.isAgg3
 z24:=Tryz.sizeOf3
 t25:=Tryz.underlying69
 a25:=Tryz.isAgg69
 z25:=Tryz.sizeOf69
 v25:=Tryz.zeroValue69 }
end Go.Proofs
namespace Go.Proofs.YtmekiphpjpblpaaGreat
open Go.Shelf Go.RowKit Lim
def encF {m:Nat} (i:Fin (m+1)):Value:=.int .i64 (i.val:Int)
def intF {m:Nat} (i:Fin (m+1)):Int:=(i.val:Int)
theorem put_encF {m:Nat} (d:Array (Fin (m+1))) (cur:Array Value):Sort.putCells encF 0 d cur=Sort.putCells (Value.int .i64) 0 (d.map intF) cur:=by
 unfold Sort.putCells
 apply Array.ext
 ·simp
 ·intro i h1 h2
  simp only [Array.getElem_mapIdx,Array.size_map]
  by_cases h:i<d.size
  ·have e:(d.map intF)[i]! = intF d[i]!:=by
    rw [getElem!_pos _ i (by simpa using h),getElem!_pos d i h,Array.getElem_map]
   simp [h,e,encF,intF]
  ·simp [h]
theorem row_encF {m:Nat} (w:World) (blk:Nat) (d:Array (Fin (m+1))):Sort.putRow encF w blk 0 d=Sort.putRow (Value.int .i64) w blk 0 (d.map intF):=by
 unfold Sort.putRow
 congr 1
 funext cur
 exact put_encF d cur
theorem sort_encF {m:Nat} (w:World) (blk k:Nat) (d:Array (Fin (m+1))) (os:Array Obj):sortWorld encF w blk 0 k d os=Sort.grow (Sort.putRow (Value.int .i64) (Sort.ahead w k) blk 0 (d.map intF)) os:=by
 unfold sortWorld
 rw [row_encF]
def cfK {m:Nat} (key:Nat→Int) (i j:Fin (m+1)):Int:=key j.val-key i.val
theorem swoK {m:Nat} (key:Nat→Int):Sort.SWO (ltOf (cfK (m:=m) key)) where
 irrefl x:=by unfold ltOf cfK;simp
 trans x y z h1 h2:=by unfold ltOf cfK at *;simp at *;omega
 ntrans x y z h1 h2:=by unfold ltOf cfK at *;simp at *;omega
def toF (m:Nat) (l:List Nat):List (Fin (m+1)):=l.map fun i=>Fin.ofNat (m+1) i
theorem toF_val {m:Nat} {l:List Nat} (hl:∀i∈l,i<m+1):(toF m l).map intF=natL l:=by
 unfold toF natL
 rw [List.map_map]
 refine List.map_congr_left fun i hi=>?_
 simp [intF,Nat.mod_eq_of_lt (hl i hi)]
theorem stable_in {w:World} {g blk cap:Nat} {cb:Array Value} {m:Nat} (cf:Fin (m+1)→Fin (m+1)→Int) (d:Array (Fin (m+1))) (h20:d.size<20)
  (eg:∀args w,(callFunc g args).run Tryz.prog w=.ok (.enter g args) w) (hcmp:CmpLays1 Tryz.prog g cb encF cf blk 0 d.size w) (hH:Sort.Holds encF w blk 0 d) (hblk:blk<w.heap.size) :
  Calls Tryz.prog 135 #[.slice (some ⟨blk,0,none⟩) d.size cap,.int .i64 (d.size:Nat),.func (.func g) #[] cb] w fun e w'=>e=.returned (.tuple #[])∧∃k os,w'=sortWorld encF w blk 0 k (Sort.insertionSort (ltOf cf) d 0 d.size) os:=by
 have hI:=Any.insertionSortCmpFunc_s (α:=Fin (m+1)) Tryz.insI encF cf g cb blk 0 cap 0 d.size d d w w eg hcmp ⟨fun _=>rfl,hH,hblk⟩ rfl (SW.start hH) (Nat.zero_le _) (Nat.le_refl _) (by omega)
 have hI2:Calls Tryz.prog 79 #[.slice (some ⟨blk,0,none⟩) d.size cap,.int .i64 0,.int .i64 (d.size:Nat),.func (.func g) #[] cb] w fun e w'=>e=.returned (.tuple #[])∧SW encF w blk 0 (Sort.insertionSort (ltOf cf) d 0 d.size) w':=hI
 clear hI hcmp hH
 have HI:=Lib.hid hI2
 clear hI2
 generalize Sort.insertionSort (ltOf cf) d 0 d.size=d' at *
 have h20z:((d.size:Nat):Int)<20:=by omega
 generalize d.size=n at *
 go_enter Tryz.func135,Tryz.ntmps135
 go_wp2
 refine wp_loop_rounds 1 ?_
 rw [rounds_succ]
 have c1:¬(20:Int)≤((n:Nat):Int):=by omega
 go_wp2_with (go_at_call 79;refine HI.out.mono ?_;rintro e w1 ⟨rfl,hsw⟩)
 refine wp_loop_rounds 1 ?_
 rw [rounds_succ]
 have c2:¬(20:Int)<((n:Nat):Int):=by omega
 go_wp2
 go_end0
 obtain ⟨k,os,hw⟩:=hsw
 exact ⟨rfl,k,os,hw⟩
theorem stable_out {w:World} {g blk cap:Nat} {cb:Array Value} {m:Nat} (cf:Fin (m+1)→Fin (m+1)→Int) (d:Array (Fin (m+1))) (h20:d.size<20)
  (eg:∀args w,(callFunc g args).run Tryz.prog w=.ok (.enter g args) w) (hcmp:CmpLays1 Tryz.prog g cb encF cf blk 0 d.size w) (hH:Sort.Holds encF w blk 0 d) (hblk:blk<w.heap.size) :
  Calls Tryz.prog 109 #[.slice (some ⟨blk,0,none⟩) d.size cap,.func (.func g) #[] cb] w fun e w'=>e=.returned (.tuple #[])∧∃k os,w'=sortWorld encF w blk 0 k (Sort.insertionSort (ltOf cf) d 0 d.size) os:=by
 have HI:=Lib.hid (stable_in (cap:=cap) cf d h20 eg hcmp hH hblk)
 clear hcmp hH
 generalize Sort.insertionSort (ltOf cf) d 0 d.size=d' at *
 have h20z:((d.size:Nat):Int)<20:=by omega
 generalize d.size=n at *
 go_enter Tryz.func109,Tryz.ntmps109
 go_wp2_with (go_at_call 135;refine HI.out.mono ?_;rintro e w1 ⟨rfl,k,os,rfl⟩)
 go_end0
 exact ⟨rfl,k,os,rfl⟩
theorem stable_w {w:World} {B g blk cap:Nat} {cb:Array Value} {m:Nat} (key:Nat→Int) (l:List Nat) (hl:∀i∈l,i<m+1) (h20:l.length<20) (hown:w.ownsRow B 3 1 (.slice (some ⟨blk,0,none⟩) l.length cap) l.length ((natL l).map (Value.int .i64)))
  (eg:∀args w,(callFunc g args).run Tryz.prog w=.ok (.enter g args) w)
  (hcmp:∀W:World,w.heap.size≤W.heap.size→(∀q,q<w.heap.size→q≠blk→W.heap[q]? = w.heap[q]?)→∀i j,i<m+1→j<m+1→Calls Tryz.prog g (#[.int .i64 (i:Nat),.int .i64 (j:Nat)] ++ cb) W fun e w'=>e=.returned (.int .i64 (key j-key i))∧∃q,w'=W.drewN q) :
  Calls Tryz.prog 109 #[.slice (some ⟨blk,0,none⟩) l.length cap,.func (.func g) #[] cb] w fun e w'=>e=.returned (.tuple #[])∧w.grownBy w' (some blk)∧∃l',l'.Perm l∧l'.Pairwise (fun a b=>key b≤key a)∧w'.ownsRow B 3 1 (.slice (some ⟨blk,0,none⟩) l.length cap) l.length ((natL l').map (Value.int .i64)):=by
 obtain ⟨cur,hb,hB,hle,hcap,hcs,htk⟩:∃cur,w.heap[blk]? = some (.cells cur 3 (0,0))∧B≤blk∧l.length≤cap∧cap≤maxLen∧cur.size=cap*1∧cur.toList.take (l.length*1)=(natL l).map (Value.int .i64):=by
  rcases hown.2 with ⟨h0,_⟩|⟨g',cap',cur,e,a2,a3,a4,a5,a6,a7⟩
  ·cases h0
  ·cases e;exact ⟨cur,a3,a2,a4,a5,a6,a7⟩
 have hblk:blk<w.heap.size:=(Array.getElem?_eq_some_iff.1 hb).1
 obtain ⟨d,hd⟩:∃d,d=(toF m l).toArray:=⟨_,rfl⟩
 have hdl:d.size=l.length:=by rw [hd];simp [toF]
 have hdm:(d.map intF).toList=natL l:=by rw [hd,Array.toList_map];exact toF_val hl
 have hH:Sort.Holds encF w blk 0 d:=fun j hj=>by
  have h1:=holds_of_blockI hb (ss:=natL l) (by rw [natL_len];rw [Nat.mul_one]at htk;exact htk) j (by rw [List.size_toArray,natL_len];omega)
  refine ⟨h1.1.trans ?_,h1.2⟩
  congr 1
  have hj2:j<(natL l).length:=by rw [natL_len];omega
  rw [getElem!_pos d j hj,getElem!_pos (natL l).toArray j (by simpa using hj2)]
  have e1:(natL l)[j]? = some (intF d[j]):=by rw [←hdm];simp [hj]
  have e2:(natL l)[j]=intF d[j]:=(List.getElem_eq_iff hj2).2 e1
  show Value.int .i64 ((natL l)[j])=Value.int .i64 (intF d[j])
  rw [e2]
 have hsw:∀(k:Nat) (os:Array Obj) (dk:Array (Fin (m+1))),w.grownBy (sortWorld encF w blk 0 k dk os) (some blk):=fun k os dk=>by
  rw [sort_encF]
  exact grownBy_sortedI _
 have hC:CmpReads Tryz.prog g cb encF (cfK key) blk 0 d.size w:=fun k os dk _ x y=>by
  have hg:=hsw k os dk
  exact hcmp _ hg.size (fun q hq hne=>hg.block q hq fun e=>hne (by injection e)) x.val y.val x.isLt y.isLt
 rw [←hdl]
 refine (stable_out (cap:=cap) (cfK key) d (by omega) eg hC.lays hH hblk).mono ?_
 rintro e w' ⟨rfl,k,os,rfl⟩
 obtain ⟨⟨p1,_,p3⟩,hs⟩:=Sort.insertionSort_holds (swoK key) d 0 d.size (Nat.zero_le _) (Nat.le_refl _)
 generalize Sort.insertionSort (ltOf (cfK key)) d 0 d.size=d' at *
 have hext:∀a:Array (Fin (m+1)),a.size=d.size→(a.extract 0 d.size)=a:=fun a h=>by rw [←h];simp
 rw [hext d' p1,hext d rfl]at p3
 refine ⟨rfl,hsw k os d',d'.toList.map Fin.val,?_,?_,?_⟩
 ·have h1:=p3.map Fin.val
  have e:d.toList.map Fin.val=l:=by
   rw [hd]
   unfold toF
   rw [List.map_map]
   refine (List.map_congr_left fun i hi=>?_).trans (List.map_id l)
   simp [Nat.mod_eq_of_lt (hl i hi)]
  rw [e]at h1
  exact h1
 ·rw [List.pairwise_map,List.pairwise_iff_getElem]
  intro i j hi hj hij
  have hi':i<d'.size:=by simpa using hi
  have hj':j<d'.size:=by simpa using hj
  have:=hs i j (Nat.zero_le _) hij (by omega)
  rw [getElem!_pos d' i hi',getElem!_pos d' j hj']at this
  unfold ltOf cfK at this
  rw [decide_eq_false_iff_not]at this
  simp only [Array.getElem_toList]
  omega
 ·rw [sort_encF]
  have e1:d'.map intF=(natL (d'.toList.map Fin.val)).toArray:=by
   apply Array.toList_inj.1
   rw [Array.toList_map]
   unfold natL
   rw [List.map_map]
   rfl
  rw [e1,hdl]
  have hl2:(natL (d'.toList.map Fin.val)).length=(natL l).length:=by rw [natL_len,natL_len,List.length_map,Array.length_toList];omega
  have:=ownsRow_sortedI (n:=k) (os:=os) (ss:=natL l) (ts:=natL (d'.toList.map Fin.val)) (base:=B) (cap:=cap) hl2 hB hb (by rw [natL_len];exact hle) hcap hcs
  rw [natL_len]at this
  exact this
theorem stable_none (p:Option Addr) (cap:Nat) (f:Value) (w:World):Calls Tryz.prog 109 #[.slice p 0 cap,f] w fun e w'=>e=.returned (.tuple #[])∧w'=w:=by
 have hI:=AnyF.insertionSortCmpFunc_none (P:=Tryz.prog) (ρ:=Tryz.insI_ren) { Tryz.insI with } p cap f w
 have hI2:Calls Tryz.prog 79 #[.slice p 0 cap,.int .i64 0,.int .i64 0,f] w fun e w'=>e=.returned (.tuple #[])∧w'=w:=hI
 have HI:=Lib.hid hI2
 clear hI hI2
 have h2:Calls Tryz.prog 135 #[.slice p 0 cap,.int .i64 0,f] w fun e w'=>e=.returned (.tuple #[])∧w'=w:=by
  go_enter Tryz.func135,Tryz.ntmps135
  go_wp2
  refine wp_loop_rounds 1 ?_
  rw [rounds_succ]
  go_wp2_with (go_at_call 79;refine HI.out.mono ?_;rintro e w1 ⟨rfl,rfl⟩)
  refine wp_loop_rounds 1 ?_
  rw [rounds_succ]
  go_wp2
  go_end0
  exact ⟨rfl,rfl⟩
 have H2:=Lib.hid h2
 clear h2 HI
 go_enter Tryz.func109,Tryz.ntmps109
 go_wp2_with (go_at_call 135;refine H2.out.mono ?_;rintro e w1 ⟨rfl,rfl⟩)
 go_end0
 exact ⟨rfl,rfl⟩
end Go.Proofs.YtmekiphpjpblpaaGreat
namespace Go.Proofs.YtmekiphpjpblpaaGreat
open Go.RowKit Lim
theorem pos1_c (y:PI) (id:Int):AT 65 [itA y,.ptr [i64 id]] (boo (y.1 == id)):=by
 generalize rowsA y.2.2.2.2.2.2.2.2=R
 refine ACalls.of ⟨4,[],[]⟩ (fn:=Tryz.f65) Tryz.func65 rfl rfl rfl (by kernel_rfl) (by kernel_rfl) (Nat.le_of_ble_eq_true rfl) ?_
 simp (maxSteps:=1000000) -implicitDefEqProofs only [go_sem,awp_seq,Nat.reduceBEq,Nat.reduceAdd,Nat.reduceLT]
theorem pos_c (pool:List PI) (id:Int) (hl:pool.length≤1048576):AT 45 [.sl 9 (pool.map itA),i64 id] (i64 (posI pool id)):=by
 have I:=index_c (f:=65) (pre:=[]) (post:=[.ptr [i64 id]]) (fun y=>y.1 == id) pool hl (fun y _=>pos1_c y id)
 unfold posI
 generalize idxI (fun y=>y.1 == id) pool 0=R at *
 refine ACalls.of ⟨5,[(1,3)],[]⟩ (fn:=Tryz.f45) Tryz.func45 rfl rfl rfl (by kernel_rfl) (by kernel_rfl) (Nat.le_of_ble_eq_true rfl) ?_
 simp (maxSteps:=1000000) -implicitDefEqProofs only [go_sem,awp_seq,Nat.reduceBEq,Nat.reduceAdd,Nat.reduceLT]
 refine callA_t I ?_
 simp (maxSteps:=1000000) -implicitDefEqProofs only [go_sem,awp_seq,Nat.reduceBEq]
def Bnd (q:RowP):Prop:=(-24000000≤q.2.1∧q.2.1≤24000000)∧(-24000000≤q.2.2∧q.2.2≤24000000)
theorem bnd_of {c:List Int} {a b:Int} (ha:0≤a∧a≤9999999) (hb:0≤b∧b≤9999999):Bnd (c,a,b):=⟨⟨by dsimp only;omega,by dsimp only;omega⟩,by dsimp only;omega,by dsimp only;omega⟩
theorem rowE1_bnd {r:RuleV} {rs:List RuleV} {pool:List PI} {vars s:Nat} (hc:chkE r=0):∀q∈rowE1 r rs pool vars s,Bnd q:=by
 intro q hq
 unfold rowE1 at hq
 by_cases h6:r.k=6
 ·rw [if_pos h6]at hq
  rcases List.mem_cons.1 hq with rfl|hq
  ·exact ⟨by simp,by simp⟩
  ·obtain rfl:=List.mem_singleton.1 hq
   exact ⟨by simp,by simp⟩
 rw [if_neg h6]at hq
 by_cases h7:r.k=7
 ·rw [if_pos h7]at hq
  split at hq
  ·exact absurd hq List.not_mem_nil
  ·obtain rfl:=List.mem_singleton.1 hq
   exact bnd_of (by decide) (by decide)
 rw [if_neg h7]at hq
 by_cases h8:r.k=8
 ·rw [if_pos h8]at hq
  split at hq
  ·obtain rfl:=List.mem_singleton.1 hq
   exact bnd_of (by decide) (by decide)
  ·exact absurd hq List.not_mem_nil
 rw [if_neg h8]at hq
 by_cases h9:r.k=9
 ·rw [if_pos h9]at hq
  obtain ⟨f,_,rfl⟩:=List.mem_map.1 hq
  exact bnd_of (by decide) (by decide)
 rw [if_neg h9]at hq
 obtain rfl:=List.mem_singleton.1 hq
 have hb:boundsE r.lo r.hi=0:=by
  unfold chkE at hc
  by_cases h1:r.k=1
  ·rw [if_pos h1]at hc;exact (cont_ok hc).2
  rw [if_neg h1]at hc
  by_cases h5:r.k=5
  ·rw [if_pos h5]at hc;exact (key_ok hc).2
  rw [if_neg h5,if_neg h6,if_neg h7,if_neg h8,if_neg h9]at hc
  exact hc
 have:=bnds_ok hb
 exact bnd_of this.1 this.2
theorem rulesRows_bnd {rs:List RuleV} {pool:List PI} {vars:Nat}:∀(l:List RuleV) (s:Nat),(∀r∈l,chkE r=0)→∀q∈rulesRows rs pool vars l s,Bnd q
 | [],_,_,q,hq=>absurd hq List.not_mem_nil
 | r :: l,s,hc,q,hq=>by
  unfold rulesRows at hq
  rcases List.mem_append.1 hq with hq|hq
  ·exact rowE1_bnd (hc r (by simp)) q hq
  ·exact rulesRows_bnd l _ (fun r hr=>hc r (by simp [hr])) q hq
theorem spec_n {n:Int} {rs:List RuleV} (h:specE n rs=0):1≤n∧n≤18:=by
 unfold specE at h
 split at h
 ·exact absurd h (by decide)
 ·rename_i h2
  simp at h2
  omega
theorem cons_bnd {n:Int} {rs:List RuleV} {pool:List PI} {l:List (Int × Int)} (h:taskE n rs pool l=0):∀q∈consE n rs pool (varsE rs pool) pool.length l,Bnd q:=by
 obtain ⟨hsp,hp⟩:=task_in h
 have hchk:=spec_dem hsp
 have hn:=spec_n hsp
 intro q hq
 unfold consE at hq
 rcases List.mem_cons.1 hq with rfl|hq
 ·exact bnd_of (by omega) (by omega)
 rcases List.mem_append.1 hq with hq|hq
 ·exact rulesRows_bnd rs _ (fun r hr=>(hchk r hr).2) q hq
 ·obtain ⟨p,_,rfl⟩:=List.mem_map.1 hq
  exact bnd_of (by decide) (by decide)
structure VOK (v:List Int) (R:List RowP) (f:List Int) (n:Nat):Prop where
 vl:v.length=n
 fl:f.length=n
 n24:n≤24
 rok:ROK R n
 vr:Rng v
 tri:Tri f
theorem rng_of {c:List Int} (h:∀z∈c,-1000000≤z∧z≤1000000):Rng c:=fun i=>by
 by_cases hi:i<c.length
 ·rw [at0_get hi];exact h _ (List.getElem_mem hi)
 ·rw [at0_out (by omega)];omega
theorem prob_vok {n:Int} {rs:List RuleV} {pool:List PI} {l:List (Int × Int)} {val:List Int} (h:probE n rs pool l val=0) {f:List Int} (hf:f.length=varsE rs pool) (ht:Tri f) :
  VOK (valE val (varsE rs pool)) (consE n rs pool (varsE rs pool) pool.length l) f (varsE rs pool):=by
 obtain ⟨h1,h2,h3,h4⟩:=prob_len h
 obtain ⟨h5,h6⟩:=prob_val_ok h
 have hg:=cons_good h1
 have hb:=cons_bnd h1
 refine ⟨?_,hf,h2,⟨fun r hr=>(hg r hr).1,fun r hr=>rng_of (hg r hr).2,fun r hr=>(hb r hr).1,fun r hr=>(hb r hr).2,h3⟩,rng_of fun z hz=>?_,ht⟩
 ·unfold valE
  have:varsE rs pool=pool.length+setsN rs:=rfl
  simp
  omega
 ·unfold valE at hz
  rcases List.mem_append.1 hz with hz|hz
  ·have h7:badV z=false:=by
    cases hc:badV z with
    | false=>rfl
    | true=>rw [List.any_eq_true.2 ⟨z,hz,hc⟩]at h6;exact absurd h6 (by decide)
   unfold badV at h7
   simp at h7
   omega
  ·obtain rfl:=(List.mem_replicate.1 hz).2
   omega
theorem pos_w {w:World} (hE:Env w) {Z:Zone} (hz:∀b o,Z b o→b<w.heap.size) {pool:List PI} (hl:pool.length≤1048576) {pv:Value} (hp:Rep w Z (.sl 9 (pool.map itA)) pv) (W:World) (hB:Below w.heap.size w W) (id:Int) :
  Calls Tryz.prog 45 #[pv,.int .i64 id] W fun e w'=>e=.returned (.int .i64 (posI pool id))∧Below W.heap.size W w':=by
 refine (at_call hE (pos_c pool id hl) W Z _ hB (fun b o h=>Nat.lt_of_lt_of_le (hz b o h) hB.size) (rep_2 (hp.keep (Keeps.ofBelow hB) fun _ _ h=>h) (.lit rfl))).mono ?_
 rintro e w2 ⟨u,rfl,hb2,hr2⟩
 obtain rfl:=hr2.lit_eq
 exact ⟨rfl,hb2⟩
theorem has_w {w:World} {ex:Nat→Prop} {A:Option Addr} {c:Nat} {l:List Int} (h:SlI w ex (.slice A l.length c) l) (hl:l.length≤1048576) (W:World) (hB:Below w.heap.size w W) {k:Nat} (hk:k≤l.length) (x:Int) :
  Calls Tryz.prog 46 #[.slice A k c,.int .i64 x] W fun e w'=>e=.returned (.bool (decide (x∈l.take k)))∧w'=W:=by
 obtain ⟨A',c',e,hc,hA⟩:=h
 cases e
 cases k with
 | zero =>
  have:=Tryz.slices_Contains_int_empty A c x W
  simpa using this
 | succ k =>
  obtain ⟨b,off,rfl,_,c0⟩:=hA 0 (by omega)
  have:=Tryz.slices_Contains_int b off (k+1) c l x W hk (by omega) fun j hj=>by
   obtain ⟨b',off',e,_,c1⟩:=hA j hj
   cases e
   have c2:=cell_same (w':=W) c1 fun hb=>hB.block _ hb
   rw [c2,List.getD_eq_getElem?_getD,List.getElem?_eq_getElem hj]
   rfl
  rw [List.contains_eq_mem]at this
  exact this
theorem nodup_take {l:List Int} {k:Nat} (hk:k<l.length):(l.take (k+1)).Nodup ↔ (l.take k).Nodup∧l[k] ∉ l.take k:=by
 rw [List.take_succ_eq_append_getElem hk,List.nodup_append]
 constructor
 ·rintro ⟨h1,_,h2⟩
  exact ⟨h1,fun hm=>h2 _ hm _ (by simp) rfl⟩
 ·rintro ⟨h1,h2⟩
  refine ⟨h1,by simp,fun a ha b hb e=>?_⟩
  obtain rfl:=List.mem_singleton.1 hb
  subst e
  exact h2 ha
theorem nodup_of_take {l:List Int} {k:Nat} (h:l.Nodup):(l.take k).Nodup:=h.sublist (List.take_sublist k l)
theorem rps5 {a b c d e:AV} {w:World} {Z:Zone} {vs:Array Value} (h:Rep w Z (.agg [a,b,c,d,e]) (.agg vs)):∃x y z u t,vs=#[x,y,z,u,t]∧Rep w Z a x∧Rep w Z b y∧Rep w Z c z∧Rep w Z d u∧Rep w Z e t:=by
 obtain ⟨hl,hr⟩:=Rep.agg_iff.1 h
 obtain ⟨l,rfl⟩:∃l,vs=List.toArray l:=⟨vs.toList,by simp⟩
 match l,hl with
 | [x,y,z,u,t],_=>exact ⟨x,y,z,u,t,rfl,hr 0 _ _ rfl rfl,hr 1 _ _ rfl rfl,hr 2 _ _ rfl rfl,hr 3 _ _ rfl rfl,hr 4 _ _ rfl rfl⟩
theorem SlI.of_repZ {w:World} {Z:Zone} {l:List Int} {v:Value} (h:Rep w Z (.sl 1 (l.map fun z=>i64 z)) v):SlI w (fun b=>(∃o,Z b o)∧b<w.heap.size) v l:=by
 generalize hm:l.map (fun z=>i64 z)=es at h
 have hl:es.length=l.length:=by rw [←hm,List.length_map]
 cases h with
 | nil =>
  obtain rfl:l=[]:=List.length_eq_zero_iff.1 (by rw [←hl];rfl)
  exact SlI.nil _ _
 | sl vs hb hc hkk hmm hr =>
  rw [hl]at *
  refine ⟨_,_,rfl,hc,fun i hi=>?_⟩
  subst hm
  have h0:=hr i (by rw [List.length_map];exact hi) 0 (by simp [AV.cells])
  simp only [List.getElem_map,AV.cells]at h0
  have c0:=hmm i 0 hi (by omega)
  have e0:vs i 0=.int .i64 l[i]:=h0.lit_eq
  rw [e0,Nat.mul_one,Nat.add_zero]at c0
  exact ⟨_,_,rfl,⟨⟨_,c0.2⟩,World.block_lt_of_cell? w _ c0.1⟩,c0.1⟩
theorem SlR.of_repZ {w:World} {Z:Zone} {R:List RowP} {v:Value} (h:Rep w Z (.sl 3 (R.map rwA)) v):SlR w (fun b=>(∃o,Z b o)∧b<w.heap.size) v R:=by
 generalize hm:R.map rwA=es at h
 have hl:es.length=R.length:=by rw [←hm,List.length_map]
 cases h with
 | nil =>
  obtain rfl:R=[]:=List.length_eq_zero_iff.1 (by rw [←hl];rfl)
  exact ⟨_,_,rfl,fun i hi=>by simp at hi⟩
 | sl vs hb hc hkk hmm hr =>
  rw [hl]at *
  refine ⟨_,_,rfl,fun i hi=>?_⟩
  subst hm
  have h0:=hr i (by rw [List.length_map];exact hi) 0 (by simp [AV.cells])
  have h1:=hr i (by rw [List.length_map];exact hi) 1 (by simp [AV.cells])
  have h2:=hr i (by rw [List.length_map];exact hi) 2 (by simp [AV.cells])
  simp only [List.getElem_map,AV.cells]at h0 h1 h2
  have e1:=h1.lit_eq
  have e2:=h2.lit_eq
  have z0:=(hmm i 0 hi (by omega)).2
  have c0:=(hmm i 0 hi (by omega)).1
  have c1:=(hmm i 1 hi (by omega)).1
  have c2:=(hmm i 2 hi (by omega)).1
  rw [e1]at c1
  rw [e2]at c2
  exact ⟨_,_,vs i 0,rfl,⟨⟨_,z0⟩,World.block_lt_of_cell? w _ c0⟩,c0,c1,c2,SlI.of_repZ h0⟩
theorem idxI_app (p:PI→Bool) (y:PI):∀(l:List PI) (k:Nat),idxI p (l ++ [y]) k=if idxI p l k<0 then (if p y then ((k+l.length:Nat):Int) else -1) else idxI p l k
 | [],k=>by
  show (if p y then ((k:Nat):Int) else -1)=_
  rw [if_pos (show idxI p [] k<0 by show (-1:Int)<0;decide)]
  rfl
 | z :: l,k=>by
  have e1:idxI p (z :: l) k=if p z then ((k:Nat):Int) else idxI p l (k+1):=rfl
  have e2:idxI p ((z :: l) ++ [y]) k=if p z then ((k:Nat):Int) else idxI p (l ++ [y]) (k+1):=rfl
  rw [e1,e2]
  cases p z with
  | true =>
   have h:¬((k:Nat):Int)<0:=by omega
   rw [if_pos rfl,if_pos rfl,if_neg h]
  | false =>
   simp only [Bool.false_eq_true,↓reduceIte]
   rw [idxI_app p y l (k+1)]
   rw [show k+1+l.length=k+(z :: l).length by simp;omega]
theorem posI_take {pool:List PI} {k:Nat} (hk:k<pool.length) (x:Int):posI (pool.take (k+1)) x=if posI (pool.take k) x<0 then (if pool[k].1=x then ((k:Nat):Int) else -1) else posI (pool.take k) x:=by
 unfold posI
 rw [List.take_succ_eq_append_getElem hk,idxI_app,List.length_take]
 rw [show 0+min k pool.length=k by omega]
 by_cases h:pool[k].1=x
 ·have hb:(pool[k].1 == x)=true:=by simpa using h
  rw [if_pos h,if_pos hb]
 ·have hb:¬(pool[k].1 == x)=true:=by simpa using h
  rw [if_neg h,if_neg hb]
def WM (pool:List PI) (val:List Int) (m:List (Value × AV)):Prop:=∀x,mgetA m (.int .i64 x)=if posI pool x<0 then none else some (i64 (at0 val (posI pool x).toNat))
theorem WM.nil (val:List Int):WM [] val []:=fun x=>by
 rw [if_pos (show posI [] x<0 by show (-1:Int)<0;decide)]
 rfl
theorem WM.old {pool:List PI} {val:List Int} {m:List (Value × AV)} {k:Nat} (hk:k<pool.length) (h:WM (pool.take k) val m) (h0:¬posI (pool.take k) pool[k].1<0):WM (pool.take (k+1)) val m:=fun x=>by
 rw [h x,posI_take hk]
 by_cases hx:posI (pool.take k) x<0
 ·have hne:¬pool[k].1=x:=fun e=>h0 (by rw [e];exact hx)
  rw [if_pos hx,if_pos hx,if_neg hne,if_pos (show (-1:Int)<0 by decide)]
 ·rw [if_neg hx,if_neg hx,if_neg hx]
theorem WM.new {pool:List PI} {val:List Int} {m:List (Value × AV)} {k:Nat} (hk:k<pool.length) (h:WM (pool.take k) val m) (h0:posI (pool.take k) pool[k].1<0) {a:Int} (ha:at0 val k=a):WM (pool.take (k+1)) val (mputA m (.int .i64 pool[k].1) (i64 a)):=fun x=>by
 rw [mget_put,h x,posI_take hk]
 by_cases hx:x=pool[k].1
 ·subst hx
  have hkn:¬((k:Nat):Int)<0:=by omega
  rw [if_pos rfl,if_pos h0,if_pos rfl,if_neg hkn,Int.toNat_natCast,ha]
 ·rw [if_neg hx]
  by_cases h1:posI (pool.take k) x<0
  ·have hne:¬pool[k].1=x:=fun e=>hx e.symm
   rw [if_pos h1,if_pos h1,if_neg hne,if_pos (show (-1:Int)<0 by decide)]
  ·rw [if_neg h1,if_neg h1,if_neg h1]
theorem wm_ok {w:World} {g:Nat} {es:Array MapEntry} {clock:Nat} {m:List (Value × AV)} {pool:List PI} {val:List Int} (hb:w.heap[g]? = some (.map es clock)) (hm:MapR w noZ (.int .i64) m es.toList) (hc:WM pool val m) (x:Int):(Instr.lookup cT (.map (some g)) (.int .i64 x) true).run Tryz.prog w=.ok (.tuple #[.int .i64 (wmE pool val x),.bool (!decide (posI pool x<0))]) w:=by
 obtain ⟨v,h1,h2⟩:=lookup_run (P:=Tryz.prog) (kd:=.int .i64) (ty:=cT) (q:=.int .i64 x) (zv:=.int .i64 0) (a0:=i64 0) Tryz.underlying64 Tryz.underlying3 rfl hb hm rfl (Tryz.zeroValue3 w) (.lit rfl) true
 rw [h1]
 have e:(mgetA m (.int .i64 x)).getD (i64 0)=i64 (wmE pool val x):=by
  rw [hc x]
  unfold wmE
  by_cases h:posI pool x<0
  ·rw [if_pos h,if_pos h];rfl
  ·rw [if_neg h,if_neg h];rfl
 have e2:(mgetA m (.int .i64 x)).isSome=!decide (posI pool x<0):=by
  rw [hc x]
  by_cases h:posI pool x<0
  ·rw [if_pos h,decide_eq_true h];rfl
  ·rw [if_neg h,decide_eq_false h];rfl
 rw [cond_true,e,e2]at h2
 obtain ⟨a,b,rfl,r1,r2⟩:=tup2_val h2
 rw [r1.lit_eq,r2.lit_eq]
theorem wm_look {w:World} {g:Nat} {es:Array MapEntry} {clock:Nat} {m:List (Value × AV)} {pool:List PI} {val:List Int} (hb:w.heap[g]? = some (.map es clock)) (hm:MapR w noZ (.int .i64) m es.toList) (hc:WM pool val m) (x:Int):(Instr.lookup cT (.map (some g)) (.int .i64 x) false).run Tryz.prog w=.ok (.int .i64 (wmE pool val x)) w:=by
 obtain ⟨v,h1,h2⟩:=lookup_run (P:=Tryz.prog) (kd:=.int .i64) (ty:=cT) (q:=.int .i64 x) (zv:=.int .i64 0) (a0:=i64 0) Tryz.underlying64 Tryz.underlying3 rfl hb hm rfl (Tryz.zeroValue3 w) (.lit rfl) false
 rw [h1]
 have e:(mgetA m (.int .i64 x)).getD (i64 0)=i64 (wmE pool val x):=by
  rw [hc x]
  unfold wmE
  by_cases h:posI pool x<0
  ·rw [if_pos h,if_pos h];rfl
  ·rw [if_neg h,if_neg h];rfl
 rw [cond_false,e]at h2
 rw [h2.lit_eq]
theorem free1_w {W:World} {V M:Nat} {es:Array MapEntry} {clock:Nat} {m:List (Value × AV)} {pool:List PI} {val:List Int} (hV:W.cell? ⟨V,0,none⟩=some (.map (some M))) (hb:W.heap[M]? = some (.map es clock)) (hm:MapR W noZ (.int .i64) m es.toList) (hc:WM pool val m) (x y:Int) :
  Calls Tryz.prog 33 #[.int .i64 x,.int .i64 y,.pointer (some ⟨V,0,none⟩)] W fun e w'=>e=.returned (.int .i64 (cmpF pool val x y))∧∃n os',w'=Sort.grow (W.drewN n) os':=by
 have L1:=wm_look hb hm hc x
 have L2:=wm_look hb hm hc y
 clear hm hc hb
 unfold cmpF
 generalize wmE pool val x=p at *
 generalize wmE pool val y=q at *
 go_enter Tryz.func33,Tryz.ntmps33
 go_wp2_with (first|(go_at_call 35;refine (compare_w _ _ _).mono ?_;rintro e w' ⟨rfl,rfl⟩)|(go_at_call 34;refine (or_w (cmpI q p) (cmpI x y) _ 2 _ (by simp) (by simp)).mono ?_;rintro e w' ⟨rfl,rfl⟩))
 go_ret
 exact ⟨rfl,0,#[.cells #[.int .i64 (cmpI q p),.int .i64 (cmpI x y)] 3],by rw [Sort.alloc_eq_grow];rfl⟩
theorem ltOf_cmpF (pool:List PI) (val:List Int) (x y:Int):ltOf (cmpF pool val) x y=ltF pool val x y:=cmpF_lt pool val x y
theorem swoF (pool:List PI) (val:List Int):Sort.SWO (ltOf (cmpF pool val)) where
 irrefl x:=by rw [ltOf_cmpF];exact ltF_irr pool val x
 trans x y z h1 h2:=by rw [ltOf_cmpF]at *;exact ltF_trans pool val x y z h1 h2
 ntrans x y z h1 h2:=by
  rw [ltOf_cmpF]at *
  unfold ltF at *
  rw [decide_eq_false_iff_not]at *
  omega
def srtF (pool:List PI) (val:List Int) (l:List Int):List Int:=l.mergeSort fun x y=>!(ltOf (cmpF pool val)) y x
theorem srtF_eq {pool:List PI} {val l:List Int} (hn:l.Nodup):srtF pool val l=isrt (ltF pool val) l:=by
 have hp:(srtF pool val l).Perm l:=List.mergeSort_perm l _
 refine srt_uniq (ltF_irr pool val) (ltF_trans pool val) (hp.trans (isrt_perm l).symm) ?_ (isrt_sorted (ltF_trans pool val) (ltF_tot pool val) l hn)
 have hs:(srtF pool val l).Pairwise fun x y=>(!(ltOf (cmpF pool val)) y x)=true:=List.pairwise_mergeSort (fun a b c h1 h2=>by
   rw [ltOf_cmpF]at *
   unfold ltF at *
   simp at *
   omega) (fun a b=>by
   rw [ltOf_cmpF,ltOf_cmpF]
   unfold ltF
   simp
   omega) l
 have hn2:(srtF pool val l).Nodup:=hp.nodup_iff.2 hn
 refine (hs.and hn2).imp fun {x y} h=>?_
 obtain ⟨h1,h2⟩:=h
 cases h3:ltF pool val x y with
 | true=>rfl
 | false =>
  rw [ltOf_cmpF]at h1
  exact absurd (ltF_tot pool val x y h3 (by simpa using h1)) h2
theorem sortF_w {w:World} {B g cap V M:Nat} {es:Array MapEntry} {clock:Nat} {m:List (Value × AV)} {pool:List PI} {val l:List Int} (hV:w.heap[V]? = some (.cells #[.map (some M)] cT (0,0))) (hb:w.heap[M]? = some (.map es clock)) (hm:MapR w noZ (.int .i64) m es.toList) (hc:WM pool val m) (hVg:V≠g) (hMg:M≠g) (hl:l.length≤1048576)
  (hown:w.ownsRow B 3 1 (.slice (some ⟨g,0,none⟩) l.length cap) l.length (l.map (Value.int .i64))) :
  Calls Tryz.prog 32 #[.slice (some ⟨g,0,none⟩) l.length cap,.func (.func 33) #[] #[.pointer (some ⟨V,0,none⟩)]] w fun e w'=>e=.returned (.tuple #[])∧w.grownBy w' (some g)∧w'.ownsRow B 3 1 (.slice (some ⟨g,0,none⟩) l.length cap) l.length ((srtF pool val l).map (Value.int .i64)):=by
 obtain ⟨cur,hg,hB,hle,hcap,hcs,htk⟩:∃cur,w.heap[g]? = some (.cells cur 3 (0,0))∧B≤g∧l.length≤cap∧cap≤maxLen∧cur.size=cap*1∧cur.toList.take (l.length*1)=l.map (Value.int .i64):=by
  rcases hown.2 with ⟨h0,_⟩|⟨g',cap',cur,e,a2,a3,a4,a5,a6,a7⟩
  ·cases h0
  ·cases e;exact ⟨cur,a3,a2,a4,a5,a6,a7⟩
 have hgl:g<w.heap.size:=(Array.getElem?_eq_some_iff.1 hg).1
 have hH:Sort.Holds (Value.int .i64) w g 0 l.toArray:=holds_of_blockI hg (by rw [Nat.mul_one]at htk;exact htk)
 have eg:∀args w,(callFunc 33 args).run Tryz.prog w=.ok (.enter 33 args) w:=enters_of Tryz.func33 (by kernel_rfl) rfl
 have hcmp:CmpLays1 Tryz.prog 33 #[.pointer (some ⟨V,0,none⟩)] (Value.int .i64) (cmpF pool val) g 0 l.toArray.size w:=fun k os dk _ x y=>by
  have hgr:w.grownBy (sortWorld (Value.int .i64) w g 0 k dk os) (some g):=grownBy_sortedI dk
  have hV2:=(hgr.block V (Array.getElem?_eq_some_iff.1 hV).1 (fun e=>hVg (Option.some.inj e))).trans hV
  have hb2:=(hgr.block M (Array.getElem?_eq_some_iff.1 hb).1 (fun e=>hMg (Option.some.inj e))).trans hb
  exact free1_w (by rw [Lib.cell_of_heap hV2];rfl) hb2 (hm.keep (noKeeps hgr.size) fun _ _ h=>h) hc x y
 have hcon:=Tryz.slices_SortFunc_total (Value.int .i64) (fun _=>rfl) (cmpF pool val) (swoF pool val) 33 #[.pointer (some ⟨V,0,none⟩)] g 0 cap l.toArray w eg hcmp hH hgl (by simp;omega) (fun x y h1 h2=>ltF_tot pool val x y ((ltOf_cmpF pool val x y).symm.trans h1) ((ltOf_cmpF pool val y x).symm.trans h2))
 rw [show l.toArray.size=l.length by simp]at hcon
 refine hcon.mono ?_
 rintro e w' ⟨rfl,n,os,rfl⟩
 refine ⟨rfl,grownBy_sortedI _,?_⟩
 have hlen:(srtF pool val l).length=l.length:=(List.mergeSort_perm l _).length_eq
 exact ownsRow_sortedI (n:=n) (os:=os) (ss:=l) (ts:=srtF pool val l) (base:=B) (cap:=cap) hlen hB hg hle hcap hcs
def Srch.bndK (s:Srch) (d k:Nat) (room sum:Int):Int:=bndZ s.v s.cw s.uw (((s.ord.drop k).filter fun e=>decide (d≤e)).map fun e=>s.free.getD e 0) room sum
theorem bndK_skip {s:Srch} {d k:Nat} {room sum:Int} (hk:k<s.ord.length) (h:s.ord[k]<d):s.bndK d k room sum=s.bndK d (k+1) room sum:=by
 unfold Srch.bndK
 rw [List.drop_eq_getElem_cons hk,List.filter_cons_of_neg (by simpa using h)]
theorem bndK_go {s:Srch} {d k:Nat} {room sum:Int} (hk:k<s.ord.length) (h:d≤s.ord[k]):s.bndK d k room sum =
  if (s.uw && at0 s.cw (s.free.getD s.ord[k] 0) == 1)=true then (if room≤0 then s.bndK d (k+1) room sum else s.bndK d (k+1) (room-1) (sum+at0 s.v (s.free.getD s.ord[k] 0))) else s.bndK d (k+1) room (sum+at0 s.v (s.free.getD s.ord[k] 0)):=by
 unfold Srch.bndK
 rw [List.drop_eq_getElem_cons hk,List.filter_cons_of_pos (by simpa using h),List.map_cons]
 conv=>lhs;unfold bndZ
theorem bndK_end {s:Srch} {d:Nat} {room sum:Int}:s.bndK d s.ord.length room sum=sum:=by
 unfold Srch.bndK
 rw [List.drop_length]
 rfl
theorem bndK_start {s:Srch} {d:Nat} {x:List Int}:s.bnd d x=s.bndK d 0 (s.mx-dotE s.cw x) (dotE s.v x):=by
 unfold Srch.bnd Srch.bndK Srch.odF
 rw [List.drop_zero]
theorem bndK_room {s:Srch} (h:s.uw=false) {d k:Nat} (r1 r2 sum:Int):s.bndK d k r1 sum=s.bndK d k r2 sum:=by
 unfold Srch.bndK
 generalize ((s.ord.drop k).filter fun e=>decide (d≤e)).map (fun e=>s.free.getD e 0)=l
 induction l generalizing sum with
 | nil=>rfl
 | cons i l ih =>
  have e:(s.uw && at0 s.cw i == 1)=true ↔ False:=by rw [h];simp
  unfold bndZ
  rw [if_neg e.1,if_neg e.1]
  exact ih _
theorem SAt.mono2 {K:Srx} {s:Srch} {w0 w:World} {x:List Int} {val:Int} {sums:List Int} {st:St} {bv:Value} (h:SAt K s w0 x val sums st bv w) {W:World} (hW:W=w.drew):SAt K s w0 x val sums st bv W:=by
 subst hW
 exact h.call ⟨rfl,rfl,rfl,Nat.le_refl _,fun _ _=>rfl⟩
theorem SFr.set {K:Srx} {w:World} {b i:Nat} {v:Value} (h:¬K.ex b):SFr K w (w.setCell ⟨b,i,none⟩ v):=by
 refine ⟨?_,?_,?_,by simp,fun q hq he=>heap_setCell_other _ _ _ _ fun e=>h (by rw [←show q=b from e];exact he)⟩ <;> (unfold World.setCell;simp <;> rfl)
section
variable {K:Srx} {s:Srch} {w0 w:World} {x:List Int} {val:Int} {sums:List Int} {st:St} {bv:Value}
theorem ints_set (l:List Int) (i:Nat) (z:Int):(ints l).setIfInBounds i (.int .i64 z)=ints (l.set i z):=by
 unfold ints
 apply Array.toList_inj.1
 simp [List.map_set]
theorem SAt.setX (h:SAt K s w0 x val sums st bv w) (i:Nat) (b:Int):SAt K s w0 (x.set i b) val sums st bv (w.setCell ⟨K.X,i,none⟩ (.int .i64 b)):=by
 refine h.move (SFr.set fun e=>e.2.1 rfl) ?_ ?_ ?_ h.sl (by rw [List.length_set];exact h.xl) (h.bst.keep fun q he _=>⟨heap_setCell_other _ _ _ _ he.2.1,he⟩)
 ·rw [heap_setCell_other _ _ _ _ h.n1,h.hS]
  unfold Srx.cs
  rw [List.length_set]
 ·rw [heap_setCell_same _ _ _ _ _ _ h.hX,ints_set]
 ·rw [heap_setCell_other _ _ _ _ h.n3.symm];exact h.hM
theorem SAt.setM (h:SAt K s w0 x val sums st bv w) (i:Nat) (b:Int):SAt K s w0 x val (sums.set i b) st bv (w.setCell ⟨K.M,i,none⟩ (.int .i64 b)):=by
 refine h.move (SFr.set fun e=>e.2.2 rfl) ?_ ?_ ?_ (by rw [List.length_set];exact h.sl) h.xl (h.bst.keep fun q he _=>⟨heap_setCell_other _ _ _ _ he.2.2,he⟩)
 ·rw [heap_setCell_other _ _ _ _ h.n2];exact h.hS
 ·rw [heap_setCell_other _ _ _ _ h.n3];exact h.hX
 ·rw [heap_setCell_same _ _ _ _ _ _ h.hM,ints_set]
theorem SAt.setS (h:SAt K s w0 x val sums st bv w) (i:Nat) (v:Value) {val':Int} {st':St} {bv':Value} (he:(K.cs s x val st bv).setIfInBounds i v=K.cs s x val' st' bv') (hb:SlI w K.ex bv' st'.best):SAt K s w0 x val' sums st' bv' (w.setCell ⟨K.S,i,none⟩ v):=by
 refine h.move (SFr.set fun e=>e.1 rfl) ?_ ?_ ?_ h.sl h.xl (hb.keep fun q he _=>⟨heap_setCell_other _ _ _ _ he.1,he⟩)
 ·rw [heap_setCell_same _ _ _ _ _ _ h.hS,he]
 ·rw [heap_setCell_other _ _ _ _ h.n1.symm];exact h.hX
 ·rw [heap_setCell_other _ _ _ _ h.n2.symm];exact h.hM
theorem SAt.fS (h:SAt K s w0 x val sums st bv w) (i:Nat):w.frozen? ⟨K.S,i,none⟩=false:=frozen_of_row _ _ _ _ _ h.hS
theorem SAt.fX (h:SAt K s w0 x val sums st bv w) (i:Nat):w.frozen? ⟨K.X,i,none⟩=false:=frozen_of_row _ _ _ _ _ h.hX
theorem SAt.fM (h:SAt K s w0 x val sums st bv w) (i:Nat):w.frozen? ⟨K.M,i,none⟩=false:=frozen_of_row _ _ _ _ _ h.hM
end
def sumsK (R:List RowP) (x x':List Int) (k:Nat):List Int:=(R.take k).map (fun r=>dotE r.1 x') ++ (R.drop k).map fun r=>dotE r.1 x
theorem sumsK_len (R:List RowP) (x x':List Int) {k:Nat} (hk:k≤R.length):(sumsK R x x' k).length=R.length:=by
 unfold sumsK
 simp
 omega
theorem sumsK_at {R:List RowP} {x x':List Int} {k:Nat} (hk:k<R.length) (h:k<(sumsK R x x' k).length):(sumsK R x x' k)[k]'h=dotE R[k].1 x:=by
 have e:(sumsK R x x' k)[k]? = some (dotE R[k].1 x):=by
  unfold sumsK
  rw [List.getElem?_append_right (by simp;omega)]
  simp [Nat.min_eq_left (Nat.le_of_lt hk),hk]
 exact (List.getElem_eq_iff h).2 e
theorem sumsK_set {R:List RowP} {x x':List Int} {k:Nat} (hk:k<R.length):(sumsK R x x' k).set k (dotE R[k].1 x')=sumsK R x x' (k+1):=by
 unfold sumsK
 rw [List.set_append_right _ _ (by simp;omega),List.length_map,List.length_take,Nat.min_eq_left (Nat.le_of_lt hk),Nat.sub_self,List.drop_eq_getElem_cons hk,List.map_cons,List.set_cons_zero,List.take_succ_eq_append_getElem hk,List.map_append]
 simp
theorem sumsK_0 (s:Srch) (x x':List Int):sumsK s.R x x' 0=sumsL s x:=by
 unfold sumsK sumsL
 simp
theorem sumsK_end (s:Srch) (x x':List Int):sumsK s.R x x' s.R.length=sumsL s x':=by
 unfold sumsK sumsL
 simp
theorem set_w {K:Srx} {s:Srch} {w0 w:World} {x:List Int} {st:St} {bv:Value} {n:Nat} (h:SAt K s w0 x (dotE s.v x) (sumsL s x) st bv w) (hs:SOK s n) (hR:ROK s.R n) (hx:x.length=n) (i:Nat) (hi:i<n) (b:Int) (hb01:b=0∨b=1) (hb:Bin x)
  (hd:∀c:List Int,c.length=n→dotE c (x.set i b)=dotE c x+(2*b-1)*at0 c i) :
  Calls Tryz.prog 142 #[.pointer (some ⟨K.S,0,none⟩),.int .i64 i,.int .i64 b] w fun e w'=>e=.returned (.tuple #[])∧SAt K s w0 (x.set i b) (dotE s.v (x.set i b)) (sumsL s (x.set i b)) st bv w':=by
 have hn24:=hs.n24
 have s6:=h.cell (i:=6) (u:=.slice (some ⟨K.X,0,none⟩) x.length x.length) rfl
 have x6:=h.xc (i:=i) (by omega)
 have fx:=h.fX i
 have gi:((i:Nat):Int)<((x.length:Nat):Int):=by omega
 have hi24:((i:Nat):Int)≤24:=by omega
 have hl24:((x.length:Nat):Int)≤24:=by omega
 have hb2:0≤b∧b≤1:=by omega
 go_enter Tryz.func142,Tryz.ntmps142
 go_upto_region 2 with fail
 obtain ⟨x',hx'⟩:∃x',x'=x.set i b:=⟨_,rfl⟩
 have hxl:x'.length=n:=by rw [hx',List.length_set];exact hx
 have h1:=h.setX i b
 rw [←hx']at h1 hd
 obtain ⟨W1,hW1⟩:∃W1,W1=w.setCell ⟨K.X,i,none⟩ (.int .i64 b):=⟨_,rfl⟩
 rw [←hW1]at h1 ⊢
 have hb':Bin x':=fun j=>by
  rw [hx',at0_set (by omega)]
  split
  ·exact hb01
  ·exact hb j
 have HX:=Lib.hid hx'
 clear hW1 s6 x6 fx hx'
 obtain ⟨Av,cv,eV,_,hv⟩:=h1.pv
 obtain ⟨bv1,ov,rfl,_,v1⟩:=hv i (by rw [hs.vl];exact hi)
 have s0:=h1.cell (i:=0) (u:=K.pv) rfl
 have s7:=h1.cell (i:=7) (u:=.int .i64 (dotE s.v x)) rfl
 have f7:=h1.fS 7
 rw [eV]at s0
 have gv:((i:Nat):Int)<((s.v.length:Nat):Int):=by rw [hs.vl];omega
 have hv24:((s.v.length:Nat):Int)≤24:=by rw [hs.vl];omega
 have r1:=hs.vr i
 rw [at0_get (by rw [hs.vl];exact hi)]at r1
 have e1:=hd s.v hs.vl
 rw [at0_get (by rw [hs.vl];exact hi)]at e1
 have r2:=dot_rng hs.vr hb (by rw [hs.vl];exact hn24)
 have r3:=dot_rng hs.vr hb' (by rw [hs.vl];exact hn24)
 clear hv
 refine wp_region_still_tail 17 (by kernel_rfl) (by kernel_rfl) ?_
 simp only [List.take_succ_cons,List.take_zero,List.drop_succ_cons,List.drop_zero]
 change wpStill _ _ W1.drew _ _ _
 repeat still_step
 refine wpStill_nil ?_
 change wpList _ _ _ _ _ W1.drew
 go_upto_region 3 with fail
 have h2:=(h1.setS 7 (.int .i64 (dotE s.v x+(2*b-1)*s.v[i]'(by rw [hs.vl];exact hi))) (val':=dotE s.v x') (st':=st) (bv':=bv) (by rw [e1];rfl) h1.bst).mono2 rfl
 obtain ⟨W2,hW2⟩:∃W2,W2=(W1.setCell ⟨K.S,7,none⟩ (.int .i64 (dotE s.v x+(2*b-1)*s.v[i]'(by rw [hs.vl];exact hi)))).drew:=⟨_,rfl⟩
 rw [←hW2]at h2 ⊢
 clear hW2 s0 s7 f7 h1 v1
 obtain ⟨A,cA,eA,hrow⟩:=h2.pr
 have s1:=h2.cell (i:=1) (u:=K.pr) rfl
 rw [eA]at s1
 rw [←sumsK_0 s x x']at h2
 have hn60:((s.R.length:Nat):Int)≤60:=by have:=hR.n60;omega
 have HD:=Lib.hid hd
 clear hd e1
 go_wp2
 go_loopw [42] (fun i wl=>∃k:Nat,i=.int .i64 k∧k≤s.R.length∧SAt K s w0 x' (dotE s.v x') (sumsK s.R x x' k) st bv wl) (fun i _=>s.R.length-(intOf i).toNat)
 case atStart=>exact ⟨0,rfl,Nat.zero_le _,h2⟩
 case round =>
  clear s1 h2 hrow
  obtain ⟨k,rfl,hk,h3⟩:=hrel
  by_cases hlt:k<s.R.length
  ·obtain ⟨A2,cA2,eA2,hrow⟩:=h3.pr
   have hAA:=eA.symm.trans eA2
   injection hAA with hA1 _ _
   subst hA1
   obtain ⟨b1,o1,_,rfl,_,d0,d1,d2,Ac,cc,rfl,_,hcf⟩:=hrow k hlt
   have hm:=List.getElem_mem hlt
   have hcl:=hR.len _ hm
   have hcr:=hR.rng _ hm
   obtain ⟨b2,o2,rfl,_,d3⟩:=hcf i (by omega)
   have hD:=HD.out _ hcl
   have q1:=dot_rng hcr hb (by omega)
   have q2:=dot_rng hcr hb' (by omega)
   have q3:=hcr i
   rw [at0_get (by omega)]at hD q3
   have hset:=sumsK_set (x:=x) (x':=x') hlt
   have hml:=sumsK_len s.R x x' hk
   have d5:=h3.mc (i:=k) (by omega)
   rw [sumsK_at hlt]at d5
   generalize dotE s.R[k].1 x=sm at *
   generalize dotE s.R[k].1 x'=sm' at *
   have s8:=h3.cell (i:=8) (u:=.slice (some ⟨K.M,0,none⟩) s.R.length s.R.length) rfl
   obtain ⟨ci,hci⟩:∃ci,ci=s.R[k].1[i]'(by omega):=⟨_,rfl⟩
   rw [←hci]at d3 hD q3
   rw [hcl]at d0
   have gc:((i:Nat):Int)<((n:Nat):Int):=by omega
   have gl:((n:Nat):Int)≤24:=by omega
   have g1:((k:Nat):Int)<((s.R.length:Nat):Int):=by omega
   obtain ⟨mn,hmn⟩:∃mn,mn=s.R[k].2.1:=⟨_,rfl⟩
   obtain ⟨mx,hmx⟩:∃mx,mx=s.R[k].2.2:=⟨_,rfl⟩
   rw [←hmn]at d1
   rw [←hmx]at d2
   clear hcl hrow hcf hci hmn hmx eA2 r1 r2 r3 hv24 gv
   go_upto_region 6 with fail
   obtain ⟨W,hW⟩:∃W,W=wr.alloc (.cells #[.slice (some ⟨b2,o2,none⟩) n cc,.int .i64 mn,.int .i64 mx] 110):=⟨_,rfl⟩
   obtain ⟨V,hV⟩:∃V,V=wr.heap.size:=⟨_,rfl⟩
   have hbW:Below wr.heap.size wr W:=by rw [hW];exact (Below.refl _ _).alloc (Nat.le_refl _) _
   have v0:W.cell? ⟨V,0,none⟩=some (.slice (some ⟨b2,o2,none⟩) n cc):=by rw [hW,hV,Lib.cell_of_heap (heap_alloc_new wr _)];rfl
   rw [←hW,←hV]
   clear hW hV
   have mv:∀{b o:Nat} {u:Value},wr.cell? ⟨b,o,none⟩=some u→W.cell? ⟨b,o,none⟩=some u:=fun hc=>cell_same hc fun hb=>hbW.block _ hb
   have t3:=mv d3
   have t5:=mv d5
   have t8:=mv s8
   have h4:=h3.call hbW
   have f5:=h4.fM k
   clear mv d0 d1 d2 d3 d5 s8 h3
   refine wp_region_still_tail 16 (by kernel_rfl) (by kernel_rfl) ?_
   simp only [List.take_succ_cons,List.take_zero,List.drop_succ_cons,List.drop_zero]
   change wpStill _ _ W.drew _ _ _
   repeat still_step
   refine wpStill_nil ?_
   change wpList _ _ _ _ _ W.drew
   go_wp2
   have h5:=(h4.setM k sm').mono2 rfl
   rw [hset,hD]at h5
   refine ⟨⟨_,_,.int .i64 ((k+1:Nat):Int),⟨k+1,rfl,by omega,h5⟩,rfl,rfl,by simp⟩,?_⟩
   simp only [intOf]
   omega
  ·obtain rfl:k=s.R.length:=by omega
   have g1:¬((s.R.length:Nat):Int)<((s.R.length:Nat):Int):=by omega
   rw [sumsK_end]at h3
   go_wp2
   go_end0
   rw [←HX.out]
   exact ⟨rfl,h3⟩
theorem natL_get {l:List Nat} {k:Nat} (h:k<l.length) (h2:k<(natL l).length):(natL l)[k]'h2=((l[k]:Nat):Int):=by simp [natL]
theorem bound_w {K:Srx} {s:Srch} {w0 w:World} {x:List Int} {st:St} {bv:Value} {n:Nat} (h:SAt K s w0 x (dotE s.v x) (sumsL s x) st bv w) (hs:SOK s n) (hR:ROK s.R n) (hb:Bin x) (hx:x.length=n) (d:Nat) (hd:d≤s.free.length) :
  Calls Tryz.prog 140 #[.pointer (some ⟨K.S,0,none⟩),.int .i64 d] w fun e w'=>e=.returned (.int .i64 (s.bnd d x))∧Below w.heap.size w w':=by
 have hfl:=free_len hs
 have hol:=ord_len hs
 have hn24:=hs.n24
 have hvl:=hs.vl
 obtain ⟨Av,cv,eV,_,hv⟩:=h.pv
 obtain ⟨Af,cf,eF,_,hf⟩:=h.fr
 obtain ⟨Ao,co,eO,_,ho⟩:=h.od
 have s0:=h.cell (i:=0) (u:=K.pv) rfl
 have s3:=h.cell (i:=3) (u:=K.fr) rfl
 have s7:=h.cell (i:=7) (u:=.int .i64 (dotE s.v x)) rfl
 have s11:=h.cell (i:=11) (u:=.int .i64 K.wide) rfl
 have s12:=h.cell (i:=12) (u:=K.od) rfl
 rw [eV]at s0
 rw [eF]at s3
 rw [eO]at s12
 have hv1:=dot_rng hs.vr hb (by omega)
 have hol2:(((natL s.ord).length:Nat):Int)≤24:=by rw [natL_len];omega
 have hfl2:(((natL s.free).length:Nat):Int)≤24:=by rw [natL_len];omega
 obtain ⟨R0,hR0⟩:∃R0,R0=s.bnd d x:=⟨_,rfl⟩
 rw [←hR0]
 rw [bndK_start]at hR0
 have hd24:((d:Nat):Int)≤24:=by omega
 go_enter Tryz.func140,Tryz.ntmps140
 rcases h.wd with ⟨hw,hu⟩|⟨kw,hkw,lo,hw,hu,hrk⟩
 ·rw [hw]at s11
  have hKr:R0=s.bndK d 0 0 (dotE s.v x):=by rw [hR0];exact bndK_room hu _ _ _
  clear hR0
  go_wp2
  go_loopw [5,6,47] (fun rm sm i wl=>∃(k:Nat) (sum:Int),i=.int .i64 k∧k≤s.ord.length∧rm=.int .i64 0∧sm=.int .i64 sum∧Below w.heap.size w wl∧R0=s.bndK d k 0 sum∧-24000000≤sum∧sum≤24000000+1000000*(k:Int)) (fun _ _ i _=>s.ord.length-(intOf i).toNat)
  case atStart=>exact ⟨0,_,rfl,Nat.zero_le _,rfl,rfl,Below.refl _ _,hKr,by omega,by omega⟩
  case round =>
   obtain ⟨k,sum,rfl,hk,rfl,rfl,hbl,hK,hs1,hs2⟩:=hrel
   have mv:∀{b o:Nat} {u:Value},w.cell? ⟨b,o,none⟩=some u→wr.cell? ⟨b,o,none⟩=some u:=fun hc=>cell_same hc fun hb=>hbl.block _ hb
   by_cases hlt:k<s.ord.length
   ·obtain ⟨b1,o1,rfl,_,c1⟩:=ho k (by rw [natL_len];exact hlt)
    rw [natL_get hlt]at c1
    replace c1:=mv c1
    have hom:=hs.om _ (List.getElem_mem hlt)
    have g1:((k:Nat):Int)<(((natL s.ord).length:Nat):Int):=by rw [natL_len];omega
    by_cases hed:s.ord[k]<d
    ·have hK2:=hK.trans (bndK_skip hlt hed)
     have gd:((s.ord[k]:Nat):Int)<((d:Nat):Int):=by omega
     have HK:=Lib.hid hK2
     clear hK hK2
     generalize s.ord[k]=e at *
     clear mv
     go_wp2
     refine ⟨⟨k+1,sum,by simp,by omega,rfl,rfl,hbl,HK.out,by omega,by omega⟩,?_⟩
     simp only [intOf]
     omega
    ·have hK2:=hK.trans (bndK_go hlt (by omega))
     have gd:¬((s.ord[k]:Nat):Int)<((d:Nat):Int):=by omega
     clear hK
     generalize s.ord[k]=e at *
     obtain ⟨he,hv0⟩:=hom
     obtain ⟨b2,o2,rfl,_,c2⟩:=hf e (by rw [natL_len];exact he)
     rw [natL_get he]at c2
     replace c2:=mv c2
     rw [getD_get he]at hK2 hv0
     have hfi:=hs.fl _ (List.getElem_mem he)
     generalize s.free[e]=i at *
     obtain ⟨b3,o3,rfl,_,c3⟩:=hv i (by omega)
     have r1:=hs.vr i
     have g2:((e:Nat):Int)<(((natL s.free).length:Nat):Int):=by rw [natL_len];omega
     have g3:((i:Nat):Int)<((s.v.length:Nat):Int):=by omega
     have g4:((s.v.length:Nat):Int)≤24:=by omega
     rw [at0_get (show i<s.v.length by omega)]at hK2 r1 hv0
     obtain ⟨vi,hvi⟩:∃vi,vi=s.v[i]'(by omega):=⟨_,rfl⟩
     rw [←hvi]at hK2 r1 c3 hv0
     clear hvi
     replace c3:=mv c3
     have t0:=mv s0
     have t3:=mv s3
     have t11:=mv s11
     clear mv s0 s3 s7 s11 s12 ho hf hv
     rw [if_neg (by rw [hu];simp)]at hK2
     have HK:=Lib.hid hK2
     clear hK2
     have w1:IntKind.i64.wrap (sum+vi)=sum+vi:=IntWalk.i64_in _ (by omega)
     go_upto_region 10 with fail
     go_quiet (fail)
     go_wp2
     refine ⟨⟨k+1,sum+vi,by simp,by omega,rfl,rfl,below_drewN hbl _,HK.out,by omega,by omega⟩,?_⟩
     simp only [intOf]
     omega
   ·obtain rfl:k=s.ord.length:=by omega
    have g1:¬((s.ord.length:Nat):Int)<(((natL s.ord).length:Nat):Int):=by rw [natL_len];omega
    rw [bndK_end]at hK
    subst hK
    go_wp2
    go_ret
    exact ⟨rfl,hbl⟩
 ·obtain ⟨A,cA,eA,hrow⟩:=h.pr
  obtain ⟨b4,o4,_,rfl,_,d0,d1,d2,Ac,cc,rfl,_,hcw⟩:=hrow kw hkw
  have hm:=List.getElem_mem hkw
  have hcl:=hR.len _ hm
  have hcr:=hR.rng _ hm
  have hhi:=hR.hi _ hm
  have d5:=h.mc (i:=kw) (by unfold sumsL;rw [List.length_map];exact hkw)
  have e5:(sumsL s x)[kw]'(by unfold sumsL;rw [List.length_map];exact hkw)=dotE s.R[kw].1 x:=by simp [sumsL]
  rw [e5]at d5
  have q1:=dot_rng hcr hb (by omega)
  have s1:=h.cell (i:=1) (u:=K.pr) rfl
  have s8:=h.cell (i:=8) (u:=.slice (some ⟨K.M,0,none⟩) s.R.length s.R.length) rfl
  rw [eA]at s1
  rw [hw]at s11
  simp only [hrk]at d0 d2 hcl hhi hcw q1 d5
  rw [hcl]at d0
  have hn60:((s.R.length:Nat):Int)≤60:=by have:=hR.n60;omega
  have gk:((kw:Nat):Int)<((s.R.length:Nat):Int):=by omega
  have gk0:(0:Int)≤((kw:Nat):Int):=by omega
  have w0':IntKind.i64.wrap (s.mx-dotE s.cw x)=s.mx-dotE s.cw x:=IntWalk.i64_in _ (by omega)
  obtain ⟨rm0,hrm0⟩:∃rm0,rm0=s.mx-dotE s.cw x:=⟨_,rfl⟩
  have hrm1:-48000000≤rm0∧rm0≤48000000:=by omega
  have HR0:=Lib.hid hR0
  have HM0:=Lib.hid hrm0
  clear hR0 hrm0 hrow d1 e5 eA hcr hhi
  go_wp2
  go_quiet (fail)
  go_wp2
  go_loopw [5,6,47] (fun rm sm i wl=>∃(k:Nat) (sum room:Int),i=.int .i64 k∧k≤s.ord.length∧rm=.int .i64 room∧sm=.int .i64 sum∧Below w.heap.size w wl∧R0=s.bndK d k room sum∧-24000000≤sum∧sum≤24000000+1000000*(k:Int)∧-48000000-(k:Int)≤room∧room≤48000000) (fun _ _ i _=>s.ord.length-(intOf i).toNat)
  case atStart=>exact ⟨0,_,_,rfl,Nat.zero_le _,rfl,rfl,below_drewN (Below.refl _ _) _,HR0.out,by omega,by omega,by have:=HM0.out;omega,by have:=HM0.out;omega⟩
  case round =>
   clear s7 s8 s12 w0' d2 d5
   obtain ⟨k,sum,room,rfl,hk,rfl,rfl,hbl,hK,hs1,hs2,hr1,hr2⟩:=hrel
   have mv:∀{b o:Nat} {u:Value},w.cell? ⟨b,o,none⟩=some u→wr.cell? ⟨b,o,none⟩=some u:=fun hc=>cell_same hc fun hb=>hbl.block _ hb
   by_cases hlt:k<s.ord.length
   ·obtain ⟨b1,o1,rfl,_,c1⟩:=ho k (by rw [natL_len];exact hlt)
    rw [natL_get hlt]at c1
    replace c1:=mv c1
    have hom:=hs.om _ (List.getElem_mem hlt)
    have g1:((k:Nat):Int)<(((natL s.ord).length:Nat):Int):=by rw [natL_len];omega
    by_cases hed:s.ord[k]<d
    ·have hK2:=hK.trans (bndK_skip hlt hed)
     have gd:((s.ord[k]:Nat):Int)<((d:Nat):Int):=by omega
     have HK:=Lib.hid hK2
     clear hK hK2
     generalize s.ord[k]=e at *
     clear mv
     go_wp2
     refine ⟨⟨k+1,sum,room,by simp,by omega,rfl,rfl,hbl,HK.out,by omega,by omega,by omega,by omega⟩,?_⟩
     simp only [intOf]
     omega
    ·have hK2:=hK.trans (bndK_go hlt (by omega))
     have gd:¬((s.ord[k]:Nat):Int)<((d:Nat):Int):=by omega
     clear hK
     generalize s.ord[k]=e at *
     obtain ⟨he,hv0⟩:=hom
     obtain ⟨b2,o2,rfl,_,c2⟩:=hf e (by rw [natL_len];exact he)
     rw [natL_get he]at c2
     replace c2:=mv c2
     rw [getD_get he]at hK2 hv0
     have hfi:=hs.fl _ (List.getElem_mem he)
     generalize s.free[e]=i at *
     obtain ⟨b3,o3,rfl,_,c3⟩:=hv i (by omega)
     have r1:=hs.vr i
     have g2:((e:Nat):Int)<(((natL s.free).length:Nat):Int):=by rw [natL_len];omega
     have g3:((i:Nat):Int)<((s.v.length:Nat):Int):=by omega
     have g4:((s.v.length:Nat):Int)≤24:=by omega
     rw [at0_get (show i<s.v.length by omega)]at hK2 r1 hv0
     obtain ⟨vi,hvi⟩:∃vi,vi=s.v[i]'(by omega):=⟨_,rfl⟩
     rw [←hvi]at hK2 r1 c3 hv0
     clear hvi
     replace c3:=mv c3
     have t0:=mv s0
     have t3:=mv s3
     have t11:=mv s11
     clear mv s0 s3 s11 ho hf hv
     obtain ⟨b5,o5,rfl,_,c5⟩:=hcw i (by omega)
     have c5:=cell_same (w':=wr) c5 fun hb=>hbl.block _ hb
     have t1:=cell_same (w':=wr) s1 fun hb=>hbl.block _ hb
     have q0:=cell_same (w':=wr) d0 fun hb=>hbl.block _ hb
     have hci:at0 s.cw i=s.cw[i]'(by omega):=at0_get (by omega)
     rw [hu,Bool.true_and,hci]at hK2
     generalize s.cw[i]'(by omega)=ci at *
     have gi:((i:Nat):Int)<((n:Nat):Int):=by omega
     have gn:((n:Nat):Int)≤24:=by omega
     have w1:IntKind.i64.wrap (sum+vi)=sum+vi:=IntWalk.i64_in _ (by omega)
     have w2:IntKind.i64.wrap (room-1)=room-1:=IntWalk.i64_in _ (by omega)
     clear s1 d0 hcw hci
     go_upto_region 10 with fail
     by_cases h1:ci=1
     ·subst h1
      rw [if_pos (by rfl)]at hK2
      go_quiet (fail)
      by_cases hrm:room≤0
      ·rw [if_pos hrm]at hK2
       have HK:=Lib.hid hK2
       clear hK2
       go_wp2
       refine ⟨⟨k+1,sum,room,by simp,by omega,rfl,rfl,below_drewN hbl _,HK.out,by omega,by omega,by omega,by omega⟩,?_⟩
       simp only [intOf]
       omega
      ·rw [if_neg hrm]at hK2
       have HK:=Lib.hid hK2
       clear hK2
       go_wp2
       refine ⟨⟨k+1,sum+vi,room-1,by simp,by omega,rfl,rfl,below_drewN hbl _,HK.out,by omega,by omega,by omega,by omega⟩,?_⟩
       simp only [intOf]
       omega
     ·have cb:(ci == 1)=false:=by simpa using h1
      rw [if_neg (by rw [cb];simp)]at hK2
      have HK:=Lib.hid hK2
      clear hK2
      go_quiet (fail)
      go_wp2
      refine ⟨⟨k+1,sum+vi,room,by simp,by omega,rfl,rfl,below_drewN hbl _,HK.out,by omega,by omega,by omega,by omega⟩,?_⟩
      simp only [intOf]
      omega
   ·obtain rfl:k=s.ord.length:=by omega
    have g1:¬((s.ord.length:Nat):Int)<(((natL s.ord).length:Nat):Int):=by rw [natL_len];omega
    rw [bndK_end]at hK
    subst hK
    go_wp2
    go_ret
    exact ⟨rfl,hbl⟩
theorem SlI.of_own {w:World} {B:Nat} {e:TypeId} {v:Value} {n:Nat} {l:List Int} (h:w.ownsRow B e 1 v n (l.map (Value.int .i64))) (hn:n=l.length):SlI w (fun b=>B≤b) v l:=by
 subst hn
 rcases h.2 with ⟨rfl,h0⟩|⟨g,cap,cur,rfl,a2,a3,a4,a5,a6,a7⟩
 ·obtain rfl:l=[]:=List.length_eq_zero_iff.1 h0
  exact SlI.nil _ _
 ·refine ⟨_,cap,rfl,a4,fun i hi=>⟨g,0,rfl,a2,?_⟩⟩
  have h1:(l.map (Value.int .i64))[i]? = some (.int .i64 l[i]):=by simp [hi]
  have:=h.cells (g:=g) rfl i _ h1
  rw [show (⟨g,0,none⟩:Addr).add i=⟨g,i,none⟩by unfold Addr.add;split <;> simp_all]at this
  rw [Nat.zero_add]
  exact this
structure BelowOf (w:World) where
 W:World
 h:Below w.heap.size w W
instance belowOf_inh (w:World):Inhabited (BelowOf w):=⟨⟨w,Below.refl _ _⟩⟩
theorem wp_region_quiet_below {P:Program} {id:Nat} {Q:Exit→Act→World→Prop} {a:Act} {w:World} {l:List Oper} (hm:P.follows .mixedOrders=true) (hB:Region.lexB .any l.toArray=true)
  (h:wpQuiet P l.toArray (fun w'=>∃p:BelowOf w,w'=p.W) (fun a'=>∀w',(∃p:BelowOf w,w'=p.W)→Q .normal a' w') l a):(Code.region id l.toArray true).wp P Q a w :=
 wp_region_quiet (C:=fun w'=>∃p:BelowOf w,w'=p.W) hm hB ⟨⟨w.drew,⟨rfl,rfl,rfl,Nat.le_refl _,fun _ _=>rfl⟩⟩,rfl⟩ (by simpa using h)
theorem Calls.below_of {P:Program} {f:FuncId} {args:Array Value} {w:World} {p:BelowOf w} {v:Value} (h:Calls P f args p.W fun e w'=>e=.returned v∧Below p.W.heap.size p.W w'):Calls P f args p.W fun e w''=>e=.returned v∧∃q:BelowOf w,w''=q.W :=
 h.mono fun _ w' ⟨he,hm⟩=>⟨he,⟨w',p.h.trans (hm.mono p.h.size)⟩,rfl⟩
theorem visE_stop {s:Srch} {k:Nat} {x:List Int} {st:St} (h:s.stop (s.free.length-k) x st=true):s.visE k x st=st:=by
 cases k with
 | zero=>unfold Srch.visE;rw [Nat.sub_zero]at h;rw [if_pos h]
 | succ k=>unfold Srch.visE;rw [if_pos h]
theorem visE_zero {s:Srch} {x:List Int} {st:St} (h:s.stop s.free.length x st=false):s.visE 0 x st=⟨if s.once then MAXI else dotE s.v x+1,x,dotE s.v x,true⟩:=by
 unfold Srch.visE;rw [if_neg (by rw [h];simp)]
theorem visE_late {s:Srch} {k:Nat} {x:List Int} {st:St} (h:s.stop (s.free.length-(k+1)) x st=false) (h1:s.one=false) (h2:at0 s.v (s.free.getD (s.free.length-(k+1)) 0)≤0):s.visE (k+1) x st=s.visE k (x.set (s.free.getD (s.free.length-(k+1)) 0) 1) (s.visE k x st):=by
 conv=>lhs;unfold Srch.visE
 rw [if_neg (by rw [h];simp),if_pos (by rw [h1,decide_eq_true h2];rfl)]
theorem visE_early {s:Srch} {k:Nat} {x:List Int} {st:St} (h:s.stop (s.free.length-(k+1)) x st=false) (h2:s.one=true∨¬at0 s.v (s.free.getD (s.free.length-(k+1)) 0)≤0):s.visE (k+1) x st=s.visE k x (s.visE k (x.set (s.free.getD (s.free.length-(k+1)) 0) 1) st):=by
 conv=>lhs;unfold Srch.visE
 rw [if_neg (by rw [h];simp),if_neg]
 rcases h2 with h2|h2
 ·rw [h2];simp
 ·rw [decide_eq_false h2];simp
theorem visit_0 {K:Srx} {s:Srch} {n:Nat} {w0:World} (hs:SOK s n) (hR:ROK s.R n):0≤s.free.length→∀(w:World) (x:List Int) (st:St) (bv:Value),SAt K s w0 x (dotE s.v x) (sumsL s x) st bv w→x.length=n→Zer (s.free.drop (s.free.length-0)) x→Bin x →
  Calls Tryz.prog 112 #[.pointer (some ⟨K.S,0,none⟩),.int .i64 ((s.free.length-0:Nat):Int)] w fun e w'=>e=.returned (.tuple #[])∧∃bv',SAt K s w0 x (dotE s.v x) (sumsL s x) (s.visE 0 x st) bv' w':=by
 intro hk w x st bv h hx hz hb
 subst hx
 obtain ⟨R0,hR0⟩:∃R0,R0=s.visE 0 x st:=⟨_,rfl⟩
 rw [←hR0]
 have HR0:=Lib.hid hR0
 clear hR0
 obtain ⟨d,hd⟩:∃d,d=s.free.length-0:=⟨_,rfl⟩
 rw [←hd]at hz ⊢
 have hdl:d≤s.free.length:=by omega
 have HDD:=Lib.hid hd
 clear hd
 obtain ⟨pb,hpb⟩:∃pb,pb=possB s.R x (s.free.drop d):=⟨_,rfl⟩
 obtain ⟨bd,hbd⟩:∃bd,bd=s.bnd d x:=⟨_,rfl⟩
 have hst:s.stop d x st=(!pb || decide (bd<st.least)):=by rw [hpb,hbd];rfl
 have HS:=Lib.hid hst
 have BW:∀p:BelowOf w,Calls Tryz.prog 140 #[.pointer (some ⟨K.S,0,none⟩),.int .i64 d] p.W fun e w'=>e=.returned (.int .i64 bd)∧Below p.W.heap.size p.W w':=fun p=>by
  rw [hbd]
  exact bound_w (h.call p.h) hs hR hb rfl d hdl
 have PW:∀p:BelowOf w,Calls Tryz.prog 139 #[.pointer (some ⟨K.S,0,none⟩),.int .i64 d] p.W fun e w'=>e=.returned (.bool pb)∧Below p.W.heap.size p.W w':=fun p=>by
  rw [hpb]
  exact poss_w (h.call p.h) hs hR hb rfl d hdl
 have c13:∀p:BelowOf w,p.W.cell? ⟨K.S,13,none⟩=some (.int .i64 st.least):=fun p=>(h.call p.h).cell rfl
 have HBW:=Lib.hid BW
 have HPW:=Lib.hid PW
 clear BW PW hst hpb hbd
 go_enter Tryz.func112,Tryz.ntmps112
 go_wp2
 refine wp_region_quiet_below (by kernel_rfl) (by kernel_rfl) ?_
 cases pb with
 | false =>
  repeat (quiet_step ((go_at_call 139;exact Calls.below_of (HPW.out _))))
  refine wpQuiet_nil ?_
  rintro w9 ⟨⟨wq,hq⟩,rfl⟩
  have e0:R0=st:=by rw [HR0.out];exact visE_stop (by rw [←HDD.out,HS.out];rfl)
  subst e0
  have h9:=h.call hq
  go_wp2
  refine bodyPost_ret (results_none rfl _ _ _) rfl ?_
  exact ⟨rfl,_,h9⟩
 | true =>
  repeat (quiet_step (first|(go_at_call 139;exact Calls.below_of (HPW.out _))|(go_at_call 140;exact Calls.below_of (HBW.out _))))
  refine wpQuiet_nil ?_
  rintro w9 ⟨⟨wq,hq⟩,rfl⟩
  have h9:=h.call hq
  clear c13 hq
  by_cases hlt:bd<st.least
  ·
   have e0:R0=st:=by rw [HR0.out];exact visE_stop (by rw [←HDD.out,HS.out,decide_eq_true hlt];rfl)
   subst e0
   go_wp2
   refine bodyPost_ret (results_none rfl _ _ _) rfl ?_
   exact ⟨rfl,_,h9⟩
  ·have hst:s.stop d x st=false:=by rw [HS.out,decide_eq_false hlt];rfl
   have s3:=h9.cell (i:=3) (u:=K.fr) rfl
   obtain ⟨Af,cf,eF,hcf,hfr⟩:=h9.fr
   rw [eF]at s3
   have hfl:=free_len hs
   have hn24:=hs.n24
   clear HS HBW HPW h
   have e0:=(HR0.out).trans (visE_zero (by have:=HDD.out;rw [Nat.sub_zero]at this;rw [←this];exact hst))
   have HE:=Lib.hid e0
   clear e0 HR0 hst hfr
   have g3:(((d:Nat):Int) == (((natL s.free).length:Nat):Int))=true:=by rw [natL_len,HDD.out];simp
   have s6:=h9.cell (i:=6) (u:=.slice (some ⟨K.X,0,none⟩) x.length x.length) rfl
   have s7:=h9.cell (i:=7) (u:=.int .i64 (dotE s.v x)) rfl
   have CL:∀W,Below w9.heap.size w9 W→Calls Tryz.prog 141 #[.slice (some ⟨K.X,0,none⟩) x.length x.length] W fun e w'=>∃A c,e=.returned (.slice A x.length c)∧SlI w' K.ex (.slice A x.length c) x∧Below W.heap.size W w':=fun W hW=>by
    have hh:=h9.call hW
    refine Calls.mono (Tryz.slices_Clone_int K.X 0 x.length x.length x W (Nat.le_refl _) (by omega) fun j hj=>?_) ?_
    ·rw [Nat.zero_add,hh.xc hj,List.getD_eq_getElem?_getD,List.getElem?_eq_getElem hj];rfl
    ·rintro e w' ⟨v',rfl,hown,_,hb'⟩
     rw [List.take_length]at hown
     have hsl:=SlI.of_own hown rfl
     obtain ⟨A,c,rfl⟩:=hsl.len
     refine ⟨A,c,rfl,hsl.keep fun b hb2 hlt2=>⟨rfl,?_⟩,hb'⟩
     have z1:K.S<W.heap.size:=(Array.getElem?_eq_some_iff.1 hh.hS).1
     have z2:K.X<W.heap.size:=(Array.getElem?_eq_some_iff.1 hh.hX).1
     have z3:K.M<W.heap.size:=(Array.getElem?_eq_some_iff.1 hh.hM).1
     exact ⟨by omega,by omega,by omega⟩
   have sd6:w9.drew.cell? ⟨K.S,6,none⟩=some (.slice (some ⟨K.X,0,none⟩) x.length x.length):=s6
   have sd7:w9.drew.cell? ⟨K.S,7,none⟩=some (.int .i64 (dotE s.v x)):=s7
   have HCL:=Lib.hid CL
   clear CL eF hcf hz
   have KF:∀X,Below w9.heap.size w9 X→X.cell? ⟨K.S,6,none⟩=some (.slice (some ⟨K.X,0,none⟩) x.length x.length)∧X.cell? ⟨K.S,7,none⟩=some (.int .i64 (dotE s.v x)):=fun X hX=>⟨(h9.call hX).cell rfl,(h9.call hX).cell rfl⟩
   have KK:=Lib.hid KF
   clear KF
   go_wp2
   go_region_law
    (first|(go_simp;go_at_call 141;(with_reducible refine (HCL.out _ (by with_reducible repeat' (first|exact Below.refl _ _|refine Below.drew ?_))).mono ?_);rintro e w7 ⟨A7,c7,rfl,hs7,hb7⟩;have h7:=(h9.mono2 (W:=w9.drew) rfl).call hb7;have c6:=h7.cell (i:=6) (u:=.slice (some ⟨K.X,0,none⟩) x.length x.length) rfl;have c7':=h7.cell (i:=7) (u:=.int .i64 (dotE s.v x)) rfl;have f14:=h7.fS 14;have c14:=h7.cell (i:=14) rfl;have f15:=h7.fS 15;have c15:=h7.cell (i:=15) rfl;have f16:=h7.fS 16;have c16:=h7.cell (i:=16) rfl)|fail)
   all_goals
    have h10:=((h7.setS 14 (.slice A7 x.length c7) (val':=dotE s.v x) (st':=⟨st.least,x,st.most,st.found⟩) (bv':=.slice A7 x.length c7) rfl hs7).setS 15 (.int .i64 (dotE s.v x)) (val':=dotE s.v x) (st':=⟨st.least,x,dotE s.v x,st.found⟩) (bv':=.slice A7 x.length c7) rfl (hs7.keep fun q he _=>⟨heap_setCell_other _ _ _ _ he.1,he⟩)).setS 16 (.bool true) (val':=dotE s.v x) (st':=⟨st.least,x,dotE s.v x,true⟩) (bv':=.slice A7 x.length c7) rfl (hs7.keep fun q he _=>⟨(heap_setCell_other _ _ _ _ he.1).trans (heap_setCell_other _ _ _ _ he.1),he⟩)
    obtain ⟨W10,hW10⟩:∃W10,W10=((w7.setCell ⟨K.S,14,none⟩ (.slice A7 x.length c7)).setCell ⟨K.S,15,none⟩ (.int .i64 (dotE s.v x))).setCell ⟨K.S,16,none⟩ (.bool true):=⟨_,rfl⟩
    rw [←hW10]at h10 ⊢
    clear hW10 c6 c7' f14 c14 f15 c15 f16 c16 h7 hs7 hb7 h9 s6 s7 sd6 sd7 s3 g3 HCL KK
    have s7:=h10.cell (i:=7) (u:=.int .i64 (dotE s.v x)) rfl
    have s5:=h10.cell (i:=5) (u:=.bool s.once) rfl
    have s13:=h10.cell (i:=13) (u:=.int .i64 st.least) rfl
    have f13:=h10.fS 13
    have hdr:=dot_rng hs.vr hb (by have:=hs.vl;omega)
    have h11:=h10.setS 13 (.int .i64 (dotE s.v x+1)) (val':=dotE s.v x) (st':=⟨dotE s.v x+1,x,dotE s.v x,true⟩) (bv':=.slice A7 x.length c7) rfl h10.bst
    have h12:=h11.setS 13 (.int .i64 9223372036854775807) (val':=dotE s.v x) (st':=⟨9223372036854775807,x,dotE s.v x,true⟩) (bv':=.slice A7 x.length c7) rfl h11.bst
    cases ho:s.once with
    | false =>
     rw [ho]at s5
     have e1:=HE.out
     rw [ho,if_neg (by simp)]at e1
     subst e1
     clear h12 h10
     go_wp2
     refine bodyPost_ret (results_none rfl _ _ _) rfl ?_
     exact ⟨rfl,_,h11⟩
    | true =>
     rw [ho]at s5
     have e1:=HE.out
     rw [ho,if_pos rfl]at e1
     subst e1
     have s5':=h11.cell (i:=5) (u:=.bool s.once) rfl
     rw [ho]at s5'
     clear h11 h10
     go_wp2
     refine bodyPost_ret (results_none rfl _ _ _) rfl ?_
     exact ⟨rfl,_,h12⟩
theorem great1_w {W:World} {ex:Nat→Prop} {pv:Value} {v:List Int} {P:Nat} (hv:SlI W ex pv v) (hP:W.cell? ⟨P,0,none⟩=some pv) (hr:Rng v) (h24:v.length≤24) (i j:Nat) (hi:i<v.length) (hj:j<v.length) :
  Calls Tryz.prog 110 #[.int .i64 (i:Nat),.int .i64 (j:Nat),.pointer (some ⟨P,0,none⟩)] W fun e w'=>e=.returned (.int .i64 (at0 v j-at0 v i))∧∃q,w'=W.drewN q:=by
 obtain ⟨A,c,rfl,_,hA⟩:=hv
 obtain ⟨b,o,rfl,_,c1⟩:=hA i hi
 obtain ⟨b2,o2,e,_,c2⟩:=hA j hj
 cases e
 have r1:=hr i
 have r2:=hr j
 rw [at0_get hi]at r1 ⊢
 rw [at0_get hj]at r2 ⊢
 generalize v[i]=a at *
 generalize v[j]=b' at *
 have g1:((i:Nat):Int)<((v.length:Nat):Int):=by omega
 have g2:((j:Nat):Int)<((v.length:Nat):Int):=by omega
 have g3:((v.length:Nat):Int)≤24:=by omega
 have w1:IntKind.i64.wrap (b'-a)=b'-a:=IntWalk.i64_in _ (by omega)
 clear hA
 go_enter Tryz.func110,Tryz.ntmps110
 go_wp2
 go_quiet (fail)
 go_wp2
 go_ret
 exact ⟨rfl,_,rfl⟩
theorem newS1_w {W:World} {ex ex':Nat→Prop} {pv fr:Value} {v:List Int} {fl:List Nat} {P F:Nat} (hv:SlI W ex pv v) (hf:SlI W ex' fr (natL fl)) (hP:W.cell? ⟨P,0,none⟩=some pv) (hF:W.cell? ⟨F,0,none⟩=some fr) (hr:Rng v) (h24:v.length≤24) (hl24:fl.length≤24) (hlt:∀i∈fl,i<v.length) (i j:Nat) (hi:i<fl.length) (hj:j<fl.length) :
  Calls Tryz.prog 138 #[.int .i64 (i:Nat),.int .i64 (j:Nat),.pointer (some ⟨P,0,none⟩),.pointer (some ⟨F,0,none⟩)] W fun e w'=>e=.returned (.int .i64 (at0 v (fl.getD j 0)-at0 v (fl.getD i 0)))∧∃q,w'=W.drewN q:=by
 obtain ⟨A,c,rfl,_,hA⟩:=hv
 obtain ⟨A2,c2,rfl,_,hA2⟩:=hf
 obtain ⟨bi,oi,rfl,_,ci⟩:=hA2 i (by rw [natL_len];exact hi)
 obtain ⟨bj,oj,e,_,cj⟩:=hA2 j (by rw [natL_len];exact hj)
 cases e
 rw [natL_get hi]at ci
 rw [natL_get hj]at cj
 rw [getD_get hi,getD_get hj]
 have hi2:=hlt _ (List.getElem_mem hi)
 have hj2:=hlt _ (List.getElem_mem hj)
 generalize fl[i]=i' at *
 generalize fl[j]=j' at *
 obtain ⟨b,o,rfl,_,c3⟩:=hA i' hi2
 obtain ⟨b2,o2,e,_,c4⟩:=hA j' hj2
 cases e
 have r1:=hr i'
 have r2:=hr j'
 rw [at0_get hi2]at r1 ⊢
 rw [at0_get hj2]at r2 ⊢
 generalize v[i']=a at *
 generalize v[j']=b' at *
 have g1:((i':Nat):Int)<((v.length:Nat):Int):=by omega
 have g2:((j':Nat):Int)<((v.length:Nat):Int):=by omega
 have g3:((v.length:Nat):Int)≤24:=by omega
 have g4:((i:Nat):Int)<(((natL fl).length:Nat):Int):=by rw [natL_len];omega
 have g5:((j:Nat):Int)<(((natL fl).length:Nat):Int):=by rw [natL_len];omega
 have g6:(((natL fl).length:Nat):Int)≤24:=by rw [natL_len];omega
 have w1:IntKind.i64.wrap (b'-a)=b'-a:=IntWalk.i64_in _ (by omega)
 clear hA hA2 hlt
 go_enter Tryz.func138,Tryz.ntmps138
 go_wp2
 go_quiet (fail)
 go_wp2
 go_ret
 exact ⟨rfl,_,rfl⟩
def nsC (pv pr pf fr:Value) (wd:Int) (xs:Value) (val:Int) (ss lo hi od:Value):Array Value :=
 #[pv,pr,pf,fr,.bool false,.bool false,xs,.int .i64 val,ss,lo,hi,.int .i64 wd,od,.int .i64 0,.slice none 0 0,.int .i64 0,.bool false]
structure NB (w:World) (P F S:Nat) (pc:Array Value) (frv:Value) (sc:Array Value) (W:World):Prop where
 below:Below w.heap.size w W
 hP:W.heap[P]? = some (.cells pc 53 (0,0))
 hF:W.heap[F]? = some (.cells #[frv] 27 (0,0))
 hS:W.heap[S]? = some (.cells sc tSr (0,0))
section
variable {w W W':World} {P F S b i:Nat} {pc sc:Array Value} {frv u:Value} {o:Obj}
theorem blk_call (h:W.heap[b]? = some o) (hb:Below W.heap.size W W'):W'.heap[b]? = some o:=(hb.block b (Array.getElem?_eq_some_iff.1 h).1).trans h
theorem blk_lt (h:W.heap[b]? = some o):b<W.heap.size:=(Array.getElem?_eq_some_iff.1 h).1
theorem blk_set {g:Nat} (h:W.heap[b]? = some o) (hne:b≠g):(W.setCell ⟨g,i,none⟩ u).heap[b]? = some o:=(heap_setCell_other _ _ _ _ hne).trans h
theorem NB.call (h:NB w P F S pc frv sc W) (hb:Below W.heap.size W W'):NB w P F S pc frv sc W':=⟨h.below.trans (hb.mono h.below.size),blk_call h.hP hb,blk_call h.hF hb,blk_call h.hS hb⟩
theorem NB.alloc (h:NB w P F S pc frv sc W) (o:Obj):NB w P F S pc frv sc (W.alloc o):=h.call ((Below.refl _ _).alloc (Nat.le_refl _) _)
theorem NB.drew (h:NB w P F S pc frv sc W):NB w P F S pc frv sc W.drew:=⟨⟨h.below.os,h.below.tape,h.below.output,h.below.size,h.below.block⟩,h.hP,h.hF,h.hS⟩
theorem NB.set {g:Nat} {cs:Array Value} {t:TypeId} (h:NB w P F S pc frv sc W) (hg:W.heap[g]? = some (.cells cs t (0,0))) (hw:w.heap.size≤g) (h1:P≠g) (h2:F≠g) (h3:S≠g):NB w P F S pc frv sc (W.setCell ⟨g,i,none⟩ u) :=
 ⟨below_setCell h.below hw hg _,blk_set h.hP h1,blk_set h.hF h2,blk_set h.hS h3⟩
theorem NB.setS (h:NB w P F S pc frv sc W) (hw:w.heap.size≤S) (h1:P≠S) (h2:F≠S) (i:Nat) (u:Value):NB w P F S pc frv (sc.setIfInBounds i u) (W.setCell ⟨S,i,none⟩ u) :=
 ⟨below_setCell h.below hw h.hS _,blk_set h.hP h1,blk_set h.hF h2,heap_setCell_same _ _ _ _ _ _ h.hS⟩
theorem NB.cP (h:NB w P F S pc frv sc W) (i:Nat):W.cell? ⟨P,i,none⟩=pc[i]?:=Lib.cell_of_heap h.hP i
theorem NB.cF (h:NB w P F S pc frv sc W):W.cell? ⟨F,0,none⟩=some frv:=(Lib.cell_of_heap h.hF 0).trans rfl
theorem NB.cS (h:NB w P F S pc frv sc W) (i:Nat):W.cell? ⟨S,i,none⟩=sc[i]?:=Lib.cell_of_heap h.hS i
theorem NB.fS (h:NB w P F S pc frv sc W) (i:Nat):W.frozen? ⟨S,i,none⟩=false:=frozen_of_row _ _ _ _ _ h.hS
end
def NCut (w:World) (pv pr pf fr:Value) (R:List RowP) (t:Value) (wx:World):Prop :=
 ∃S wd,t=.pointer (some ⟨S,0,none⟩)∧w.heap.size≤S∧Below w.heap.size w wx∧wx.heap[S]? = some (.cells (nsC pv pr pf fr wd (.slice none 0 0) 0 (.slice none 0 0) (.slice none 0 0) (.slice none 0 0) (.slice none 0 0)) tSr (0,0))∧WideOK R wd
def x0K (f:List Int) (k:Nat):List Int:=(f.take k).map (fun a=>max a 0) ++ List.replicate (f.length-k) 0
theorem x0K_len (f:List Int) {k:Nat} (hk:k≤f.length):(x0K f k).length=f.length:=by
 unfold x0K;simp;omega
theorem x0K_set {f:List Int} {k:Nat} (hk:k<f.length):(x0K f k).set k (max f[k] 0)=x0K f (k+1):=by
 unfold x0K
 rw [List.set_append_right _ _ (by simp;omega),List.length_map,List.length_take,Nat.min_eq_left (Nat.le_of_lt hk),Nat.sub_self,show f.length-k=(f.length-(k+1))+1 by omega,List.replicate_succ,List.set_cons_zero,List.take_succ_eq_append_getElem hk,List.map_append,List.append_assoc]
 rfl
theorem x0K_0 (f:List Int):x0K f 0=List.replicate f.length 0:=by unfold x0K;simp
theorem x0K_end (f:List Int):x0K f f.length=x0 f:=by unfold x0K x0;simp
theorem ints_made (n:Nat):madeCells #[Value.int .i64 0] n=ints (List.replicate n 0):=by
 unfold ints
 rw [List.map_replicate,←toList_madeCells_one]
theorem SlI.of_heap {W:World} {X:Nat} {l:List Int} (h:W.heap[X]? = some (.cells (ints l) 3 (0,0))) {n:Nat} (hn:l.length=n):SlI W (fun b=>b=X) (.slice (some ⟨X,0,none⟩) n n) l:=by
 subst hn
 refine ⟨_,_,rfl,Nat.le_refl _,fun i hi=>⟨X,0,rfl,rfl,?_⟩⟩
 rw [Lib.cell_of_heap h]
 simp [ints,hi]
def smK (R:List RowP) (x:List Int) (k:Nat):List Int:=(R.take k).map (fun r=>dotE r.1 x) ++ List.replicate (R.length-k) 0
theorem smK_len (R:List RowP) (x:List Int) {k:Nat} (hk:k≤R.length):(smK R x k).length=R.length:=by
 unfold smK;simp;omega
theorem smK_set {R:List RowP} {x:List Int} {k:Nat} (hk:k<R.length):(smK R x k).set k (dotE R[k].1 x)=smK R x (k+1):=by
 unfold smK
 rw [List.set_append_right _ _ (by simp;omega),List.length_map,List.length_take,Nat.min_eq_left (Nat.le_of_lt hk),Nat.sub_self,show R.length-k=(R.length-(k+1))+1 by omega,List.replicate_succ,List.set_cons_zero,List.take_succ_eq_append_getElem hk,List.map_append,List.append_assoc]
 rfl
theorem smK_0 (R:List RowP) (x:List Int):smK R x 0=List.replicate R.length 0:=by unfold smK;simp
theorem smK_end (R:List RowP) (x:List Int):smK R x R.length=R.map fun r=>dotE r.1 x:=by unfold smK;simp
def Outer (W:World) (LO base:Nat) (fl:List Nat) (m j:Nat) (T:Nat→List Int):Prop :=
 ∃L:List Value,W.heap[LO]? = some (.cells L.toArray 27 (0,0))∧L.length=fl.length+1∧∀d,j≤d→d≤fl.length→∃b,L[d]? = some (.slice (some ⟨b,0,none⟩) m m)∧base<b∧W.heap[b]? = some (.cells (ints (T d)) 3 (0,0))
theorem Outer.keep {W W':World} {LO base m j:Nat} {fl:List Nat} {T:Nat→List Int} (h:Outer W LO base fl m j T) (hk:∀q,q<W.heap.size→(q=LO∨base<q)→W'.heap[q]? = W.heap[q]?):Outer W' LO base fl m j T:=by
 obtain ⟨L,h1,h2,h3⟩:=h
 refine ⟨L,(hk LO (blk_lt h1) (.inl rfl)).trans h1,h2,fun d hd1 hd2=>?_⟩
 obtain ⟨b,b1,b2,b3⟩:=h3 d hd1 hd2
 exact ⟨b,b1,b2,(hk b (blk_lt b3) (.inr b2)).trans b3⟩
theorem Outer.cell {W:World} {LO base m j:Nat} {fl:List Nat} {T:Nat→List Int} (h:Outer W LO base fl m j T) {d:Nat} (h1:j≤d) (h2:d≤fl.length):∃b,W.cell? ⟨LO,d,none⟩=some (.slice (some ⟨b,0,none⟩) m m)∧base<b∧W.heap[b]? = some (.cells (ints (T d)) 3 (0,0)):=by
 obtain ⟨L,g1,_,g3⟩:=h
 obtain ⟨b,b1,b2,b3⟩:=g3 d h1 h2
 exact ⟨b,by rw [Lib.cell_of_heap g1];simpa using b1,b2,b3⟩
structure Ex1 (g:Nat) (W W':World):Prop where
 os:W'.os=W.os
 tape:W'.tape=W.tape
 output:W'.output=W.output
 size:W.heap.size≤W'.heap.size
 block:∀q,q<W.heap.size→q≠g→W'.heap[q]? = W.heap[q]?
theorem blk_ex1 {g b:Nat} {W W':World} {o:Obj} (h:W.heap[b]? = some o) (he:Ex1 g W W') (hne:b≠g):W'.heap[b]? = some o:=(he.block b (blk_lt h) hne).trans h
theorem NB.ex1 {w W W':World} {P F S g:Nat} {pc sc:Array Value} {frv:Value} (h:NB w P F S pc frv sc W) (he:Ex1 g W W') (hw:w.heap.size≤g) (h1:P≠g) (h2:F≠g) (h3:S≠g):NB w P F S pc frv sc W' :=
 ⟨⟨he.os.trans h.below.os,he.tape.trans h.below.tape,he.output.trans h.below.output,Nat.le_trans h.below.size he.size,fun q hq=>(he.block q (Nat.lt_of_lt_of_le hq h.below.size) (by omega)).trans (h.below.block q hq)⟩,blk_ex1 h.hP he h1,blk_ex1 h.hF he h2,blk_ex1 h.hS he h3⟩
def QCut (W:World) (g d m:Nat) (L:List Value) (wx:World):Prop :=
 ∃B,W.heap.size≤B∧Ex1 g W wx∧wx.heap[g]? = some (.cells (L.set d (.slice (some ⟨B,0,none⟩) m m)).toArray 27 (0,0))∧wx.heap[B]? = some (.cells (ints (List.replicate m 0)) 3 (0,0))
theorem qcut_mk {W wx:World} {g d m:Nat} {L:List Value} (hg:W.heap[g]? = some (.cells L.toArray 27 (0,0))) (hx:wx.heap=((W.setCell ⟨g,d,none⟩ (.slice (some ⟨W.heap.size,0,none⟩) m m)).alloc (.cells (madeCells #[.int .i64 0] m) 3)).heap) (h1:wx.os=W.os) (h2:wx.tape=W.tape) (h3:wx.output=W.output):QCut W g d m L wx:=by
 have hs:(W.setCell ⟨g,d,none⟩ (.slice (some ⟨W.heap.size,0,none⟩) m m)).heap.size=W.heap.size:=by simp
 have hgs:=blk_lt hg
 refine ⟨W.heap.size,Nat.le_refl _,⟨h1,h2,h3,by rw [hx];simp,fun q hq hne=>?_⟩,?_,?_⟩
 ·rw [hx]
  exact (alloc_ne (by rw [hs];omega)).trans (heap_setCell_other _ _ _ _ hne)
 ·rw [hx]
  refine (alloc_ne (by rw [hs];omega)).trans ((heap_setCell_same _ _ _ _ _ _ hg).trans ?_)
  simp
 ·rw [hx,←ints_made]
  exact at_new hs.symm
structure Ex2 (g h:Nat) (W W':World):Prop where
 os:W'.os=W.os
 tape:W'.tape=W.tape
 output:W'.output=W.output
 size:W.heap.size≤W'.heap.size
 block:∀q,q<W.heap.size→q≠g→q≠h→W'.heap[q]? = W.heap[q]?
theorem Ex2.refl (g h:Nat) (W:World):Ex2 g h W W:=⟨rfl,rfl,rfl,Nat.le_refl _,fun _ _ _ _=>rfl⟩
theorem Ex2.call {g h:Nat} {W W' W2:World} (he:Ex2 g h W W') (hb:RowKit.Below W'.heap.size W' W2):Ex2 g h W W2:=⟨hb.os.trans he.os,hb.tape.trans he.tape,hb.output.trans he.output,Nat.le_trans he.size hb.size,fun q hq h1 h2=>(hb.block q (Nat.lt_of_lt_of_le hq he.size)).trans (he.block q hq h1 h2)⟩
theorem Ex2.set {g h b i:Nat} {u:Value} {W W':World} (he:Ex2 g h W W') (hb:b=g∨b=h):Ex2 g h W (W'.setCell ⟨b,i,none⟩ u).drew:=by
 refine ⟨Eq.trans ?_ he.os,Eq.trans ?_ he.tape,Eq.trans ?_ he.output,by simpa using he.size,fun q hq h1 h2=>(heap_setCell_other _ _ _ _ (by rcases hb with rfl|rfl <;> assumption)).trans (he.block q hq h1 h2)⟩ <;> (unfold World.setCell;simp <;> rfl)
theorem blk_ex2 {g h b:Nat} {W W':World} {o:Obj} (hb:W.heap[b]? = some o) (he:Ex2 g h W W') (h1:b≠g) (h2:b≠h):W'.heap[b]? = some o:=(he.block b (blk_lt hb) h1 h2).trans hb
theorem NB.ex2 {w W W':World} {P F S g h:Nat} {pc sc:Array Value} {frv:Value} (hn:NB w P F S pc frv sc W) (he:Ex2 g h W W') (hw:w.heap.size≤g) (hw2:w.heap.size≤h) (h1:P≠g) (h2:F≠g) (h3:S≠g) (h4:P≠h) (h5:F≠h) (h6:S≠h):NB w P F S pc frv sc W' :=
 ⟨⟨he.os.trans hn.below.os,he.tape.trans hn.below.tape,he.output.trans hn.below.output,Nat.le_trans hn.below.size he.size,fun q hq=>(he.block q (Nat.lt_of_lt_of_le hq hn.below.size) (by omega) (by omega)).trans (hn.below.block q hq)⟩,blk_ex2 hn.hP he h1 h4,blk_ex2 hn.hF he h2 h5,blk_ex2 hn.hS he h3 h6⟩
theorem Outer.step {W:World} {LO base m d B:Nat} {fl:List Nat} {T:Nat→List Int} {L:List Value} (hg:W.heap[LO]? = some (.cells (L.set d (.slice (some ⟨B,0,none⟩) m m)).toArray 27 (0,0))) (hl:L.length=fl.length+1) (hd:d≤fl.length)
  (hold:∀d',d+1≤d'→d'≤fl.length→∃b,L[d']? = some (.slice (some ⟨b,0,none⟩) m m)∧base<b∧W.heap[b]? = some (.cells (ints (T d')) 3 (0,0))) (hB:base<B) (hBB:W.heap[B]? = some (.cells (ints (T d)) 3 (0,0))):Outer W LO base fl m d T:=by
 refine ⟨_,hg,by rw [List.length_set];exact hl,fun d' h1 h2=>?_⟩
 by_cases e:d'=d
 ·subst e
  exact ⟨B,List.getElem?_set_self (by omega),hB,hBB⟩
 ·obtain ⟨b,b1,b2,b3⟩:=hold d' (by omega) h2
  exact ⟨b,by rw [List.getElem?_set_ne (by omega)];exact b1,b2,b3⟩
def rwK (R:List RowP) (F:RowP→Int) (k:Nat):List Int:=(R.take k).map F ++ List.replicate (R.length-k) 0
theorem rwK_len (R:List RowP) (F:RowP→Int) {k:Nat} (hk:k≤R.length):(rwK R F k).length=R.length:=by
 unfold rwK;simp;omega
theorem rwK_set {R:List RowP} {F:RowP→Int} {k:Nat} (hk:k<R.length):(rwK R F k).set k (F R[k])=rwK R F (k+1):=by
 unfold rwK
 rw [List.set_append_right _ _ (by simp;omega),List.length_map,List.length_take,Nat.min_eq_left (Nat.le_of_lt hk),Nat.sub_self,show R.length-k=(R.length-(k+1))+1 by omega,List.replicate_succ,List.set_cons_zero,List.take_succ_eq_append_getElem hk,List.map_append,List.append_assoc]
 rfl
theorem rwK_0 (R:List RowP) (F:RowP→Int):rwK R F 0=List.replicate R.length 0:=by unfold rwK;simp
theorem rwK_end (R:List RowP) (F:RowP→Int):rwK R F R.length=R.map F:=by unfold rwK;simp
theorem made_slices (n:Nat):madeCells #[Value.slice none 0 0] n=(List.replicate n (Value.slice none 0 0)).toArray:=by
 apply Array.toList_inj.1
 rw [toList_madeCells_one]
section
variable {w W W':World} {P F S B:Nat} {pc sc:Array Value} {frv:Value}
theorem NB.upTo (h:NB w P F S pc frv sc W) (hb:Below B W W') (hw:w.heap.size≤B) (h1:P<B) (h2:F<B) (h3:S<B):NB w P F S pc frv sc W' :=
 ⟨⟨hb.os.trans h.below.os,hb.tape.trans h.below.tape,hb.output.trans h.below.output,Nat.le_trans h.below.size hb.size,fun q hq=>(hb.block q (by omega)).trans (h.below.block q hq)⟩,(hb.block _ h1).trans h.hP,(hb.block _ h2).trans h.hF,(hb.block _ h3).trans h.hS⟩
theorem Ex1.refl (g:Nat) (W:World):Ex1 g W W:=⟨rfl,rfl,rfl,Nat.le_refl _,fun _ _ _=>rfl⟩
theorem Ex1.upTo {g:Nat} {W2:World} (he:Ex1 g W W') (hb:Below W.heap.size W' W2):Ex1 g W W2:=⟨hb.os.trans he.os,hb.tape.trans he.tape,hb.output.trans he.output,Nat.le_trans he.size hb.size,fun q hq h1=>(hb.block q hq).trans (he.block q hq h1)⟩
theorem Ex1.set {g i:Nat} {u:Value} (he:Ex1 g W W'):Ex1 g W (W'.setCell ⟨g,i,none⟩ u):=by
 refine ⟨Eq.trans ?_ he.os,Eq.trans ?_ he.tape,Eq.trans ?_ he.output,by simpa using he.size,fun q hq h1=>(heap_setCell_other _ _ _ _ h1).trans (he.block q hq h1)⟩ <;> (unfold World.setCell;simp <;> rfl)
end
def ordK (v:List Int) (fl:List Nat) (k:Nat):List Nat:=(List.range k).filter fun e=>decide (0<at0 v (fl.getD e 0))
theorem ordK_succ (v:List Int) (fl:List Nat) (k:Nat):ordK v fl (k+1)=ordK v fl k ++ if 0<at0 v (fl.getD k 0) then [k] else []:=by
 unfold ordK
 rw [List.range_succ,List.filter_append,List.filter_cons,List.filter_nil]
 by_cases h:0<at0 v (fl.getD k 0)
 ·rw [if_pos h,if_pos (decide_eq_true h)]
 ·rw [if_neg h,if_neg (by simpa only [decide_eq_true_eq]using h)]
theorem ordK_len (v:List Int) (fl:List Nat) (k:Nat):(ordK v fl k).length≤k:=by
 unfold ordK
 exact Nat.le_trans (List.length_filter_le _ _) (by simp)
theorem ordK_lt {v:List Int} {fl:List Nat} {k e:Nat} (h:e∈ordK v fl k):e<k:=by
 unfold ordK at h
 exact List.mem_range.1 (List.mem_filter.1 h).1
theorem Outer.sl {W:World} {LO base m:Nat} {fl:List Nat} {T:Nat→List Int} {ex:Nat→Prop} (h:Outer W LO base fl m 0 T) (h1:ex LO) (h2:∀b,base<b→ex b) (hT:∀d,(T d).length=m):SlL W ex (.slice (some ⟨LO,0,none⟩) (fl.length+1) (fl.length+1)) ((List.range (fl.length+1)).map T):=by
 refine ⟨some ⟨LO,0,none⟩,fl.length+1,by simp,fun i hi=>?_⟩
 have hi':i≤fl.length:=by simp at hi;omega
 obtain ⟨b,c1,c2,c3⟩:=h.cell (Nat.zero_le _) hi'
 refine ⟨LO,0,_,rfl,h1,by rw [Nat.zero_add];exact c1,?_⟩
 have e:((List.range (fl.length+1)).map T)[i]'hi=T i:=by simp
 rw [e]
 refine ⟨some ⟨b,0,none⟩,m,by rw [hT],by rw [hT];exact Nat.le_refl _,fun j hj=>⟨b,0,rfl,h2 b c2,?_⟩⟩
 rw [Lib.cell_of_heap c3]
 simp [ints,hj]
theorem ord_sort {W:World} {B P F:Nat} {v:List Int} {fl L:List Nat} {pv fr ov:Value} (hL:∀e∈L,e<fl.length) (hLl:L.length<20) (hown:W.ownsRow B 3 1 ov L.length ((natL L).map (Value.int .i64))) (hv:SlI W (fun b=>b<B) pv v) (hf:SlI W (fun b=>b<B) fr (natL fl)) (hP:W.cell? ⟨P,0,none⟩=some pv) (hF:W.cell? ⟨F,0,none⟩=some fr) (hPB:P<B) (hFB:F<B) (hr:Rng v) (h24:v.length≤24) (hl24:fl.length≤24) (hlt:∀i∈fl,i<v.length) :
  Calls Tryz.prog 109 #[ov,.func (.func 138) #[] #[.pointer (some ⟨P,0,none⟩),.pointer (some ⟨F,0,none⟩)]] W fun e w'=>e=.returned (.tuple #[])∧Below B W w'∧∃l',l'.Perm L∧l'.Pairwise (fun a b=>at0 v (fl.getD b 0)≤at0 v (fl.getD a 0))∧SlI w' (fun b=>B≤b) ov (natL l'):=by
 by_cases h0:L=[]
 ·subst h0
  have hsl:∃p c,ov=.slice p 0 c:=by
   rcases hown.2 with ⟨rfl,_⟩|⟨g,cap,cur,rfl,_⟩
   ·exact ⟨none,0,rfl⟩
   ·exact ⟨_,cap,rfl⟩
  obtain ⟨p,c,rfl⟩:=hsl
  refine (stable_none p c _ W).mono ?_
  rintro e w' ⟨rfl,rfl⟩
  exact ⟨rfl,Below.refl _ _,[],List.Perm.refl _,.nil,SlI.nil _ _⟩
 ·have hpos:0<L.length:=List.length_pos_iff.2 h0
  obtain ⟨e0,he0⟩:∃e0,e0∈L:=List.exists_mem_of_length_pos hpos
  have hfp:=hL _ he0
  obtain ⟨m,hm⟩:∃m,fl.length=m+1:=⟨fl.length-1,by omega⟩
  obtain ⟨g,cap,rfl,hgB⟩:∃g cap,ov=.slice (some ⟨g,0,none⟩) L.length cap∧B≤g:=by
   rcases hown.2 with ⟨rfl,h1⟩|⟨g,cap,cur,rfl,a2,_⟩
   ·omega
   ·exact ⟨g,cap,rfl,a2⟩
  have eg:∀args w,(callFunc 138 args).run Tryz.prog w=.ok (.enter 138 args) w:=enters_of Tryz.func138 (by kernel_rfl) rfl
  refine (stable_w (m:=m) (fun e=>at0 v (fl.getD e 0)) L (fun i hi=>by have:=hL i hi;omega) hLl hown eg (fun W' hs hk i j hi hj=>?_)).mono ?_
  ·have keep:∀b,b<B→b<W.heap.size→W'.heap[b]? = W.heap[b]?∧b<B:=fun b h1 h2=>⟨hk b h2 (by omega),h1⟩
   have c1:=cell_same (w':=W') hP fun hb=>hk _ hb (by omega)
   have c2:=cell_same (w':=W') hF fun hb=>hk _ hb (by omega)
   exact newS1_w (hv.keep keep) (hf.keep keep) c1 c2 hr h24 hl24 hlt i j (by omega) (by omega)
  ·rintro e w' ⟨rfl,hg,l',p1,p2,p3⟩
   refine ⟨rfl,(Below.refl B W).grown hg ?_ ?_,l',p1,p2,?_⟩
   ·exact Nat.le_trans hgB (Nat.le_of_lt (own_zone hown rfl).2)
   ·intro q hq
    cases hq
    exact hgB
   ·have e1:L.length=(natL l').length:=by rw [natL_len];exact p1.length_eq.symm
    exact SlI.of_own p3 e1
theorem ordK_mem {v:List Int} {fl:List Nat} {e:Nat}:e∈ordK v fl fl.length ↔ e<fl.length∧0<at0 v (fl.getD e 0):=by
 unfold ordK
 rw [List.mem_filter,List.mem_range,decide_eq_true_eq]
theorem ns_fin {w W:World} {P S X M LO HI B:Nat} {pv pr pf fr ov:Value} {v x:List Int} {R:List RowP} {fl ord:List Nat} {wd val:Int}
  (nb:NB w P (P+1) S #[pv,pr,pf] fr (nsC pv pr pf fr wd (.slice (some ⟨X,0,none⟩) v.length v.length) val (.slice (some ⟨M,0,none⟩) R.length R.length) (.slice (some ⟨LO,0,none⟩) (fl.length+1) (fl.length+1)) (.slice (some ⟨HI,0,none⟩) (fl.length+1) (fl.length+1)) ov) W)
  (hX:W.heap[X]? = some (.cells (ints x) 3 (0,0))) (hM:W.heap[M]? = some (.cells (ints (R.map fun r=>dotE r.1 x)) 3 (0,0)))
  (oL:Outer W LO HI fl R.length 0 (fun d=>R.map fun r=>lowE r.1 (fl.drop d))) (oH:Outer W HI HI fl R.length 0 (fun d=>R.map fun r=>highE r.1 (fl.drop d)))
  (hpv:SlI w (fun b=>b<w.heap.size) pv v) (hpr:SlR w (fun b=>b<w.heap.size) pr R) (hfr:SlI w (fun b=>b<w.heap.size) fr (natL fl)) (ho:SlI W (fun b=>B≤b) ov (natL ord)) (hHB:HI<B)
  (hwP:w.heap.size≤P) (h1:P+1<S) (h2:S<X) (h3:X<M) (h4:M<LO) (h5:LO<HI) (hxl:x.length=v.length) (hR:ROK R v.length) (hr:Rng v) (n20:v.length<20) (hfn:fl.Nodup) (hflt:∀i∈fl,i<v.length)
  (p1:ord.Perm (ordK v fl fl.length)) (p2:ord.Pairwise fun a b=>at0 v (fl.getD b 0)≤at0 v (fl.getD a 0)) (hwd:WideOK R wd) :
  ∃(K:Srx) (s:Srch) (bv:Value),Ending.returned (Value.pointer (some ⟨S,0,none⟩))=.returned (.pointer (some ⟨K.S,0,none⟩))∧SAt K s w x val (sumsL s x) ⟨0,[],0,false⟩ bv W∧s.v=v∧s.R=R∧s.free=fl∧s.one=false∧s.once=false∧SOK s v.length:=by
 have keep:∀b,b<w.heap.size→b<w.heap.size→W.heap[b]? = w.heap[b]?∧(b≠S∧b≠X∧b≠M):=fun b h _=>⟨nb.below.block b h,by omega⟩
 have mk:∀(uw:Bool) (cw:List Int) (mx:Int),((wd = -1∧uw=false)∨∃(k:Nat) (hk:k<R.length) (lo:Int),wd=k∧uw=true∧R[k]'hk=(cw,lo,mx))→(uw=true→(∃lo,(cw,lo,mx)∈R)∧∀i,at0 cw i=0∨at0 cw i=1)→∃(K:Srx) (s:Srch) (bv:Value),Ending.returned (Value.pointer (some ⟨S,0,none⟩))=.returned (.pointer (some ⟨K.S,0,none⟩))∧SAt K s w x val (sumsL s x) ⟨0,[],0,false⟩ bv W∧s.v=v∧s.R=R∧s.free=fl∧s.one=false∧s.once=false∧SOK s v.length:=by
  intro uw cw mx hw hwide
  have hS:=nb.hS
  rw [←hxl]at hS
  refine ⟨⟨S,X,M,pv,pr,pf,fr,.slice (some ⟨LO,0,none⟩) (fl.length+1) (fl.length+1),.slice (some ⟨HI,0,none⟩) (fl.length+1) (fl.length+1),ov,wd⟩,⟨v,R,fl,ord,false,false,uw,cw,mx⟩,.slice none 0 0,rfl,?_,rfl,rfl,rfl,rfl,rfl,?_⟩
  ·exact {
    below:=nb.below
    hS:=hS
    hX:=hX
    hM:=hM
    sl:=by simp [sumsL]
    pv:=hpv.keep keep
    pr:=hpr.keep keep
    fr:=hfr.keep keep
    lo:=oL.sl (show LO≠S∧LO≠X∧LO≠M by omega) (fun b hb=>(show b≠S∧b≠X∧b≠M by omega)) (fun d=>by simp)
    hi:=oH.sl (show HI≠S∧HI≠X∧HI≠M by omega) (fun b hb=>(show b≠S∧b≠X∧b≠M by omega)) (fun d=>by simp)
    od:=ho.keep fun b hb _=>⟨rfl,(show b≠S∧b≠X∧b≠M by omega)⟩
    bst:=SlI.nil _ _
    xl:=hxl
    n1:=(show S≠X by omega)
    n2:=(show S≠M by omega)
    n3:=(show X≠M by omega)
    z1:=(show w.heap.size≤S by omega)
    z2:=(show w.heap.size≤X by omega)
    z3:=(show w.heap.size≤M by omega)
    wd:=hw }
  ·exact {
    n24:=by omega
    vl:=rfl
    vr:=hr
    rl:=fun r h=>hR.len r h
    fn:=hfn
    fl:=hflt
    on:=p1.nodup_iff.2 (List.Pairwise.filter _ List.nodup_range)
    om:=fun e he=>by
     have:=ordK_mem.1 (p1.mem_iff.1 he)
     exact ⟨this.1,Int.le_of_lt this.2⟩
    op:=p2
    oc:=fun e he hn=>by
     have:¬0<at0 v (fl.getD e 0):=fun h=>hn (p1.mem_iff.2 (ordK_mem.2 ⟨he,h⟩))
     exact Int.not_lt.1 this
    wide:=hwide }
 rcases hwd with hwd|⟨k,hk,hwk,h01⟩
 ·exact mk false [] 0 (.inl ⟨hwd,rfl⟩) (fun h=>by cases h)
 ·exact mk true R[k].1 R[k].2.2 (.inr ⟨k,hk,R[k].2.1,hwk,rfl,rfl⟩) (fun _=>⟨⟨R[k].2.1,List.getElem_mem hk⟩,h01⟩)
theorem st2 {w w2 W:World} {P F S g h b i:Nat} {pc sc cs:Array Value} {frv u:Value} {t:TypeId} (nb:NB w P F S pc frv sc W) (he:Ex2 g h w2 W) (hb:W.heap[b]? = some (.cells cs t (0,0))) (hor:b=g∨b=h) (hw:w.heap.size≤b) (h1:P≠b) (h2:F≠b) (h3:S≠b):NB w P F S pc frv sc (W.setCell ⟨b,i,none⟩ u).drew∧Ex2 g h w2 (W.setCell ⟨b,i,none⟩ u).drew∧(W.setCell ⟨b,i,none⟩ u).drew.heap[b]? = some (.cells (cs.setIfInBounds i u) t (0,0))∧∀q (o:Obj),W.heap[q]? = some o→q≠b→(W.setCell ⟨b,i,none⟩ u).drew.heap[q]? = some o :=
 ⟨(nb.set hb hw h1 h2 h3).drew,he.set hor,heap_setCell_same _ _ _ _ _ _ hb,fun _ _ hq hne=>blk_set hq hne⟩
theorem visit_s {K:Srx} {s:Srch} {n:Nat} {w0:World} (hs:SOK s n) (hR:ROK s.R n) (k:Nat) (ih:k≤s.free.length→∀(w:World) (x:List Int) (st:St) (bv:Value),SAt K s w0 x (dotE s.v x) (sumsL s x) st bv w→x.length=n→Zer (s.free.drop (s.free.length-k)) x→Bin x→Calls Tryz.prog 112 #[.pointer (some ⟨K.S,0,none⟩),.int .i64 ((s.free.length-k:Nat):Int)] w fun e w'=>e=.returned (.tuple #[])∧∃bv',SAt K s w0 x (dotE s.v x) (sumsL s x) (s.visE k x st) bv' w'):k+1≤s.free.length→∀(w:World) (x:List Int) (st:St) (bv:Value),SAt K s w0 x (dotE s.v x) (sumsL s x) st bv w→x.length=n→Zer (s.free.drop (s.free.length-(k+1))) x→Bin x →
  Calls Tryz.prog 112 #[.pointer (some ⟨K.S,0,none⟩),.int .i64 ((s.free.length-(k+1):Nat):Int)] w fun e w'=>e=.returned (.tuple #[])∧∃bv',SAt K s w0 x (dotE s.v x) (sumsL s x) (s.visE (k+1) x st) bv' w':=by
 intro hk w x st bv h hx hz hb
 subst hx
 obtain ⟨R0,hR0⟩:∃R0,R0=s.visE (k+1) x st:=⟨_,rfl⟩
 rw [←hR0]
 have HR0:=Lib.hid hR0
 clear hR0
 obtain ⟨d,hd⟩:∃d,d=s.free.length-(k+1):=⟨_,rfl⟩
 rw [←hd]at hz ⊢
 have hdl:d≤s.free.length:=by omega
 have HDD:=Lib.hid hd
 clear hd
 obtain ⟨pb,hpb⟩:∃pb,pb=possB s.R x (s.free.drop d):=⟨_,rfl⟩
 obtain ⟨bd,hbd⟩:∃bd,bd=s.bnd d x:=⟨_,rfl⟩
 have hst:s.stop d x st=(!pb || decide (bd<st.least)):=by rw [hpb,hbd];rfl
 have HS:=Lib.hid hst
 have BW:∀p:BelowOf w,Calls Tryz.prog 140 #[.pointer (some ⟨K.S,0,none⟩),.int .i64 d] p.W fun e w'=>e=.returned (.int .i64 bd)∧Below p.W.heap.size p.W w':=fun p=>by
  rw [hbd]
  exact bound_w (h.call p.h) hs hR hb rfl d hdl
 have PW:∀p:BelowOf w,Calls Tryz.prog 139 #[.pointer (some ⟨K.S,0,none⟩),.int .i64 d] p.W fun e w'=>e=.returned (.bool pb)∧Below p.W.heap.size p.W w':=fun p=>by
  rw [hpb]
  exact poss_w (h.call p.h) hs hR hb rfl d hdl
 have c13:∀p:BelowOf w,p.W.cell? ⟨K.S,13,none⟩=some (.int .i64 st.least):=fun p=>(h.call p.h).cell rfl
 have HBW:=Lib.hid BW
 have HPW:=Lib.hid PW
 clear BW PW hst hpb hbd
 go_enter Tryz.func112,Tryz.ntmps112
 go_wp2
 refine wp_region_quiet_below (by kernel_rfl) (by kernel_rfl) ?_
 cases pb with
 | false =>
  repeat (quiet_step ((go_at_call 139;exact Calls.below_of (HPW.out _))))
  refine wpQuiet_nil ?_
  rintro w9 ⟨⟨wq,hq⟩,rfl⟩
  have e0:R0=st:=by rw [HR0.out];exact visE_stop (by rw [←HDD.out,HS.out];rfl)
  subst e0
  have h9:=h.call hq
  go_wp2
  refine bodyPost_ret (results_none rfl _ _ _) rfl ?_
  exact ⟨rfl,_,h9⟩
 | true =>
  repeat (quiet_step (first|(go_at_call 139;exact Calls.below_of (HPW.out _))|(go_at_call 140;exact Calls.below_of (HBW.out _))))
  refine wpQuiet_nil ?_
  rintro w9 ⟨⟨wq,hq⟩,rfl⟩
  have h9:=h.call hq
  clear c13 hq
  by_cases hlt:bd<st.least
  ·
   have e0:R0=st:=by rw [HR0.out];exact visE_stop (by rw [←HDD.out,HS.out,decide_eq_true hlt];rfl)
   subst e0
   go_wp2
   refine bodyPost_ret (results_none rfl _ _ _) rfl ?_
   exact ⟨rfl,_,h9⟩
  ·have hst:s.stop d x st=false:=by rw [HS.out,decide_eq_false hlt];rfl
   have s3:=h9.cell (i:=3) (u:=K.fr) rfl
   obtain ⟨Af,cf,eF,hcf,hfr⟩:=h9.fr
   rw [eF]at s3
   have hfl:=free_len hs
   have hn24:=hs.n24
   clear HS HBW HPW h
   have hd1:s.free.length=d+k+1:=by have:=HDD.out;omega
   have hdlt:d<s.free.length:=by omega
   obtain ⟨bf,of',rfl,_,cF⟩:=hfr d (by rw [natL_len];exact hdlt)
   rw [natL_get hdlt]at cF
   have e1:s.free.getD (s.free.length-(k+1)) 0=s.free[d]:=by rw [←HDD.out];exact getD_get hdlt
   rw [List.drop_eq_getElem_cons hdlt]at hz
   have hii:=hs.fl _ (List.getElem_mem hdlt)
   obtain ⟨i,hi⟩:∃i,i=s.free[d]:=⟨_,rfl⟩
   rw [←hi]at cF hz e1 hii
   rw [HDD.out]at hst
   have hlate:=fun h1 h2=>visE_late (s:=s) (k:=k) (x:=x) (st:=st) hst h1 (by rw [e1];exact h2)
   have hearly:=fun h2=>visE_early (s:=s) (k:=k) (x:=x) (st:=st) hst (by rw [e1];exact h2)
   rw [e1]at hlate hearly
   have h0:=hz.zer i (by simp)
   have hb1:Bin (x.set i 1):=fun j=>by
    rw [at0_set hii]
    split
    ·exact .inr rfl
    ·exact hb j
   have hz1:=hz.set 1
   have hz0:=hz.tail
   have VS:∀(W:World) (x':List Int) (st':St) (bv':Value),SAt K s w0 x' (dotE s.v x') (sumsL s x') st' bv' W→x'.length=x.length→Zer (s.free.drop (d+1)) x'→Bin x'→Calls Tryz.prog 112 #[.pointer (some ⟨K.S,0,none⟩),.int .i64 ((d:Int)+1)] W fun e w'=>e=.returned (.tuple #[])∧∃bv'',SAt K s w0 x' (dotE s.v x') (sumsL s x') (s.visE k x' st') bv'' w':=fun W x' st' bv' h1 h2 h3 h4=>by
    have e2:s.free.length-k=d+1:=by omega
    have:=ih (by omega) W x' st' bv' h1 h2 (by rw [e2];exact h3) h4
    rw [e2]at this
    exact this
   have S1:∀(W:World) (st':St) (bv':Value),SAt K s w0 x (dotE s.v x) (sumsL s x) st' bv' W→Calls Tryz.prog 142 #[.pointer (some ⟨K.S,0,none⟩),.int .i64 i,.int .i64 1] W fun e w'=>e=.returned (.tuple #[])∧SAt K s w0 (x.set i 1) (dotE s.v (x.set i 1)) (sumsL s (x.set i 1)) st' bv' w':=fun W st' bv' h1 =>
    set_w h1 hs hR rfl i hii 1 (.inr rfl) hb fun c hc=>by rw [dot_set1 c x i 1 hii h0 hc];omega
   have hback:(x.set i 1).set i 0=x:=by
    rw [List.set_set]
    exact set_zero hii h0
   have S0:∀(W:World) (st':St) (bv':Value),SAt K s w0 (x.set i 1) (dotE s.v (x.set i 1)) (sumsL s (x.set i 1)) st' bv' W→Calls Tryz.prog 142 #[.pointer (some ⟨K.S,0,none⟩),.int .i64 i,.int .i64 0] W fun e w'=>e=.returned (.tuple #[])∧SAt K s w0 x (dotE s.v x) (sumsL s x) st' bv' w':=fun W st' bv' h1=>by
    have:=set_w h1 hs hR (List.length_set) i hii 0 (.inl rfl) hb1 fun c hc=>by rw [hback,dot_set1 c x i 1 hii h0 hc];omega
    rw [hback]at this
    exact this
   obtain ⟨Av,cv,eV,_,hv⟩:=h9.pv
   obtain ⟨b3,o3,rfl,_,c3⟩:=hv i (by rw [hs.vl];exact hii)
   have s0:=h9.cell (i:=0) (u:=K.pv) rfl
   have s4:=h9.cell (i:=4) (u:=.bool s.one) rfl
   rw [eV]at s0
   have hvl:=hs.vl
   rw [at0_get (show i<s.v.length by omega)]at hlate hearly
   obtain ⟨vi,hvi⟩:∃vi,vi=s.v[i]'(by omega):=⟨_,rfl⟩
   rw [←hvi]at c3 hlate hearly
   have HL:=Lib.hid hlate
   have HE:=Lib.hid hearly
   have HVS:=Lib.hid VS
   have HS1:=Lib.hid S1
   have HS0:=Lib.hid S0
   have g3:(((d:Nat):Int) == (((natL s.free).length:Nat):Int))=false:=by
    rw [natL_len,beq_eq_false_iff_ne]
    omega
   have g4:((d:Nat):Int)<(((natL s.free).length:Nat):Int):=by rw [natL_len];omega
   have g5:(((natL s.free).length:Nat):Int)≤24:=by rw [natL_len];omega
   have g6:((i:Nat):Int)<((s.v.length:Nat):Int):=by omega
   have g7:((s.v.length:Nat):Int)≤24:=by omega
   have gd0:((d:Nat):Int)≤24:=by omega
   clear hlate hearly VS S1 S0 hback e1 hst hi hvi hv hfr eF eV hd1 hz
   have fin:∀st1,R0=st1→∀W bv',SAt K s w0 x (dotE s.v x) (sumsL s x) st1 bv' W→(Ending.returned (.tuple #[])=Ending.returned (.tuple #[])∧∃bv',SAt K s w0 x (dotE s.v x) (sumsL s x) R0 bv' W):=fun st1 e W bv' h=>⟨rfl,bv',by rw [e];exact h⟩
   by_cases hlt2:s.one=false∧vi≤0
   ·have hR1:=HR0.out.trans (HL.out hlt2.1 hlt2.2)
    have FIN:=Lib.hid (fin _ hR1)
    rw [hlt2.1]at s4
    have gv:=hlt2.2
    clear fin hR1 HR0 HL HE
    go_wp2_with (go_at_call 112;refine (HVS.out _ _ _ _ h9 rfl hz0 hb).mono ?_;rintro e w1 ⟨rfl,bv1,h1⟩)
    clear s0 s3 s4 c3 cF h9
    go_wp2_with (go_at_call 142;refine (HS1.out _ _ _ h1).mono ?_;rintro e w2 ⟨rfl,h2⟩)
    clear h1
    go_wp2_with (go_at_call 112;refine (HVS.out _ _ _ _ h2 List.length_set hz1 hb1).mono ?_;rintro e w3 ⟨rfl,bv3,h3⟩)
    clear h2
    go_wp2_with (go_at_call 142;refine (HS0.out _ _ _ h3).mono ?_;rintro e w4 ⟨rfl,h4⟩)
    clear h3
    go_wp2
    go_end0
    exact ⟨rfl,(FIN.out _ _ h4).2⟩
   ·have hor:s.one=true∨¬vi≤0:=by
     cases ho:s.one with
     | true=>exact .inl rfl
     | false=>exact .inr fun h=>hlt2 ⟨ho,h⟩
    have hR1:=HR0.out.trans (HE.out hor)
    have FIN:=Lib.hid (fin _ hR1)
    clear fin hR1 HR0 HL HE hlt2
    have key:∀W,SAt K s w0 x (dotE s.v x) (sumsL s x) st bv W→True:=fun _ _=>trivial
    clear key
    cases ho:s.one with
    | true =>
     rw [ho]at s4
     clear hor
     go_wp2_with (go_at_call 142;refine (HS1.out _ _ _ h9).mono ?_;rintro e w1 ⟨rfl,h1⟩)
     clear s0 s3 s4 c3 cF h9
     go_wp2_with (go_at_call 112;refine (HVS.out _ _ _ _ h1 List.length_set hz1 hb1).mono ?_;rintro e w2 ⟨rfl,bv2,h2⟩)
     clear h1
     go_wp2_with (go_at_call 142;refine (HS0.out _ _ _ h2).mono ?_;rintro e w3 ⟨rfl,h3⟩)
     clear h2
     go_wp2_with (go_at_call 112;refine (HVS.out _ _ _ _ h3 rfl hz0 hb).mono ?_;rintro e w4 ⟨rfl,bv4,h4⟩)
     clear h3
     go_wp2
     go_end0
     exact ⟨rfl,(FIN.out _ _ h4).2⟩
    | false =>
     have gv:¬vi≤0:=hor.resolve_left (by rw [ho];simp)
     rw [ho]at s4
     clear hor
     go_wp2_with (go_at_call 142;refine (HS1.out _ _ _ h9).mono ?_;rintro e w1 ⟨rfl,h1⟩)
     clear s0 s3 s4 c3 cF h9
     go_wp2_with (go_at_call 112;refine (HVS.out _ _ _ _ h1 List.length_set hz1 hb1).mono ?_;rintro e w2 ⟨rfl,bv2,h2⟩)
     clear h1
     go_wp2_with (go_at_call 142;refine (HS0.out _ _ _ h2).mono ?_;rintro e w3 ⟨rfl,h3⟩)
     clear h2
     go_wp2_with (go_at_call 112;refine (HVS.out _ _ _ _ h3 rfl hz0 hb).mono ?_;rintro e w4 ⟨rfl,bv4,h4⟩)
     clear h3
     go_wp2
     go_end0
     exact ⟨rfl,(FIN.out _ _ h4).2⟩
theorem visit_w {K:Srx} {s:Srch} {n:Nat} {w0:World} (hs:SOK s n) (hR:ROK s.R n) (k:Nat):k≤s.free.length→∀(w:World) (x:List Int) (st:St) (bv:Value),SAt K s w0 x (dotE s.v x) (sumsL s x) st bv w→x.length=n→Zer (s.free.drop (s.free.length-k)) x→Bin x →
  Calls Tryz.prog 112 #[.pointer (some ⟨K.S,0,none⟩),.int .i64 ((s.free.length-k:Nat):Int)] w fun e w'=>e=.returned (.tuple #[])∧∃bv',SAt K s w0 x (dotE s.v x) (sumsL s x) (s.visE k x st) bv' w':=by
 induction k with
 | zero=>exact visit_0 hs hR
 | succ k ih=>exact visit_s hs hR k ih
theorem within_w {z lim:Int} (h:-lim≤z∧z≤lim) (hl:0≤lim∧lim≤24000000) (W:World) :
  Calls Tryz.prog 106 #[.int .i64 z,.int .i64 lim] W fun e w'=>e=.returned (.bool true)∧w'=W:=by
 obtain ⟨h1,h2⟩:=h
 obtain ⟨h3,h4⟩:=hl
 have w1:IntKind.i64.wrap (-lim) = -lim:=IntWalk.i64_in _ (by omega)
 have g1:decide (z≥-lim)=true:=decide_eq_true h1
 have g2:decide (z≤lim)=true:=decide_eq_true h2
 go_enter Tryz.func106,Tryz.ntmps106
 go_wp2
 go_ret
 exact ⟨rfl,rfl⟩
theorem far_w {z:Int} (h:-1000000≤z∧z≤1000000) (W:World) :
  Calls Tryz.prog 105 #[.int .i64 z] W fun e w'=>e=.returned (.bool false)∧w'=W:=by
 have H:=Lib.hid (within_w (lim:=1000000) h (by omega) W)
 go_enter Tryz.func105,Tryz.ntmps105
 go_wp2_with (go_at_call 106;refine H.out.mono ?_;rintro e w2 ⟨rfl,rfl⟩)
 go_ret
 exact ⟨rfl,rfl⟩
theorem indexF_w {w:World} {ex:Nat→Prop} {u:Value} {l:List Int} (hu:SlI w ex u l) (hr:Rng l) (h24:l.length≤24) :
  Calls Tryz.prog 134 #[u,.func (.func 105) #[] #[]] w fun e w'=>e=.returned (.int .i64 (-1))∧w'=w:=by
 obtain ⟨A,c,rfl,_,hA⟩:=hu
 have g0:((l.length:Nat):Int)≤24:=by omega
 go_enter Tryz.func134,Tryz.ntmps134
 go_wp2
 go_loopw [5,8] (fun iv jv wl=>∃k:Nat,jv=.int .i64 k∧k≤l.length∧wl=w) (fun _ i _=>l.length-(intOf i).toNat)
 case atStart=>exact ⟨0,rfl,Nat.zero_le _,rfl⟩
 case round =>
  obtain ⟨k,rfl,hk,rfl⟩:=hrel
  by_cases hlt:k<l.length
  ·obtain ⟨b1,o1,rfl,_,c1⟩:=hA k hlt
   have g1:((k:Nat):Int)<((l.length:Nat):Int):=by omega
   have hz:=hr k
   rw [at0_get hlt]at hz
   generalize l[k]=z at *
   have F:=fun W=>far_w hz W
   have HF:=Lib.hid F
   clear F hA
   go_wp2_with (go_at_call 105;refine (HF.out _).mono ?_;rintro e w2 ⟨rfl,rfl⟩)
   refine ⟨⟨k+1,by simp,by omega,trivial⟩,?_⟩
   simp only [intOf]
   omega
  ·obtain rfl:k=l.length:=by omega
   have g1:¬((l.length:Nat):Int)<((l.length:Nat):Int):=by omega
   go_wp2
   go_ret
   exact ⟨rfl,rfl⟩
theorem cont_far {w:World} {ex:Nat→Prop} {u:Value} {l:List Int} (hu:SlI w ex u l) (hr:Rng l) (h24:l.length≤24) :
  Calls Tryz.prog 107 #[u,.func (.func 105) #[] #[]] w fun e w'=>e=.returned (.bool false)∧w'=w:=by
 have H:=Lib.hid (indexF_w hu hr h24)
 obtain ⟨A,c,rfl,_,_⟩:=hu
 go_enter Tryz.func107,Tryz.ntmps107
 go_wp2_with (go_at_call 134;refine H.out.mono ?_;rintro e w2 ⟨rfl,rfl⟩)
 go_ret
 exact ⟨rfl,rfl⟩
theorem zvalid_w {w:World} {ex:Nat→Prop} {pv pr pf:Value} {v f:List Int} {R:List RowP} {n:Nat} (hpv:SlI w ex pv v) (hpr:SlR w ex pr R) (hpf:SlI w ex pf f) (hk:VOK v R f n) :
  Calls Tryz.prog 67 #[.agg #[pv,pr,pf]] w fun e w'=>e=.returned (.int .i64 0)∧Below w.heap.size w w':=by
 obtain ⟨hvl,hfl,h24,hR,hv,hf⟩:=hk
 subst hvl
 have hn60:=hR.n60
 obtain ⟨W1,hW1⟩:∃W1,W1=w.alloc (.cells #[pv,pr,pf] 53):=⟨_,rfl⟩
 have hB1:Below w.heap.size w W1:=by rw [hW1];exact (Below.refl _ _).alloc (Nat.le_refl _) _
 have hP1:W1.heap[w.heap.size]? = some (.cells #[pv,pr,pf] 53 (0,0)):=by rw [hW1];exact heap_alloc_new w _
 have CF:∀W,Below w.heap.size w W→∀(u:Value) (c:List Int),SlI w ex u c→c.length≤24→Rng c→Calls Tryz.prog 107 #[u,.func (.func 105) #[] #[]] W fun e w'=>e=.returned (.bool false)∧w'=W:=fun W hW u c h1 h2 h3 =>
  cont_far (h1.keep (ex':=ex) fun b he hlt=>⟨hW.block b hlt,he⟩) h3 h2
 have HCV:=fun W hW=>CF W hW _ _ hpv h24 hv
 obtain ⟨Av,cv,ev,hcv,hgv⟩:=hpv
 obtain ⟨Ar,cr,er,hgr⟩:=hpr
 obtain ⟨Af,cf,ef,hcf,hgf⟩:=hpf
 subst ev er ef
 obtain ⟨P,hPd⟩:∃P,P=w.heap.size:=⟨_,rfl⟩
 rw [←hPd]at hP1
 have hPw:w.heap.size≤P:=by omega
 have KP:∀W,Below W1.heap.size W1 W→W.cell? ⟨P,0,none⟩=some (.slice Av v.length cv)∧W.cell? ⟨P,1,none⟩=some (.slice Ar R.length cr)∧W.cell? ⟨P,2,none⟩=some (.slice Af f.length cf):=fun W hW=>by
  have hP:=blk_call hP1 hW
  exact ⟨by rw [Lib.cell_of_heap hP];rfl,by rw [Lib.cell_of_heap hP];rfl,by rw [Lib.cell_of_heap hP];rfl⟩
 obtain ⟨p0,p1,p2⟩:=KP W1 (Below.refl _ _)
 have e1:(((f.length:Nat):Int) != ((v.length:Nat):Int))=false:=by rw [hfl];simp
 have g0:((v.length:Nat):Int)≤24:=by omega
 have g3:((f.length:Nat):Int)≤24:=by omega
 have g4:((R.length:Nat):Int)≤60:=by omega
 have HKP:=Lib.hid KP
 have HCF:=Lib.hid CF
 have HC2:=Lib.hid HCV
 have HPD:=Lib.hid hPd
 have HFL:=Lib.hid hfl
 clear KP CF HCV hPd hfl
 go_enter Tryz.func67,Tryz.ntmps67
 go_upto_region 1 with fail
 rw [←hW1,←HPD.out]
 clear hW1
 go_wp2
 go_loopw [30] (fun i wl=>∃k:Nat,i=.int .i64 k∧k≤R.length∧Below W1.heap.size W1 wl) (fun i _=>R.length-(intOf i).toNat)
 case atStart=>exact ⟨0,rfl,Nat.zero_le _,Below.refl _ _⟩
 case round =>
  clear p0 p1 p2
  obtain ⟨k,rfl,hk,hbl⟩:=hrel
  by_cases hlt:k<R.length
  ·
   as_aux_lemma =>
    obtain ⟨b1,o1,_,rfl,_,d0,d1,d2,Ac,cc,rfl,_,hcf2⟩:=hgr k hlt
    have hcl:=hR.len _ (List.getElem_mem hlt)
    have hbw:Below w.heap.size w wr:=hB1.trans (hbl.mono hB1.size)
    have f0:=cell_same (w':=wr) d0 fun hb=>hbw.block _ hb
    have f1:=cell_same (w':=wr) d1 fun hb=>hbw.block _ hb
    have f2:=cell_same (w':=wr) d2 fun hb=>hbw.block _ hb
    obtain ⟨cs,hcs⟩:∃cs,cs=R[k].1:=⟨_,rfl⟩
    obtain ⟨mn,hmn⟩:∃mn,mn=R[k].2.1:=⟨_,rfl⟩
    obtain ⟨mx,hmx⟩:∃mx,mx=R[k].2.2:=⟨_,rfl⟩
    rw [←hcs]at f0 hcl
    rw [←hmn]at f1
    rw [←hmx]at f2
    have g1:((k:Nat):Int)<((R.length:Nat):Int):=by omega
    have g2:(((cs.length:Nat):Int) != ((v.length:Nat):Int))=false:=by rw [hcl];simp
    have c0:=Lib.cell_of_heap (heap_alloc_new wr (.cells #[.slice Ac cs.length cc,.int .i64 mn,.int .i64 mx] 110)) 0
    clear hcs hmn hmx d0 d1 d2 hcf2 hcl hgr hgf hgv
    go_wp2
    refine ⟨⟨k+1,by simp,by omega,hbl.alloc hbl.size _⟩,?_⟩
    simp only [intOf]
    omega
  ·obtain rfl:k=R.length:=by omega
   have g1:¬((R.length:Nat):Int)<((R.length:Nat):Int):=by omega
   obtain ⟨p0,p1,p2⟩:=HKP.out _ hbl
   have hbw:Below w.heap.size w wr:=hB1.trans (hbl.mono hB1.size)
   go_wp2_with (go_at_call 107;refine (HC2.out _ hbw).mono ?_;rintro e w2 ⟨rfl,rfl⟩)
   go_loopw [47] (fun i wl=>∃k:Nat,i=.int .i64 k∧k≤R.length∧Below W1.heap.size W1 wl) (fun i _=>R.length-(intOf i).toNat)
   case atStart=>exact ⟨0,rfl,Nat.zero_le _,hbl⟩
   case round =>
    clear p0 p1 p2 hbw hbl
    obtain ⟨k,rfl,hk,hbl⟩:=hrel
    have hbw:Below w.heap.size w wr:=hB1.trans (hbl.mono hB1.size)
    by_cases hlt:k<R.length
    ·
     as_aux_lemma =>
      obtain ⟨b1,o1,u0,rfl,_,d0,d1,d2,hcs2⟩:=hgr k hlt
      have hm:=List.getElem_mem hlt
      have hcl:=hR.len _ hm
      have hcr:=hR.rng _ hm
      have hlo:=hR.lo _ hm
      have hhi:=hR.hi _ hm
      have hcl24:(R[k]'hlt).1.length≤24:=by omega
      have f0:=cell_same (w':=wr) d0 fun hb=>hbw.block _ hb
      have f1:=cell_same (w':=wr) d1 fun hb=>hbw.block _ hb
      have f2:=cell_same (w':=wr) d2 fun hb=>hbw.block _ hb
      have HC3:=HCF.out _ (hbw.alloc hbw.size (.cells #[u0,.int .i64 R[k].2.1,.int .i64 R[k].2.2] 110)) _ _ hcs2 hcl24 hcr
      obtain ⟨Ac,cc,rfl,_,_⟩:=hcs2
      obtain ⟨cs,hcs⟩:∃cs,cs=R[k].1:=⟨_,rfl⟩
      obtain ⟨mn,hmn⟩:∃mn,mn=R[k].2.1:=⟨_,rfl⟩
      obtain ⟨mx,hmx⟩:∃mx,mx=R[k].2.2:=⟨_,rfl⟩
      rw [←hcs,←hmn,←hmx]at HC3
      rw [←hcs]at f0
      rw [←hmn]at f1 hlo
      rw [←hmx]at f2 hhi
      have W24:=fun W=>within_w (lim:=24000000) hlo (by omega) W
      have W25:=fun W=>within_w (lim:=24000000) hhi (by omega) W
      have HW24:=Lib.hid W24
      have HW25:=Lib.hid W25
      have HC:=Lib.hid HC3
      have g1:((k:Nat):Int)<((R.length:Nat):Int):=by omega
      have hbn:Below W1.heap.size W1 (wr.alloc (.cells #[.slice Ac cs.length cc,.int .i64 mn,.int .i64 mx] 110)):=hbl.alloc hbl.size _
      have hnew:=heap_alloc_new wr (.cells #[.slice Ac cs.length cc,.int .i64 mn,.int .i64 mx] 110)
      obtain ⟨V,hV⟩:∃V,V=wr.heap.size:=⟨_,rfl⟩
      clear hcs hmn hmx d0 d1 d2 hcl hm hcr hgr hgf hgv W24 W25 HC3 hlo hhi hcl24
      go_upto_region 18 with fail
      rw [←hV]at hnew
      obtain ⟨W,hW⟩:∃W,W=wr.alloc (.cells #[.slice Ac cs.length cc,.int .i64 mn,.int .i64 mx] 110):=⟨_,rfl⟩
      rw [←hW]at hnew hbn HC
      rw [←hW,←hV]
      have s0:W.cell? ⟨V,0,none⟩=some (.slice Ac cs.length cc):=by rw [Lib.cell_of_heap hnew];rfl
      have s1:W.cell? ⟨V,1,none⟩=some (.int .i64 mn):=by rw [Lib.cell_of_heap hnew];rfl
      have s2:W.cell? ⟨V,2,none⟩=some (.int .i64 mx):=by rw [Lib.cell_of_heap hnew];rfl
      clear hW hV f0 f1 f2 hnew
      go_wp2_with (first|(go_at_call 107;refine HC.out.mono ?_;rintro e w2 ⟨rfl,rfl⟩)|(go_at_call 106;first|(with_reducible refine (HW24.out _).mono ?_;rintro e w2 ⟨rfl,rfl⟩)|(with_reducible refine (HW25.out _).mono ?_;rintro e w2 ⟨rfl,rfl⟩)))
      refine ⟨⟨k+1,by simp,by omega,hbn⟩,?_⟩
      simp only [intOf]
      omega
    ·obtain rfl:k=R.length:=by omega
     have g1:¬((R.length:Nat):Int)<((R.length:Nat):Int):=by omega
     obtain ⟨p0,p1,p2⟩:=HKP.out _ hbl
     go_wp2
     go_loopw [71] (fun i wl=>∃k:Nat,i=.int .i64 k∧k≤f.length∧Below W1.heap.size W1 wl) (fun i _=>f.length-(intOf i).toNat)
     case atStart=>exact ⟨0,rfl,Nat.zero_le _,hbl⟩
     case round =>
      clear p0 p1 p2 hbw hbl
      obtain ⟨k,rfl,hk,hbl⟩:=hrel
      have hbw:Below w.heap.size w wr:=hB1.trans (hbl.mono hB1.size)
      by_cases hlt:k<f.length
      ·
       as_aux_lemma =>
        obtain ⟨b1,o1,rfl,_,d0⟩:=hgf k hlt
        have f0:=cell_same (w':=wr) d0 fun hb=>hbw.block _ hb
        have hz:=hf k
        rw [at0_get hlt]at hz
        generalize f[k]=z at *
        have g1:((k:Nat):Int)<((f.length:Nat):Int):=by omega
        have g5:¬z < -1:=by omega
        have g6:¬z > 1:=by omega
        clear hz d0 hgr hgf hgv
        go_wp2
        refine ⟨⟨k+1,by simp,by omega,hbl⟩,?_⟩
        simp only [intOf]
        omega
      ·obtain rfl:k=f.length:=by omega
       have g1:¬((f.length:Nat):Int)<((f.length:Nat):Int):=by omega
       go_wp2
       go_ret
       exact ⟨rfl,hB1.trans (hbl.mono hB1.size)⟩
abbrev shRu:SH:=.cons shI (.cons shI (.cons shI (.cons shI (.cons .str .nil))))
abbrev shSp:SH:=.cons shI (.cons (.sl shRu) .nil)
abbrev shPr:SH:=.cons shI (.cons shI .nil)
theorem i64_z {z:Int} (h:IntKind.min .i64≤z∧z≤IntKind.max .i64):in64Z z:=by simpa [IntKind.min,IntKind.max,IntKind.signed,IntKind.bits]using h
def toRu (x:Int × Int × Int × Int × List UInt8):RuleV:=⟨x.1,x.2.1,x.2.2.1,x.2.2.2.1,x.2.2.2.2⟩
theorem specs_den (n:Int) (rs:List (Int × Int × Int × Int × List UInt8)):SH.top shSp (eraL (vtOf shSp) ((n,rs):(vtOf shSp).den))=.agg [i64 n,rulesA (rs.map toRu)]:=by
 have e:(rs.map toRu).map ruleA=rs.map (fun x=>AV.agg [i64 x.1,i64 x.2.1,i64 x.2.2.1,i64 x.2.2.2.1,str x.2.2.2.2]):=by rw [List.map_map];rfl
 unfold rulesA
 rw [e]
 rfl
theorem ac_swap {f:FuncId} {a a' b b':AV} {r:List AV} {v:AV} (h1:a'=a) (h2:b'=b) (h:AC f (a :: b :: r) v):AC f (a' :: b' :: r) v:=by
 rw [h1,h2]
 exact h
end Go.Proofs.YtmekiphpjpblpaaGreat
