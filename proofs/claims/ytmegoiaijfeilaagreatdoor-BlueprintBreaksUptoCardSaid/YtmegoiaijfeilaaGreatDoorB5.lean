import Derived.Test.YtmegoiaijfeilaaGreatDoorB4
/- Texts merged: WjB. -/
set_option linter.unusedSimpArgs false
set_option linter.unusedVariables false
namespace Go.Proofs.YtmegoiaijfeilaaGreatDoor
open Go.RowKit Lim
theorem pick_len0 (pool:List PI):∀(ch:List Int) (acc:List PI),(pickE pool ch acc).2=0→(pickE pool ch acc).1.length=acc.length+ch.length
 | [],acc,_=>rfl
 | c :: l,acc,h=>by
  unfold pickE at h ⊢
  cases hf:pool.find? (idP c)with
  | none=>rw [hf]at h;exact absurd (show (6:Int)=0 from h) (by decide)
  | some y =>
   rw [hf]at h
   dsimp only at h ⊢
   rw [pick_len0 pool l _ h]
   simp
   omega
theorem sel_len0 {pool:List PI} {ch:List Int} (h:(selE pool ch).2=0):(selE pool ch).1.length=ch.length:=by
 unfold selE at h ⊢
 cases hr:risesB ch with
 | false=>rw [hr,if_neg (by simp)]at h;exact absurd (show (23:Int)=0 from h) (by decide)
 | true =>
  rw [hr,if_pos rfl]at h
  rw [if_pos rfl]
  have:=pick_len0 pool ch [] h
  simpa using this
theorem map_same {F G:RuleV→Bool}:∀(rs:List RuleV),(∀r∈rs,F r=G r)→rs.map F=rs.map G
 | [],_=>rfl
 | r :: rs,h=>by rw [List.map_cons,List.map_cons,h r (by simp),map_same rs fun r hr=>h r (by simp [hr])]
set_option maxHeartbeats 4000000 in
theorem bro33_c (n:Int) (rs:List RuleV) (pool:List PI) (l:List (Int × Int)) (ch:List Int) (hl:pool.length≤1048576) (hll:l.length≤1048576) (hcl:ch.length≤1048576):AT 14 [.agg [i64 n,rulesA rs],.sl 9 (pool.map itA),.sl 2 (l.map prA),.sl 1 (ch.map fun z=>i64 z)] (.tup [.sl 1 ((broE n rs pool l ch).1.map fun z=>i64 z),i64 (broE n rs pool l ch).2]):=by
 have G:=given33_c n rs pool l hl
 unfold broE
 by_cases h1:taskE n rs pool l=0
 case neg =>
  have g1:(taskE n rs pool l != 0)=true:=by simpa using h1
  rw [if_pos h1]
  generalize taskE n rs pool l=e at *
  generalize (ch.map fun z=>i64 z)=CL at *
  refine ACalls.of ⟨48,[],[]⟩ (fn:=Tryz.f14) Tryz.func14 rfl rfl rfl (by kernel_rfl) (by kernel_rfl) (Nat.le_of_ble_eq_true rfl) ?_
  simp (maxSteps:=1000000) -implicitDefEqProofs only [go_sem,awp_seq,Nat.reduceBEq,Nat.reduceAdd,Nat.reduceLT]
  refine callA_tt G ?_
  simp (maxSteps:=1000000) -implicitDefEqProofs only [g1,go_sem,awp_seq,Nat.reduceBEq,Nat.reduceLT]
  all_goals rfl
 rw [if_neg (by rw [h1];simp)]
 rw [h1]at G
 obtain ⟨hsp,hp⟩:=task_in h1
 obtain ⟨hid,hit⟩:=pool_ok hp
 have h18:pool.length≤18:=pool_le hp
 have hchk:=spec_dem hsp
 obtain ⟨hs1,_⟩:=spec_ok hsp
 have l400:l.length≤400:=(task_ok h1).2.2
 have S:=sel33_c pool ch hl hcl
 have z0:((0:Int) != 0)=false:=rfl
 by_cases h2:(selE pool ch).2=0
 case neg =>
  have g2:((selE pool ch).2 != 0)=true:=by simpa using h2
  rw [if_pos h2]
  generalize (selE pool ch).2=e at *
  generalize (ch.map fun z=>i64 z)=CL at *
  refine ACalls.of ⟨48,[],[]⟩ (fn:=Tryz.f14) Tryz.func14 rfl rfl rfl (by kernel_rfl) (by kernel_rfl) (Nat.le_of_ble_eq_true rfl) ?_
  simp (maxSteps:=1000000) -implicitDefEqProofs only [go_sem,awp_seq,Nat.reduceBEq,Nat.reduceAdd,Nat.reduceLT]
  refine callA_tt G ?_
  simp (maxSteps:=1000000) -implicitDefEqProofs only [z0,go_sem,awp_seq,Nat.reduceBEq,Nat.reduceLT]
  refine callA_tt S ?_
  simp (maxSteps:=1000000) -implicitDefEqProofs only [g2,go_sem,awp_seq,Nat.reduceBEq,Nat.reduceLT]
  all_goals rfl
 rw [if_neg (by rw [h2];simp)]
 rw [h2]at S
 dsimp only
 have CF:=confl16_c l ch (by omega) hcl
 have key:judgeE ((((selE pool ch).1.length:Nat):Int) != n) (!(conflE l ch).isEmpty) (rs.map fun r=>brkE r (selE pool ch).1)=judgeE (((ch.length:Nat):Int) != n) (!(conflE l ch).isEmpty) (rs.map fun r=>brk33 r (chP ch) pool):=by
  rw [sel_len0 h2,(sel_filter hid h2).1]
  congr 1
  exact map_same rs fun r hr'=>(brk_same h18 hit r (hchk r hr').1).symm
 rw [key]
 have hf:∀i (hi:i<rs.length) (hi2:i<(rs.map fun r=>brk33 r (chP ch) pool).length),AT 39 [ruleA rs[i],.sl 9 (pool.map itA),.sl 1 (ch.map fun z=>i64 z)] (boo (rs.map fun r=>brk33 r (chP ch) pool)[i]):=fun i hi hi2=>by
  rw [List.getElem_map]
  exact brk33_c rs[i] pool ch (hchk _ (List.getElem_mem hi)).1 hl hcl
 generalize conflE l ch=cs at *
 cases hw:(((ch.length:Nat):Int) != n) <;> cases hc:cs.isEmpty
 ·exact bro33_ft (by omega) (List.length_map _) G S CF hc hw hf
 ·exact bro33_ff (by omega) (List.length_map _) G S CF hc hw hf
 ·exact bro33_tt (by omega) (List.length_map _) G S CF hc hw hf
 ·exact bro33_tf (by omega) (List.length_map _) G S CF hc hw hf
set_option maxHeartbeats 4000000 in
theorem exd33_c (n:Int) (rs:List RuleV) (pool:List PI) (l:List (Int × Int)) (ch:List Int) (hl:pool.length≤1048576) (hll:l.length≤1048576) (hcl:ch.length≤1048576):AT 16 [.agg [i64 n,rulesA rs],.sl 9 (pool.map itA),.sl 2 (l.map prA),.sl 1 (ch.map fun z=>i64 z)] (.tup [.sl 1 ((exdE n rs pool l ch).1.map fun z=>i64 z),i64 (exdE n rs pool l ch).2]):=by
 have G:=given33_c n rs pool l hl
 unfold exdE
 by_cases h1:taskE n rs pool l=0
 case neg =>
  have g1:(taskE n rs pool l != 0)=true:=by simpa using h1
  rw [if_pos h1]
  generalize taskE n rs pool l=e at *
  generalize (ch.map fun z=>i64 z)=CL at *
  refine ACalls.of ⟨48,[],[]⟩ (fn:=Tryz.f16) Tryz.func16 rfl rfl rfl (by kernel_rfl) (by kernel_rfl) (Nat.le_of_ble_eq_true rfl) ?_
  simp (maxSteps:=1000000) -implicitDefEqProofs only [go_sem,awp_seq,Nat.reduceBEq,Nat.reduceAdd,Nat.reduceLT]
  refine callA_tt G ?_
  simp (maxSteps:=1000000) -implicitDefEqProofs only [g1,go_sem,awp_seq,Nat.reduceBEq,Nat.reduceLT]
  all_goals rfl
 rw [if_neg (by rw [h1];simp)]
 rw [h1]at G
 obtain ⟨hsp,hp⟩:=task_in h1
 obtain ⟨hid,hit⟩:=pool_ok hp
 have h18:pool.length≤18:=pool_le hp
 have hchk:=spec_dem hsp
 obtain ⟨hs1,_⟩:=spec_ok hsp
 have l400:l.length≤400:=(task_ok h1).2.2
 have S:=sel33_c pool ch hl hcl
 have z0:((0:Int) != 0)=false:=rfl
 by_cases h2:(selE pool ch).2=0
 case neg =>
  have g2:((selE pool ch).2 != 0)=true:=by simpa using h2
  rw [if_pos h2]
  generalize (selE pool ch).2=e at *
  generalize (ch.map fun z=>i64 z)=CL at *
  refine ACalls.of ⟨48,[],[]⟩ (fn:=Tryz.f16) Tryz.func16 rfl rfl rfl (by kernel_rfl) (by kernel_rfl) (Nat.le_of_ble_eq_true rfl) ?_
  simp (maxSteps:=1000000) -implicitDefEqProofs only [go_sem,awp_seq,Nat.reduceBEq,Nat.reduceAdd,Nat.reduceLT]
  refine callA_tt G ?_
  simp (maxSteps:=1000000) -implicitDefEqProofs only [z0,go_sem,awp_seq,Nat.reduceBEq,Nat.reduceLT]
  refine callA_tt S ?_
  simp (maxSteps:=1000000) -implicitDefEqProofs only [g2,go_sem,awp_seq,Nat.reduceBEq,Nat.reduceLT]
  all_goals rfl
 rw [if_neg (by rw [h2];simp)]
 rw [h2]at S
 dsimp only
 have CF:=confl16_c l ch (by omega) hcl
 have key:judgeE (decide (n<(((selE pool ch).1.length:Nat):Int))) (!(conflE l ch).isEmpty) (rs.map fun r=>excE r (selE pool ch).1)=judgeE (decide (n<((ch.length:Nat):Int))) (!(conflE l ch).isEmpty) (rs.map fun r=>exc33 r (chP ch) pool):=by
  rw [sel_len0 h2,(sel_filter hid h2).1]
  congr 1
  exact map_same rs fun r hr'=>(exc_same h18 hit r).symm
 rw [key]
 have hf:∀i (hi:i<rs.length) (hi2:i<(rs.map fun r=>exc33 r (chP ch) pool).length),AT 41 [ruleA rs[i],.sl 9 (pool.map itA),.sl 1 (ch.map fun z=>i64 z)] (boo (rs.map fun r=>exc33 r (chP ch) pool)[i]):=fun i hi hi2=>by
  rw [List.getElem_map]
  exact exc33_c rs[i] pool ch (hchk _ (List.getElem_mem hi)).1 hl hcl
 generalize conflE l ch=cs at *
 cases hw:(decide (n<((ch.length:Nat):Int))) <;> cases hc:cs.isEmpty
 ·exact exd33_ft (by omega) (List.length_map _) G S CF hc hw hf
 ·exact exd33_ff (by omega) (List.length_map _) G S CF hc hw hf
 ·exact exd33_tt (by omega) (List.length_map _) G S CF hc hw hf
 ·exact exd33_tf (by omega) (List.length_map _) G S CF hc hw hf
theorem eqn_c (l:List Int) (hl:l.length≤1048576):AT 17 [.sl 1 (l.map fun z=>i64 z),.sl 1 (l.map fun z=>i64 z)] (boo true):=by
 have c0:(((l.length:Nat):Int) != (l.length:Nat))=false:=by simp
 refine ACalls.of ⟨14,[],[]⟩ (fn:=Tryz.f17) Tryz.func17 rfl rfl rfl (by kernel_rfl) (by kernel_rfl) (Nat.le_of_ble_eq_true rfl) ?_
 simp (maxSteps:=1000000) -implicitDefEqProofs only [c0,List.length_map,go_sem,awp_seq,Nat.reduceBEq,Nat.reduceAdd,Nat.reduceLT]
 refine loop_mk (α:={k:Nat // k≤l.length}) (fun k=>[(0,some (.av (.sl 1 (l.map fun z=>i64 z)))),(1,some (.av (.sl 1 (l.map fun z=>i64 z)))),(4,some (.av (boo false))),(11,some (.av (.sl 1 (l.map fun z=>i64 z)))),(12,some (.av (i64 (l.length:Nat)))),(13,some (.av (i64 (k.1:Nat))))]) (fun _=>[]) (fun _=>[]) (fun k=>l.length-k.1) ⟨0,Nat.zero_le _⟩ ?_ ?_
 ·simp (maxSteps:=1000000) -implicitDefEqProofs only [go_sem,awp_seq,Nat.reduceBEq,Int.cast_ofNat_Int]
 rintro ⟨k,hk⟩
 by_cases hlt:k<l.length
 ·have g1:decide (((k:Nat):Int)<(l.length:Nat))=true:=by simp;omega
  have e1:=map_get (fun z=>i64 z) l hlt
  have w1:IntKind.i64.wrap ((k:Int)+1)=((k+1:Nat):Int):=by rw [IntWalk.i64_in _ (by omega)];omega
  generalize l[k]=y at *
  have c:(y != y)=false:=by simp
  simp (maxSteps:=1000000) -implicitDefEqProofs only [g1,e1,c,w1,Int.toNat_natCast,Int.natCast_nonneg,go_sem,awp_seq,Nat.reduceBEq,Nat.reduceLeDiff,Nat.reduceLT]
  refine roundK_mk ⟨k+1,by omega⟩ ?_ (by show l.length-(k+1)<l.length-k;omega)
  simp (maxSteps:=1000000) -implicitDefEqProofs only [go_sem,awp_seq,Nat.reduceBEq]
 ·have g1:decide (((k:Nat):Int)<(l.length:Nat))=false:=by simp;omega
  simp (maxSteps:=1000000) -implicitDefEqProofs only [g1,go_sem,awp_seq,Nat.reduceBEq,Nat.reduceLT]
set_option maxHeartbeats 4000000 in
theorem breaks_c (n:Int) (rs:List RuleV) (pool:List PI) (l:List (Int × Int)) (ch:List Int) (hr:∀r∈rs,RIn r) (hl:pool.length≤1048576) (hll:l.length≤1048576) (hcl:ch.length≤1048576):AC 5 [.agg [i64 n,rulesA rs],.sl 9 (pool.map itA),.sl 2 (l.map prA),.sl 1 (ch.map fun z=>i64 z)] (boo true):=by
 have B:=bro_c n rs pool l ch hr hl hll hcl
 have B3:=bro33_c n rs pool l ch hl hll hcl
 have X:=exd_c n rs pool l ch hr hl hll hcl
 have X3:=exd33_c n rs pool l ch hl hll hcl
 have A:=awake_c
 have lb:(broE n rs pool l ch).1.length≤1048576:=by
  have:=bro_len (n:=n) (rs:=rs) (pool:=pool) (l:=l) (ch:=ch)
  by_cases h1:taskE n rs pool l=0
  ·have:=(spec_ok (task_in h1).1).1
   omega
  ·unfold broE;rw [if_pos h1];simp
 have lx:(exdE n rs pool l ch).1.length≤1048576:=by
  have:=exd_len (n:=n) (rs:=rs) (pool:=pool) (l:=l) (ch:=ch)
  by_cases h1:taskE n rs pool l=0
  ·have:=(spec_ok (task_in h1).1).1
   omega
  ·unfold exdE;rw [if_pos h1];simp
 generalize (broE n rs pool l ch)=b at *
 generalize (exdE n rs pool l ch)=x at *
 obtain ⟨b1,b2⟩:=b
 obtain ⟨x1,x2⟩:=x
 dsimp only at *
 have E1:=eqn_c b1 lb
 have E2:=eqn_c x1 lx
 have c1:(b2 == b2)=true:=beq_self_eq_true b2
 have c2:(x2 == x2)=true:=beq_self_eq_true x2
 refine ACalls.of ⟨17,[],[]⟩ (fn:=Tryz.f5) Tryz.func5 rfl rfl rfl (by kernel_rfl) (by kernel_rfl) (Nat.le_of_ble_eq_true rfl) ?_
 simp (maxSteps:=1000000) -implicitDefEqProofs only [go_sem,awp_seq,Nat.reduceBEq,Nat.reduceAdd,Nat.reduceLT]
 refine callA_mk (q:=[]) B ?_
 simp (maxSteps:=1000000) -implicitDefEqProofs only [go_sem,awp_seq,Nat.reduceBEq,Nat.reduceAdd,Nat.reduceLeDiff,Nat.reduceLT]
 refine callA_t B3 ?_
 simp (maxSteps:=1000000) -implicitDefEqProofs only [go_sem,awp_seq,Nat.reduceBEq,Nat.reduceAdd,Nat.reduceLeDiff,Nat.reduceLT]
 refine callA_mk (q:=[]) X ?_
 simp (maxSteps:=1000000) -implicitDefEqProofs only [go_sem,awp_seq,Nat.reduceBEq,Nat.reduceAdd,Nat.reduceLeDiff,Nat.reduceLT]
 refine callA_t X3 ?_
 simp (maxSteps:=1000000) -implicitDefEqProofs only [go_sem,awp_seq,Nat.reduceBEq,Nat.reduceLeDiff,Nat.reduceLT]
 refine callA_t E1 ?_
 simp (maxSteps:=1000000) -implicitDefEqProofs only [c1,go_sem,awp_seq,Nat.reduceBEq]
 refine callA_t E2 ?_
 simp (maxSteps:=1000000) -implicitDefEqProofs only [c2,go_sem,awp_seq,Nat.reduceBEq]
 refine callA_mk (q:=[]) A ?_
 simp (maxSteps:=1000000) -implicitDefEqProofs only [go_sem,awp_seq,Nat.reduceBEq]
theorem breaks.law (as':List AV) (h:OkA 1048576 [shSp,.sl shPI,.sl shPr,.sl shI] as'):AC 5 as' (boo true):=by
 obtain ⟨a,r1,rfl,h1,q1⟩:=okA_more h
 obtain ⟨b,r2,rfl,h2,q2⟩:=okA_more q1
 obtain ⟨c,r3,rfl,h3,q3⟩:=okA_more q2
 obtain ⟨d,rfl,h4⟩:=okA_one q3
 obtain ⟨⟨n,rs⟩,rfl,hn,hl,hr⟩:=h1.den
 obtain ⟨pool,rfl,hpl,_⟩:=h2.den
 obtain ⟨l,rfl,hll,_⟩:=h3.den
 obtain ⟨ch,rfl,hcl,_⟩:=h4.den
 have:=breaks_c n (rs.map toRu) pool l ch (fun r hr'=>by
  obtain ⟨x,hx,rfl⟩:=List.mem_map.1 hr'
  obtain ⟨_,q2,q3,q4,q5⟩:=hr x hx
  exact ⟨i64_z q2,i64_z q3,i64_z q4,q5⟩) hpl hll hcl
 have e2:SH.top (.sl shPI) (eraL (vtOf (.sl shPI)) (pool:(vtOf (.sl shPI)).den))=.sl 9 (List.map itA pool):=by
  show AV.sl 9 _=_
  congr 1
 exact ac_swap (specs_den n rs) e2 this
end Go.Proofs.YtmegoiaijfeilaaGreatDoor
