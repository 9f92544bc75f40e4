import Derived.Test.YtcaahphghaddgaaGreatDoorB3
/- Texts merged: Qe Wi9 Rh Ri Rj WiA. -/
set_option linter.unusedSimpArgs false
set_option linter.unusedVariables false
namespace Go.Proofs.YtcaahphghaddgaaGreatDoor
open Go.RowKit Lim
noncomputable section
noncomputable def primA:List (Nat × PrimK):=(17,kMemo probA probR) :: (10,kPrint 20) :: primKL
theorem primA_ok:∀p∈primA,∀args r,p.2 args=some r→AT p.1 args r :=
 List.forall_mem_cons.2 ⟨fun _ _ h=>kMemo_ok (KR_calls prob_k) h,List.forall_mem_cons.2 ⟨fun _ _=>kPrint_ok,primKL_ok⟩⟩
theorem awake_k:KRp primA 30 14 []=some (.lit (.bool true)):=by kernel_rfl
theorem awake_c:AC 14 [] (boo true):=(KRp_calls primA_ok awake_k).ofT
end
end Go.Proofs.YtcaahphghaddgaaGreatDoor
set_option linter.unusedSimpArgs false
set_option linter.unusedVariables false
namespace Go.Proofs.YtcaahphghaddgaaGreatDoor
open Go.RowKit Lim
theorem lcont_c (l:List Int) (x:Int) (hl:l.length≤1048576):AT 30 [.sl 1 (l.map fun z=>i64 z),i64 x] (boo (decide (x∈l))):=by
 obtain ⟨R,hR⟩:∃R,R=decide (x∈l):=⟨_,rfl⟩
 rw [←hR]
 refine ACalls.of ⟨10,[],[]⟩ (fn:=Tryz.f30) Tryz.func30 rfl rfl rfl (by kernel_rfl) (by kernel_rfl) (Nat.le_of_ble_eq_true rfl) ?_
 simp -implicitDefEqProofs only [List.length_map,go_sem,awp_seq,Nat.reduceBEq,Nat.reduceAdd,Nat.reduceLT]
 refine loop_mk (α:={k:Nat // k≤l.length∧R=decide (x∈l.drop k)}) (fun k=>[(0,some (.av (.sl 1 (l.map fun z=>i64 z)))),(1,some (.av (i64 x))),(4,some (.av (boo false))),(7,some (.av (.sl 1 (l.map fun z=>i64 z)))),(8,some (.av (i64 (l.length:Nat)))),(9,some (.av (i64 (k.1:Nat))))]) (fun _=>[]) (fun _=>[]) (fun k=>l.length-k.1) ⟨0,Nat.zero_le _,hR⟩ ?_ ?_
 ·simp -implicitDefEqProofs only [go_sem,awp_seq,Nat.reduceBEq,Int.cast_ofNat_Int]
 ·clear hR
  rintro ⟨k,hk,hR⟩
  by_cases hlt:k<l.length
  ·have g1:decide (((k:Nat):Int)<(l.length:Nat))=true:=by simp;omega
   have e1:=map_get (fun z=>i64 z) l hlt
   have w1:IntKind.i64.wrap ((k:Int)+1)=((k+1:Nat):Int):=by rw [IntWalk.i64_in _ (by omega)];omega
   rw [List.drop_eq_getElem_cons hlt]at hR
   generalize l[k]=y at *
   by_cases hy:y=x
   ·subst hy
    have hR:R=true:=by rw [hR];simp
    subst hR
    have c:(y == y)=true:=beq_self_eq_true y
    simp -implicitDefEqProofs only [g1,e1,c,Int.toNat_natCast,Int.natCast_nonneg,go_sem,awp_seq,Nat.reduceBEq,Nat.reduceLeDiff,Nat.reduceLT]
   ·have c:(y == x)=false:=by simpa using hy
    have hR:R=decide (x∈l.drop (k+1)):=by
     rw [hR]
     have:¬x=y:=fun e=>hy e.symm
     simp [this]
    simp -implicitDefEqProofs only [g1,e1,c,w1,Int.toNat_natCast,Int.natCast_nonneg,go_sem,awp_seq,Nat.reduceBEq,Nat.reduceLeDiff,Nat.reduceLT]
    refine roundK_mk ⟨k+1,by omega,hR⟩ ?_ (by show l.length-(k+1)<l.length-k;omega)
    simp -implicitDefEqProofs only [go_sem,awp_seq,Nat.reduceBEq]
  ·have g1:decide (((k:Nat):Int)<(l.length:Nat))=false:=by simp;omega
   rw [List.drop_of_length_le (by omega)]at hR
   have hR:R=false:=by rw [hR];simp
   subst hR
   simp -implicitDefEqProofs only [g1,go_sem,awp_seq,Nat.reduceBEq,Nat.reduceLT]
def bitE (more:Int) (k:Nat):Bool:=IntKind.u32.wrap ((BitVec.ofInt 32 (more.fdiv (2 ^ min (((k:Nat):Int).tmod 32).toNat 32)) &&& BitVec.ofInt 32 1).toNat:Nat) == 1
def bigE (bt:Nat→Bool) (ch:List Int):List PI→Nat→List Int
 | [],_=>[]
 | y :: l,i=>if decide (y.1∈ch) || bt i then y.1 :: bigE bt ch l (i+1) else bigE bt ch l (i+1)
theorem bigE_yes {bt:Nat→Bool} {ch:List Int} {y:PI} {l:List PI} {i:Nat} {acc L:List Int} (h:(decide (y.1∈ch) || bt i)=true) (hL:L=acc ++ bigE bt ch (y :: l) i):L=(acc ++ [y.1]) ++ bigE bt ch l (i+1):=by
 rw [hL]
 conv=>lhs;unfold bigE
 rw [if_pos h,List.append_assoc]
 rfl
theorem bigE_no {bt:Nat→Bool} {ch:List Int} {y:PI} {l:List PI} {i:Nat} {acc L:List Int} (h:(decide (y.1∈ch) || bt i)=false) (hL:L=acc ++ bigE bt ch (y :: l) i):L=acc ++ bigE bt ch l (i+1):=by
 rw [hL]
 conv=>lhs;unfold bigE
 rw [if_neg (by rw [h];simp)]
set_option maxHeartbeats 8000000 in
theorem growth_c (n:Int) (rs:List RuleV) (pool:List PI) (l:List (Int × Int)) (ch:List Int) (more:Int) (hr:∀r∈rs,RIn r) (hl:pool.length≤1000) (hll:l.length≤1048576) (hcl:ch.length≤1048576) (h0:(exdE n rs pool l ch).2=0) (he:(broE n rs pool l ch).2=0)
  (hg:(exdE n rs pool l (bigE (bitE more) ch pool 0)).2=0) (hm:∀k∈(exdE n rs pool l ch).1,k∈(broE n rs pool l ch).1∧k∈(exdE n rs pool l (bigE (bitE more) ch pool 0)).1) (hal:(exdE n rs pool l ch).1.length≤1048576) (hbl:(broE n rs pool l ch).1.length≤1048576) (hcl3:(exdE n rs pool l (bigE (bitE more) ch pool 0)).1.length≤1048576) (hLl:(bigE (bitE more) ch pool 0).length≤1048576):AC 9 [.agg [i64 n,rulesA rs],.sl 9 (pool.map itA),.sl 2 (l.map prA),.sl 1 (ch.map fun z=>i64 z),.lit (.int .u32 more)] (boo true):=by
 have X:=exd_c n rs pool l ch hr (by omega) hll hcl
 have B:=bro_c n rs pool l ch hr (by omega) hll hcl
 have X3:=exd_c n rs pool l (bigE (bitE more) ch pool 0) hr (by omega) hll hLl
 have A:=awake_c
 rw [h0]at X
 rw [he]at B
 rw [hg]at X3
 generalize (exdE n rs pool l ch).1=a at *
 generalize (broE n rs pool l ch).1=b at *
 generalize (exdE n rs pool l (bigE (bitE more) ch pool 0)).1=c at *
 obtain ⟨L,hL⟩:∃L,L=bigE (bitE more) ch pool 0:=⟨_,rfl⟩
 rw [←hL]at X3 hLl
 clear h0 he hg hr
 have z0:((0:Int) != 0)=false:=rfl
 refine ACalls.of ⟨93,[],[]⟩ (fn:=Tryz.f9) Tryz.func9 rfl rfl rfl (by kernel_rfl) (by kernel_rfl) (Nat.le_of_ble_eq_true rfl) ?_
 simp -implicitDefEqProofs only [go_sem,awp_seq,Nat.reduceBEq,Nat.reduceAdd,Nat.reduceLT]
 refine callA_mk X ?_
 simp -implicitDefEqProofs only [go_sem,awp_seq,Nat.reduceBEq,Nat.reduceAdd,Nat.reduceLT]
 refine callA_mk B ?_
 simp -implicitDefEqProofs only [z0,List.length_map,go_sem,awp_seq,Nat.reduceBEq,Nat.reduceLT]
 refine loop_mk (α:={x:Nat × List Int // x.1≤pool.length∧L=x.2 ++ bigE (bitE more) ch (pool.drop x.1) x.1∧x.2.length≤x.1}) (fun x=>[(1,some (.av (.sl 9 (pool.map itA)))),(2,some (.av (.sl 2 (l.map prA)))),(3,some (.av (.sl 1 (ch.map fun z=>i64 z)))),(4,some (.av (.lit (.int .u32 more)))),(5,some (.ref 5 0)),(10,some (.av (boo false))),(11,some (.av (.sl 1 (a.map fun z=>i64 z)))),(13,some (.av (.sl 1 (b.map fun z=>i64 z)))),(15,some (bif x.1.2.isEmpty then .av (.lit (.slice none 0 0)) else .osl 78 1 0 x.1.2.length)),(54,some (.av (.sl 9 (pool.map itA)))),(55,some (.av (i64 (pool.length:Nat)))),(56,some (.av (i64 (x.1.1:Nat))))]) (fun _=>[(5,[i64 n,rulesA rs])]) (fun x=>bif x.1.2.isEmpty then [] else [(78,.row 3 1 (x.1.2.map fun z=>i64 z))]) (fun x=>pool.length-x.1.1) ⟨(0,[]),Nat.zero_le _,hL,Nat.le_refl _⟩ ?_ ?_
 ·simp -implicitDefEqProofs only [List.isEmpty_nil,cond_true,go_sem,awp_seq,Nat.reduceBEq,Int.cast_ofNat_Int]
 clear hL
 rintro ⟨⟨k,acc⟩,hk,hL,hacc⟩
 dsimp only at hk hL hacc
 by_cases hlt:k<pool.length
 ·have g1:decide (((k:Nat):Int)<(pool.length:Nat))=true:=by simp;omega
  have e1:=map_get itA pool hlt
  have w1:IntKind.i64.wrap ((k:Int)+1)=((k+1:Nat):Int):=by rw [IntWalk.i64_in _ (by omega)];omega
  have hu:IntKind.u64.wrap ((k:Nat):Int)=((k:Nat):Int):=by simp [IntKind.wrap,IntKind.bits,IntKind.signed];omega
  have hn0:0≤((k:Nat):Int).tmod 32:=Int.tmod_nonneg _ (by omega)
  rw [List.drop_eq_getElem_cons hlt]at hL
  generalize pool[k]=y at *
  have C:=lcont_c ch y.1 hcl
  generalize hb:bitE more k=bb at *
  cases acc with
  | nil =>
   cases hc:decide (y.1∈ch)with
   | true =>
    rw [hc]at C
    simp -implicitDefEqProofs only [g1,e1,List.isEmpty_nil,cond_true,Int.toNat_natCast,Int.natCast_nonneg,go_sem,awp_seq,Nat.reduceBEq,Nat.reduceAdd,Nat.reduceLT,Nat.reduceEqDiff]
    refine callA_t C ?_
    simp -implicitDefEqProofs only [w1,List.length_cons,List.length_map,go_sem,awp_seq,Nat.reduceBNe,Nat.reduceBEq,Nat.reduceMul,Nat.reduceLeDiff,Nat.reduceLT]
    have hL:=bigE_yes (by rw [hc,hb];rfl) hL
    have w5:((1:Nat):Int)=1:=rfl
    refine roundK_mk ⟨(k+1,[y.1]),by show k+1≤_;omega,hL,by show 1≤k+1;omega⟩ ?_ (by show pool.length-(k+1)<pool.length-k;omega)
    simp -implicitDefEqProofs only [List.isEmpty_cons,cond_false,List.map_cons,List.map_nil,List.length_cons,List.length_nil,go_sem,awp_seq,Nat.reduceBEq]
   | false =>
    rw [hc]at C
    simp -implicitDefEqProofs only [g1,e1,List.isEmpty_nil,cond_true,Int.toNat_natCast,Int.natCast_nonneg,go_sem,awp_seq,Nat.reduceBEq,Nat.reduceAdd,Nat.reduceLT,Nat.reduceEqDiff]
    refine callA_t C ?_
    simp -implicitDefEqProofs only [w1,hu,go_sem,awp_seq,Nat.reduceBNe,Nat.reduceBEq,Nat.reduceMul,Nat.reduceLeDiff,Nat.reduceLT]
    refine ⟨by decide,hn0,?_⟩
    cases bb with
    | true =>
     rw [binK_and]
     generalize hX:IntKind.u32.wrap _=X
     have hbX:(X == 1)=true:=(congrArg (· == (1:Int)) hX).symm.trans hb
     simp -implicitDefEqProofs only [hbX,w1,List.length_cons,List.length_map,go_sem,awp_seq,Nat.reduceBNe,Nat.reduceBEq,Nat.reduceMul,Nat.reduceLeDiff,Nat.reduceLT]
     have hL:=bigE_yes (by rw [hc,hb];rfl) hL
     have w5:((1:Nat):Int)=1:=rfl
     refine roundK_mk ⟨(k+1,[y.1]),by show k+1≤_;omega,hL,by show 1≤k+1;omega⟩ ?_ (by show pool.length-(k+1)<pool.length-k;omega)
     simp -implicitDefEqProofs only [List.isEmpty_cons,cond_false,List.map_cons,List.map_nil,List.length_cons,List.length_nil,go_sem,awp_seq,Nat.reduceBEq]
    | false =>
     rw [binK_and]
     generalize hX:IntKind.u32.wrap _=X
     have hbX:(X == 1)=false:=(congrArg (· == (1:Int)) hX).symm.trans hb
     simp -implicitDefEqProofs only [hbX,w1,go_sem,awp_seq,Nat.reduceBNe,Nat.reduceBEq,Nat.reduceLT]
     have hL:=bigE_no (by rw [hc,hb];rfl) hL
     refine roundK_mk ⟨(k+1,[]),by show k+1≤_;omega,hL,by show ([]:List Int).length≤k+1;omega⟩ ?_ (by show pool.length-(k+1)<pool.length-k;omega)
     simp -implicitDefEqProofs only [List.isEmpty_nil,cond_true,go_sem,awp_seq,Nat.reduceBEq]
  | cons z zs =>
   cases hc:decide (y.1∈ch)with
   | true =>
    rw [hc]at C
    simp -implicitDefEqProofs only [g1,e1,List.isEmpty_cons,cond_false,Int.toNat_natCast,Int.natCast_nonneg,go_sem,awp_seq,Nat.reduceBEq,Nat.reduceAdd,Nat.reduceLT,Nat.reduceEqDiff]
    refine callA_t C ?_
    simp -implicitDefEqProofs only [w1,List.length_cons,List.length_map,go_sem,awp_seq,Nat.reduceBNe,Nat.reduceBEq,Nat.reduceMul,Nat.reduceLeDiff,Nat.reduceLT]
    have hL:=bigE_yes (by rw [hc,hb];rfl) hL
    have ml:((z :: zs).map fun z=>i64 z).length=(z :: zs).length:=List.length_map _
    simp only [List.length_cons,List.length_map]at hacc ⊢
    refine ⟨by omega,by omega,?_⟩
    refine roundK_mk ⟨(k+1,z :: zs ++ [y.1]),by show k+1≤_;omega,hL,by show (z :: zs ++ [y.1]).length≤k+1;simp;omega⟩ ?_ (by show pool.length-(k+1)<pool.length-k;omega)
    simp -implicitDefEqProofs only [List.isEmpty_cons,List.cons_append,cond_false,List.map_append,List.map_cons,List.map_nil,List.length_cons,List.length_append,List.length_nil,go_sem,awp_seq,Nat.reduceBEq]
   | false =>
    rw [hc]at C
    simp -implicitDefEqProofs only [g1,e1,List.isEmpty_cons,cond_false,Int.toNat_natCast,Int.natCast_nonneg,go_sem,awp_seq,Nat.reduceBEq,Nat.reduceAdd,Nat.reduceLT,Nat.reduceEqDiff]
    refine callA_t C ?_
    simp -implicitDefEqProofs only [w1,hu,go_sem,awp_seq,Nat.reduceBNe,Nat.reduceBEq,Nat.reduceMul,Nat.reduceLeDiff,Nat.reduceLT]
    refine ⟨by decide,hn0,?_⟩
    cases bb with
    | true =>
     rw [binK_and]
     generalize hX:IntKind.u32.wrap _=X
     have hbX:(X == 1)=true:=(congrArg (· == (1:Int)) hX).symm.trans hb
     simp -implicitDefEqProofs only [hbX,w1,List.length_cons,List.length_map,go_sem,awp_seq,Nat.reduceBNe,Nat.reduceBEq,Nat.reduceMul,Nat.reduceLeDiff,Nat.reduceLT]
     have hL:=bigE_yes (by rw [hc,hb];rfl) hL
     have ml:((z :: zs).map fun z=>i64 z).length=(z :: zs).length:=List.length_map _
     simp only [List.length_cons,List.length_map]at hacc ⊢
     refine ⟨by omega,by omega,?_⟩
     refine roundK_mk ⟨(k+1,z :: zs ++ [y.1]),by show k+1≤_;omega,hL,by show (z :: zs ++ [y.1]).length≤k+1;simp;omega⟩ ?_ (by show pool.length-(k+1)<pool.length-k;omega)
     simp -implicitDefEqProofs only [List.isEmpty_cons,List.cons_append,cond_false,List.map_append,List.map_cons,List.map_nil,List.length_cons,List.length_append,List.length_nil,go_sem,awp_seq,Nat.reduceBEq]
    | false =>
     rw [binK_and]
     generalize hX:IntKind.u32.wrap _=X
     have hbX:(X == 1)=false:=(congrArg (· == (1:Int)) hX).symm.trans hb
     simp -implicitDefEqProofs only [hbX,w1,go_sem,awp_seq,Nat.reduceBNe,Nat.reduceBEq,Nat.reduceLT]
     have hL:=bigE_no (by rw [hc,hb];rfl) hL
     refine roundK_mk ⟨(k+1,z :: zs),by show k+1≤_;omega,hL,by show (z :: zs:List Int).length≤k+1;omega⟩ ?_ (by show pool.length-(k+1)<pool.length-k;omega)
     simp -implicitDefEqProofs only [List.isEmpty_cons,cond_false,go_sem,awp_seq,Nat.reduceBEq]
 ·obtain rfl:k=pool.length:=by omega
  rw [List.drop_length]at hL
  have hL:L=acc:=by rw [hL];simp [bigE]
  subst hL
  have g1:decide (((pool.length:Nat):Int)<(pool.length:Nat))=false:=by simp
  have tail:∀x,x∈a→(decide (x∈b)=true∧decide (x∈c)=true):=fun x hx=>⟨decide_eq_true (hm x hx).1,decide_eq_true (hm x hx).2⟩
  cases L with
  | nil =>
   simp -implicitDefEqProofs only [g1,List.isEmpty_nil,cond_true,go_sem,awp_seq,Nat.reduceBEq,Nat.reduceAdd,Nat.reduceLT]
   refine callA_mk X3 ?_
   simp -implicitDefEqProofs only [z0,List.length_map,go_sem,awp_seq,Nat.reduceBEq,Nat.reduceLT]
   refine loop_mk (α:={k:Nat // k≤a.length}) (fun k=>[(10,some (.av (boo false))),(13,some (.av (.sl 1 (b.map fun z=>i64 z)))),(18,some (.av (.sl 1 (c.map fun z=>i64 z)))),(90,some (.av (.sl 1 (a.map fun z=>i64 z)))),(91,some (.av (i64 (a.length:Nat)))),(92,some (.av (i64 (k.1:Nat))))]) (fun _=>[]) (fun _=>[]) (fun k=>a.length-k.1) ⟨0,Nat.zero_le _⟩ ?_ ?_
   ·simp -implicitDefEqProofs only [go_sem,awp_seq,Nat.reduceBEq,Int.cast_ofNat_Int]
   rintro ⟨j,hj⟩
   by_cases hlt2:j<a.length
   ·have g2:decide (((j:Nat):Int)<(a.length:Nat))=true:=by simp;omega
    have e2:=map_get (fun z=>i64 z) a hlt2
    have w2:IntKind.i64.wrap ((j:Int)+1)=((j+1:Nat):Int):=by rw [IntWalk.i64_in _ (by omega)];omega
    obtain ⟨t1,t2⟩:=tail _ (List.getElem_mem hlt2)
    have C1:=lcont_c b a[j] hbl
    have C2:=lcont_c c a[j] hcl3
    rw [t1]at C1
    rw [t2]at C2
    clear tail t1 t2
    generalize a[j]=x at *
    simp -implicitDefEqProofs only [g2,e2,Int.toNat_natCast,Int.natCast_nonneg,go_sem,awp_seq,Nat.reduceBEq,Nat.reduceLeDiff,Nat.reduceLT]
    refine callA_t C1 ?_
    simp -implicitDefEqProofs only [Bool.not_true,go_sem,awp_seq,Nat.reduceBEq]
    refine callA_t C2 ?_
    simp -implicitDefEqProofs only [Bool.not_true,w2,go_sem,awp_seq,Nat.reduceBEq,Nat.reduceLeDiff,Nat.reduceLT]
    refine roundK_mk ⟨j+1,by omega⟩ ?_ (by show a.length-(j+1)<a.length-j;omega)
    simp -implicitDefEqProofs only [go_sem,awp_seq,Nat.reduceBEq]
   ·have g2:decide (((j:Nat):Int)<(a.length:Nat))=false:=by simp;omega
    simp -implicitDefEqProofs only [g2,go_sem,awp_seq,Nat.reduceBEq,Nat.reduceLT]
    refine callA_mk (q:=[]) A ?_
    simp -implicitDefEqProofs only [go_sem,awp_seq,Nat.reduceBEq]
  | cons z zs =>
   have tk:((z :: zs).map fun z=>i64 z).take (z :: zs).length=(z :: zs).map fun z=>i64 z:=List.take_of_length_le (by rw [List.length_map];exact Nat.le_refl _)
   simp -implicitDefEqProofs only [g1,List.isEmpty_cons,cond_false,List.length_cons,go_sem,awp_seq,Nat.reduceBEq,Nat.reduceAdd,Nat.reduceLT]
   refine ⟨by simp,?_⟩
   rw [List.length_cons]at tk
   simp -implicitDefEqProofs only [tk,go_sem,awp_seq]
   cases hfl:(AV.tup [.sl 1 (c.map fun z=>i64 z),i64 0]).flat with
   | true =>
    refine callA_flat X3 hfl ?_
    simp -implicitDefEqProofs only [z0,List.length_map,go_sem,awp_seq,Nat.reduceBEq,Nat.reduceLT]
    refine loop_mk (α:={k:Nat // k≤a.length}) (fun k=>[(10,some (.av (boo false))),(13,some (.av (.sl 1 (b.map fun z=>i64 z)))),(18,some (.av (.sl 1 (c.map fun z=>i64 z)))),(90,some (.av (.sl 1 (a.map fun z=>i64 z)))),(91,some (.av (i64 (a.length:Nat)))),(92,some (.av (i64 (k.1:Nat))))]) (fun _=>[]) (fun _=>[]) (fun k=>a.length-k.1) ⟨0,Nat.zero_le _⟩ ?_ ?_
    ·simp -implicitDefEqProofs only [go_sem,awp_seq,Nat.reduceBEq,Int.cast_ofNat_Int]
    rintro ⟨j,hj⟩
    by_cases hlt2:j<a.length
    ·have g2:decide (((j:Nat):Int)<(a.length:Nat))=true:=by simp;omega
     have e2:=map_get (fun z=>i64 z) a hlt2
     have w2:IntKind.i64.wrap ((j:Int)+1)=((j+1:Nat):Int):=by rw [IntWalk.i64_in _ (by omega)];omega
     obtain ⟨t1,t2⟩:=tail _ (List.getElem_mem hlt2)
     have C1:=lcont_c b a[j] hbl
     have C2:=lcont_c c a[j] hcl3
     rw [t1]at C1
     rw [t2]at C2
     clear tail t1 t2
     generalize a[j]=x at *
     simp -implicitDefEqProofs only [g2,e2,Int.toNat_natCast,Int.natCast_nonneg,go_sem,awp_seq,Nat.reduceBEq,Nat.reduceLeDiff,Nat.reduceLT]
     refine callA_t C1 ?_
     simp -implicitDefEqProofs only [Bool.not_true,go_sem,awp_seq,Nat.reduceBEq]
     refine callA_t C2 ?_
     simp -implicitDefEqProofs only [Bool.not_true,w2,go_sem,awp_seq,Nat.reduceBEq,Nat.reduceLeDiff,Nat.reduceLT]
     refine roundK_mk ⟨j+1,by omega⟩ ?_ (by show a.length-(j+1)<a.length-j;omega)
     simp -implicitDefEqProofs only [go_sem,awp_seq,Nat.reduceBEq]
    ·have g2:decide (((j:Nat):Int)<(a.length:Nat))=false:=by simp;omega
     simp -implicitDefEqProofs only [g2,go_sem,awp_seq,Nat.reduceBEq,Nat.reduceLT]
     refine callA_mk (q:=[]) A ?_
     simp -implicitDefEqProofs only [go_sem,awp_seq,Nat.reduceBEq]
   | false =>
    refine callA_frz X3 hfl ?_
    simp -implicitDefEqProofs only [z0,List.length_map,go_sem,awp_seq,Nat.reduceBEq,Nat.reduceLT]
    refine loop_mk (α:={k:Nat // k≤a.length}) (fun k=>[(10,some (.av (boo false))),(13,some (.av (.sl 1 (b.map fun z=>i64 z)))),(18,some (.av (.sl 1 (c.map fun z=>i64 z)))),(90,some (.av (.sl 1 (a.map fun z=>i64 z)))),(91,some (.av (i64 (a.length:Nat)))),(92,some (.av (i64 (k.1:Nat))))]) (fun _=>[]) (fun _=>[]) (fun k=>a.length-k.1) ⟨0,Nat.zero_le _⟩ ?_ ?_
    ·simp -implicitDefEqProofs only [go_sem,awp_seq,Nat.reduceBEq,Int.cast_ofNat_Int]
    rintro ⟨j,hj⟩
    by_cases hlt2:j<a.length
    ·have g2:decide (((j:Nat):Int)<(a.length:Nat))=true:=by simp;omega
     have e2:=map_get (fun z=>i64 z) a hlt2
     have w2:IntKind.i64.wrap ((j:Int)+1)=((j+1:Nat):Int):=by rw [IntWalk.i64_in _ (by omega)];omega
     obtain ⟨t1,t2⟩:=tail _ (List.getElem_mem hlt2)
     have C1:=lcont_c b a[j] hbl
     have C2:=lcont_c c a[j] hcl3
     rw [t1]at C1
     rw [t2]at C2
     clear tail t1 t2
     generalize a[j]=x at *
     simp -implicitDefEqProofs only [g2,e2,Int.toNat_natCast,Int.natCast_nonneg,go_sem,awp_seq,Nat.reduceBEq,Nat.reduceLeDiff,Nat.reduceLT]
     refine callA_t C1 ?_
     simp -implicitDefEqProofs only [Bool.not_true,go_sem,awp_seq,Nat.reduceBEq]
     refine callA_t C2 ?_
     simp -implicitDefEqProofs only [Bool.not_true,w2,go_sem,awp_seq,Nat.reduceBEq,Nat.reduceLeDiff,Nat.reduceLT]
     refine roundK_mk ⟨j+1,by omega⟩ ?_ (by show a.length-(j+1)<a.length-j;omega)
     simp -implicitDefEqProofs only [go_sem,awp_seq,Nat.reduceBEq]
    ·have g2:decide (((j:Nat):Int)<(a.length:Nat))=false:=by simp;omega
     simp -implicitDefEqProofs only [g2,go_sem,awp_seq,Nat.reduceBEq,Nat.reduceLT]
     refine callA_mk (q:=[]) A ?_
     simp -implicitDefEqProofs only [go_sem,awp_seq,Nat.reduceBEq]
end Go.Proofs.YtcaahphghaddgaaGreatDoor
set_option linter.unusedSimpArgs false
set_option linter.unusedVariables false
namespace Go.Proofs.YtcaahphghaddgaaGreatDoor
open Go.RowKit Lim
theorem ids_cons {y:PI} {ys:List PI} {a:Int} (h:idsE (y :: ys) a=true):a<y.1∧idsE ys y.1=true:=by
 unfold idsE at h
 cases hn:numB y.1 with
 | false=>rw [hn]at h;simp at h
 | true =>
  rw [hn]at h
  by_cases h1:y.1≤a
  ·simp [h1]at h
  ·exact ⟨by omega,by simpa [h1]using h⟩
theorem ids_lt:∀{pool:List PI} {a:Int},idsE pool a=true→∀y∈pool,a<y.1
 | [],_,_,y,hy=>absurd hy List.not_mem_nil
 | x :: xs,a,h,y,hy=>by
  obtain ⟨h1,h2⟩:=ids_cons h
  rcases List.mem_cons.1 hy with rfl|hy
  ·exact h1
  ·have:=ids_lt h2 y hy;omega
theorem rises_cons {c:Int}:∀{cs:List Int},risesB (c :: cs)=true→risesB cs=true∧∀d∈cs,c<d
 | [],_=>⟨rfl,fun d hd=>absurd hd List.not_mem_nil⟩
 | e :: cs,h=>by
  unfold risesB at h
  obtain ⟨h1,h2⟩:=Bool.and_eq_true_iff.1 h
  have h1:=of_decide_eq_true h1
  refine ⟨h2,fun d hd=>?_⟩
  rcases List.mem_cons.1 hd with rfl|hd
  ·exact h1
  ·have:=(rises_cons h2).2 d hd;omega
theorem pick_skip {y:PI} {ys:List PI}:∀(ch:List Int) (acc:List PI),(∀c∈ch,y.1≠c)→pickE (y :: ys) ch acc=pickE ys ch acc
 | [],_,_=>rfl
 | c :: cs,acc,h=>by
  have hc:idP c y=false:=by unfold idP;simpa using h c (by simp)
  unfold pickE
  rw [List.find?_cons,hc]
  cases ys.find? (idP c)with
  | none=>rfl
  | some z=>exact pick_skip cs _ fun d hd=>h d (by simp [hd])
theorem pick_filter:∀(pool:List PI) (a:Int) (ch:List Int) (acc items:List PI),idsE pool a=true→risesB ch=true→pickE pool ch acc=(items,0)→items=acc ++ pool.filter (fun y=>decide (y.1∈ch))∧∀c∈ch,∃y∈pool,y.1=c
 | [],a,[],acc,items,_,_,h=>by
  refine ⟨?_,fun c hc=>absurd hc List.not_mem_nil⟩
  have:acc=items:=congrArg Prod.fst h
  simp [this]
 | [],a,c :: cs,acc,items,_,_,h=>by
  have:(6:Int)=0:=congrArg Prod.snd h
  omega
 | y :: ys,a,[],acc,items,_,_,h=>by
  refine ⟨?_,fun c hc=>absurd hc List.not_mem_nil⟩
  have:acc=items:=congrArg Prod.fst h
  simp [this]
 | y :: ys,a,c :: cs,acc,items,hi,hr,h=>by
  obtain ⟨h1,h2⟩:=ids_cons hi
  obtain ⟨r1,r2⟩:=rises_cons hr
  have hys:=ids_lt h2
  by_cases hc:y.1=c
  ·have hf:pickE (y :: ys) (c :: cs) acc=pickE (y :: ys) cs (acc ++ [y]):=by
    conv=>lhs;unfold pickE
    have:idP c y=true:=by unfold idP;simpa using hc
    rw [List.find?_cons,this]
   rw [hf,pick_skip cs _ fun d hd=>by have:=r2 d hd;omega]at h
   obtain ⟨q1,q2⟩:=pick_filter ys y.1 cs _ _ h2 r1 h
   refine ⟨?_,fun d hd=>?_⟩
   ·rw [q1,List.filter_cons_of_pos (by simp [hc])]
    rw [List.append_assoc]
    congr 1
    show [y] ++ _=y :: _
    rw [List.singleton_append]
    congr 1
    refine List.filter_congr fun z hz=>?_
    have:=hys z hz
    have hne:z.1≠c:=by omega
    simp [hne]
   ·rcases List.mem_cons.1 hd with rfl|hd
    ·exact ⟨y,by simp,hc⟩
    ·obtain ⟨z,hz,e⟩:=q2 d hd
     exact ⟨z,by simp [hz],e⟩
  ·by_cases hlt:c<y.1
   ·exfalso
    have hn:(y :: ys).find? (idP c)=none:=by
     rw [List.find?_eq_none]
     intro z hz
     have hz1:y.1≤z.1:=by
      rcases List.mem_cons.1 hz with rfl|hz
      ·omega
      ·have:=hys z hz;omega
     unfold idP
     simp
     omega
    unfold pickE at h
    rw [hn]at h
    have:(6:Int)=0:=congrArg Prod.snd h
    omega
   ·have hall:∀d∈c :: cs,y.1≠d:=fun d hd=>by
     rcases List.mem_cons.1 hd with rfl|hd
     ·exact hc
     ·have:=r2 d hd;omega
    rw [pick_skip _ _ hall]at h
    obtain ⟨q1,q2⟩:=pick_filter ys y.1 (c :: cs) _ _ h2 hr h
    refine ⟨?_,fun d hd=>?_⟩
    ·rw [q1,List.filter_cons_of_neg]
     simp only [decide_eq_true_eq]
     exact fun hm=>hall _ hm rfl
    ·obtain ⟨z,hz,e⟩:=q2 d hd
     exact ⟨z,by simp [hz],e⟩
theorem pick_ok (pool:List PI):∀(ch:List Int) (acc:List PI),(∀c∈ch,∃y∈pool,y.1=c)→(pickE pool ch acc).2=0
 | [],_,_=>rfl
 | c :: cs,acc,h=>by
  unfold pickE
  cases hf:pool.find? (idP c)with
  | none =>
   obtain ⟨y,hy,e⟩:=h c (by simp)
   have:=List.find?_eq_none.1 hf y hy
   unfold idP at this
   simp [e]at this
  | some y=>exact pick_ok pool cs _ fun d hd=>h d (by simp [hd])
theorem big_mem {bt:Nat→Bool} {ch:List Int}:∀{pool:List PI} {i:Nat} {x:Int},x∈bigE bt ch pool i→∃y∈pool,y.1=x
 | [],_,x,h=>by unfold bigE at h;exact absurd h List.not_mem_nil
 | y :: l,i,x,h=>by
  unfold bigE at h
  split at h
  ·rcases List.mem_cons.1 h with rfl|h
   ·exact ⟨y,by simp,rfl⟩
   ·obtain ⟨z,hz,e⟩:=big_mem h
    exact ⟨z,by simp [hz],e⟩
  ·obtain ⟨z,hz,e⟩:=big_mem h
   exact ⟨z,by simp [hz],e⟩
theorem big_ch {bt:Nat→Bool} {ch:List Int}:∀{pool:List PI} {i:Nat} {y:PI},y∈pool→y.1∈ch→y.1∈bigE bt ch pool i
 | [],_,y,h,_=>absurd h List.not_mem_nil
 | x :: l,i,y,h,hc=>by
  unfold bigE
  rcases List.mem_cons.1 h with rfl|h
  ·rw [if_pos (by simp [hc])];simp
  ·split
   ·exact List.mem_cons_of_mem _ (big_ch h hc)
   ·exact big_ch h hc
theorem big_rises {bt:Nat→Bool} {ch:List Int}:∀{pool:List PI} {i:Nat} {a:Int},idsE pool a=true→risesB (bigE bt ch pool i)=true∧∀x∈bigE bt ch pool i,a<x
 | [],_,a,_=>⟨rfl,fun x h=>absurd h (by unfold bigE;exact List.not_mem_nil)⟩
 | y :: l,i,a,h=>by
  obtain ⟨h1,h2⟩:=ids_cons h
  obtain ⟨q1,q2⟩:=big_rises (bt:=bt) (ch:=ch) (pool:=l) (i:=i+1) h2
  unfold bigE
  split
  ·refine ⟨?_,fun x hx=>?_⟩
   ·generalize bigE bt ch l (i+1)=L at *
    cases L with
    | nil=>rfl
    | cons e L =>
     unfold risesB
     rw [decide_eq_true (q2 e (by simp)),q1]
     rfl
   ·rcases List.mem_cons.1 hx with rfl|hx
    ·exact h1
    ·have:=q2 x hx;omega
  ·exact ⟨q1,fun x hx=>by have:=q2 x hx;omega⟩
theorem big_len {bt:Nat→Bool} {ch:List Int}:∀{pool:List PI} {i:Nat},(bigE bt ch pool i).length≤pool.length
 | [],_=>by simp [bigE]
 | y :: l,i=>by
  have:=big_len (bt:=bt) (ch:=ch) (pool:=l) (i:=i+1)
  unfold bigE
  split <;> simp <;> omega
def sumM (m:PI→Int):List PI→Int
 | []=>0
 | y :: l=>m y+sumM m l
theorem tot_sum {m:PI→Int}:∀(l:List PI) (s:Int),0≤s→s+2000*(l.length:Nat)≤1000000→(∀y∈l,0≤m y∧m y≤2000)→totE m l s=s+sumM m l
 | [],s,_,_,_=>by simp [totE,sumM]
 | y :: l,s,h0,h1,h=>by
  have hy:=h y (by simp)
  rw [List.length_cons]at h1
  have hw:IntKind.i64.wrap (s+m y)=s+m y:=IntWalk.i64_in _ (by omega)
  unfold totE sumM
  rw [hw,tot_sum l (s+m y) (by omega) (by omega) fun z hz=>h z (by simp [hz])]
  omega
theorem sum_mono {m:PI→Int} {p q:PI→Bool}:∀(l:List PI),(∀y∈l,0≤m y)→(∀y∈l,p y=true→q y=true)→sumM m (l.filter p)≤sumM m (l.filter q)
 | [],_,_=>Int.le_refl _
 | y :: l,h,hpq=>by
  have ih:=sum_mono l (fun z hz=>h z (by simp [hz])) (fun z hz=>hpq z (by simp [hz]))
  have hy:=h y (by simp)
  cases hp:p y with
  | true =>
   rw [List.filter_cons_of_pos hp,List.filter_cons_of_pos (hpq y (by simp) hp)]
   unfold sumM
   omega
  | false =>
   rw [List.filter_cons_of_neg (by simp [hp])]
   cases hq:q y with
   | true =>
    rw [List.filter_cons_of_pos hq]
    conv=>rhs;unfold sumM
    omega
   | false=>rw [List.filter_cons_of_neg (by simp [hq])];exact ih
theorem len_mono {p q:PI→Bool} (l:List PI) (hpq:∀y∈l,p y=true→q y=true):(l.filter p).length≤(l.filter q).length:=by
 have h:=sum_mono (m:=fun _=>1) l (fun _ _=>by decide) hpq
 have e:∀l:List PI,sumM (fun _=>1) l=(l.length:Nat):=fun l=>by
  induction l with
  | nil=>rfl
  | cons y l ih=>unfold sumM;rw [ih,List.length_cons];omega
 rw [e,e]at h
 omega
theorem has_mono {p q:PI→Bool} (l:List PI) (n:Int) (hpq:∀y∈l,p y=true→q y=true) (h:hasE (l.filter p) n=true):hasE (l.filter q) n=true:=by
 unfold hasE at *
 rw [List.find?_isSome]at *
 obtain ⟨y,hy,hn⟩:=h
 obtain ⟨h1,h2⟩:=List.mem_filter.1 hy
 exact ⟨y,List.mem_filter.2 ⟨h1,hpq y h1 h2⟩,hn⟩
theorem dup_iff:∀(l seen:List Int),dupA seen l≠[] ↔ ∃x,seen.count x<2∧2≤seen.count x+l.count x
 | [],seen=>⟨fun h=>absurd rfl h,fun ⟨x,h1,h2⟩=>by simp at h2;omega⟩
 | y :: l,seen=>by
  have ih:=dup_iff l (y :: seen)
  unfold dupA
  by_cases h:seen.count y=1
  ·rw [if_pos h]
   refine ⟨fun _=>⟨y,by omega,by rw [List.count_cons_self];omega⟩,fun _=>by simp⟩
  ·rw [if_neg h,ih]
   constructor
   ·rintro ⟨x,h1,h2⟩
    by_cases hx:x=y
    ·subst hx
     rw [List.count_cons_self]at h1 h2
     exact ⟨x,by omega,by rw [List.count_cons_self];omega⟩
    ·have hne:(y == x)=false:=by simpa using fun e=>hx e.symm
     rw [List.count_cons,hne]at h1 h2
     exact ⟨x,by simpa using h1,by rw [List.count_cons,hne];simpa using h2⟩
   ·rintro ⟨x,h1,h2⟩
    by_cases hx:x=y
    ·subst hx
     rw [List.count_cons_self]at h2
     refine ⟨x,?_,?_⟩
     ·rw [List.count_cons_self];omega
     ·rw [List.count_cons_self];omega
    ·have hne:(y == x)=false:=by simpa using fun e=>hx e.symm
     rw [List.count_cons,hne]at h2
     exact ⟨x,by rw [List.count_cons,hne];simpa using h1,by rw [List.count_cons,hne];simpa using h2⟩
theorem rep_iff (items:List PI):(!(repE items).isEmpty)=true ↔ ∃x,2≤(famL items).count x:=by
 have h1:(!(repE items).isEmpty)=true ↔ dupA [] (famL items)≠[]:=by
  unfold repE
  rw [Bool.not_eq_true',List.isEmpty_eq_false_iff]
  constructor
  ·intro h e
   rw [e]at h
   exact h (by simp)
  ·intro h e
   have:=congrArg List.length e
   rw [List.length_mergeSort]at this
   exact h (List.length_eq_zero_iff.1 (by simpa using this))
 rw [h1,dup_iff]
 simp
theorem fam_mono {p q:PI→Bool} (x:Int):∀(l:List PI),(∀y∈l,p y=true→q y=true)→(famL (l.filter p)).count x≤(famL (l.filter q)).count x
 | [],_=>Nat.le_refl _
 | y :: l,hpq=>by
  have ih:=fam_mono x l fun z hz=>hpq z (by simp [hz])
  have cons:∀t:List PI,(famL (y :: t)).count x=(if 0<y.2.2.1∧y.2.2.1=x then 1 else 0)+(famL t).count x:=fun t=>by
   unfold famL
   rw [List.map_cons]
   by_cases h0:0<y.2.2.1
   ·rw [List.filter_cons_of_pos (by simpa using h0),List.count_cons]
    by_cases hx:y.2.2.1=x
    ·have e:(if 0<y.2.2.1∧y.2.2.1=x then 1 else 0)=1:=if_pos ⟨h0,hx⟩
     have e2:(y.2.2.1 == x)=true:=by simpa using hx
     rw [e,e2,if_pos rfl]
     omega
    ·have e:(if 0<y.2.2.1∧y.2.2.1=x then 1 else 0)=0:=if_neg (fun h=>hx h.2)
     have e2:(y.2.2.1 == x)=false:=by simpa using hx
     rw [e,e2]
     simp
   ·rw [List.filter_cons_of_neg (by simpa using h0),if_neg (fun h=>h0 h.1)]
    omega
  cases hp:p y with
  | true =>
   rw [List.filter_cons_of_pos hp,List.filter_cons_of_pos (hpq y (by simp) hp),cons,cons]
   omega
  | false =>
   rw [List.filter_cons_of_neg (by simp [hp])]
   cases hq:q y with
   | true=>rw [List.filter_cons_of_pos hq,cons];omega
   | false=>rw [List.filter_cons_of_neg (by simp [hq])];exact ih
theorem rep_mono {p q:PI→Bool} (l:List PI) (hpq:∀y∈l,p y=true→q y=true) (h:(!(repE (l.filter p)).isEmpty)=true):(!(repE (l.filter q)).isEmpty)=true:=by
 obtain ⟨x,hx⟩:=(rep_iff _).1 h
 exact (rep_iff _).2 ⟨x,Nat.le_trans hx (fam_mono x l hpq)⟩
end Go.Proofs.YtcaahphghaddgaaGreatDoor
set_option linter.unusedSimpArgs false
set_option linter.unusedVariables false
namespace Go.Proofs.YtcaahphghaddgaaGreatDoor
open Go.RowKit Lim
theorem ite_no {c:Bool} {e:Int} {x:Int} (h:(bif c then e else x)=0) (he:e≠0):c=false∧x=0:=by
 cases c with
 | true=>exact absurd h he
 | false=>exact ⟨rfl,h⟩
theorem it_ok {y:PI} {k:Int} (h:itE y k=0):(0≤y.2.2.2.2.1∧y.2.2.2.2.1≤2000)∧(0≤y.2.2.2.2.2.1∧y.2.2.2.2.2.1≤2000)∧(0≤y.2.2.2.2.2.2.1∧y.2.2.2.2.2.2.1≤2000):=by
 unfold itE at h
 obtain ⟨_,h⟩:=ite_no h (by decide)
 obtain ⟨_,h⟩:=ite_no h (by decide)
 obtain ⟨_,h⟩:=ite_no h (by decide)
 obtain ⟨_,h⟩:=ite_no h (by decide)
 obtain ⟨_,h⟩:=ite_no h (by decide)
 obtain ⟨c1,h⟩:=ite_no h (by decide)
 obtain ⟨c2,h⟩:=ite_no h (by decide)
 obtain ⟨c3,h⟩:=ite_no h (by decide)
 obtain ⟨c4,h⟩:=ite_no h (by decide)
 obtain ⟨c5,h⟩:=ite_no h (by decide)
 obtain ⟨c6,h⟩:=ite_no h (by decide)
 simp only [decide_eq_false_iff_not]at c1 c2 c3 c4 c5 c6
 omega
theorem its_ok {k:Int}:∀{pool:List PI},itsE k pool=0→∀y∈pool,itE y k=0
 | [],_,y,hy=>absurd hy List.not_mem_nil
 | x :: xs,h,y,hy=>by
  unfold itsE at h
  by_cases h1:itE x k≠0
  ·rw [if_pos h1]at h;exact absurd h h1
  ·rw [if_neg h1]at h
   rcases List.mem_cons.1 hy with rfl|hy
   ·exact Classical.not_not.1 h1
   ·exact its_ok h y hy
theorem pool_ok {pool:List PI} {k:Int} (h:poolE pool k=0):idsE pool 0=true∧∀y∈pool,itE y k=0:=by
 unfold poolE at h
 split at h
 ·exact absurd h (by decide)
 ·split at h
  ·exact absurd h (by decide)
  ·rename_i h2
   exact ⟨by simpa using h2,its_ok h⟩
theorem one_rng (b:Bool):0≤oneI b∧oneI b≤2000:=by cases b <;> decide
theorem msr_rng {y:PI} {k:Int} (h:itE y k=0) (r:RuleV):0≤msr r y∧msr r y≤2000:=by
 obtain ⟨h1,h2,h3⟩:=it_ok h
 unfold msr
 split
 ·exact one_rng _
 split
 ·exact h1
 split
 ·exact h2
 split
 ·exact h3
 ·exact one_rng _
theorem set_rng (n:Int) (y:PI):0≤setM n y∧setM n y≤2000:=one_rng _
section
variable {pool:List PI} {k:Int} {p q:PI→Bool}
theorem tot_filter (h18:pool.length≤18) {m:PI→Int} (hm:∀y∈pool,0≤m y∧m y≤2000) (p:PI→Bool):totE m (pool.filter p) 0=sumM m (pool.filter p):=by
 have hl:=List.length_filter_le p pool
 rw [tot_sum _ 0 (Int.le_refl _) (by omega) fun y hy=>hm y (List.mem_filter.1 hy).1]
 omega
theorem exc_mono (h18:pool.length≤18) (hit:∀y∈pool,itE y k=0) (hpq:∀y∈pool,p y=true→q y=true) (r:RuleV) (h:excE r (pool.filter p)=true):excE r (pool.filter q)=true:=by
 have hm:∀y∈pool,0≤msr r y∧msr r y≤2000:=fun y hy=>msr_rng (hit y hy) r
 have hs:∀y∈pool,0≤setM r.n y∧setM r.n y≤2000:=fun y _=>set_rng r.n y
 unfold excE at h ⊢
 by_cases h6:r.k=6
 ·rw [if_pos h6]at h ⊢
  rw [tot_filter h18 hs]at h ⊢
  have:=sum_mono (m:=setM r.n) pool (fun y hy=>(hs y hy).1) hpq
  have h:=of_decide_eq_true h
  exact decide_eq_true (by omega)
 rw [if_neg h6]at h ⊢
 by_cases h7:r.k=7
 ·rw [if_pos h7]at h;cases h
 rw [if_neg h7]at h ⊢
 by_cases h8:r.k=8
 ·rw [if_pos h8]at h ⊢
  exact has_mono pool r.n hpq h
 rw [if_neg h8]at h ⊢
 by_cases h9:r.k=9
 ·rw [if_pos h9]at h ⊢
  exact rep_mono pool hpq h
 rw [if_neg h9]at h ⊢
 rw [tot_filter h18 hm]at h ⊢
 have:=sum_mono (m:=msr r) pool (fun y hy=>(hm y hy).1) hpq
 have h:=of_decide_eq_true h
 exact decide_eq_true (by omega)
theorem exc_brk (h18:pool.length≤18) (r:RuleV) (hr:demOk r=true) (hc:chkE r=0) (h:excE r (pool.filter p)=true):brkE r (pool.filter p)=true:=by
 unfold excE at h
 unfold brkE
 by_cases h6:r.k=6
 ·rw [if_pos h6]at h ⊢
  have h:=of_decide_eq_true h
  have hs:setE r.lo r.hi r.n=0:=by
   unfold chkE at hc
   rw [if_neg (by omega),if_neg (by omega),if_pos h6]at hc
   exact hc
  have hb:=(bnds_ok (set_ok hs).2).2
  have h1:(totE (setM r.n) (pool.filter p) 0 != 0)=true:=by rw [bne_iff_ne];omega
  have h2:outB r.lo r.hi (totE (setM r.n) (pool.filter p) 0)=true:=by
   unfold outB
   rw [decide_eq_true h,Bool.or_true]
  rw [h1,h2];rfl
 rw [if_neg h6]at h ⊢
 by_cases h7:r.k=7
 ·rw [if_pos h7]at h;cases h
 rw [if_neg h7]at h ⊢
 by_cases h8:r.k=8
 ·rw [if_pos h8]at h ⊢;exact h
 rw [if_neg h8]at h ⊢
 by_cases h9:r.k=9
 ·rw [if_pos h9]at h ⊢;exact h
 rw [if_neg h9]at h ⊢
 unfold outB
 rw [h,Bool.or_true]
end
theorem idxs_mono {F G:RuleV→Bool}:∀(rs:List RuleV) (i:Nat) (x:Int),(∀r∈rs,F r=true→G r=true)→x∈idxs (rs.map F) i→x∈idxs (rs.map G) i
 | [],_,_,_,h=>h
 | r :: rs,i,x,hFG,h=>by
  rw [List.map_cons]at h ⊢
  unfold idxs at h ⊢
  have ih:=idxs_mono rs (i+1) x fun z hz=>hFG z (by simp [hz])
  cases hF:F r with
  | true =>
   rw [hF]at h
   rw [hFG r (by simp) hF,if_pos rfl]
   rw [if_pos rfl]at h
   rcases List.mem_cons.1 h with rfl|h
   ·simp
   ·exact List.mem_cons_of_mem _ (ih h)
  | false =>
   rw [hF,if_neg (by simp)]at h
   split
   ·exact List.mem_cons_of_mem _ (ih h)
   ·exact ih h
theorem judge_mono {w w' c c':Bool} {F G:RuleV→Bool} {rs:List RuleV} (hw:w=true→w'=true) (hc:c=true→c'=true) (hFG:∀r∈rs,F r=true→G r=true) (x:Int) (h:x∈judgeE w c (rs.map F)):x∈judgeE w' c' (rs.map G):=by
 unfold judgeE at h ⊢
 rcases List.mem_append.1 h with h|h
 ·cases w with
  | false=>simp at h
  | true=>rw [hw rfl];exact List.mem_append.2 (.inl h)
 ·rcases List.mem_append.1 h with h|h
  ·cases c with
   | false=>simp at h
   | true=>rw [hc rfl];exact List.mem_append.2 (.inr (List.mem_append.2 (.inl h)))
  ·exact List.mem_append.2 (.inr (List.mem_append.2 (.inr (idxs_mono rs 0 x hFG h))))
theorem idxs_len:∀(l:List Bool) (i:Nat),(idxs l i).length≤l.length
 | [],_=>by simp [idxs]
 | b :: l,i=>by
  have:=idxs_len l (i+1)
  unfold idxs
  split <;> simp <;> omega
theorem judge_len (w c:Bool) (fs:List Bool):(judgeE w c fs).length≤fs.length+2:=by
 have:=idxs_len fs 0
 unfold judgeE
 cases w <;> cases c <;> simp <;> omega
theorem exd_len {n:Int} {rs:List RuleV} {pool:List PI} {l:List (Int × Int)} {ch:List Int}:(exdE n rs pool l ch).1.length≤rs.length+2:=by
 unfold exdE
 split
 ·simp
 ·split
  ·simp
  ·have:=judge_len (decide (n<(((selE pool ch).1.length:Nat):Int))) (!(conflE l ch).isEmpty) (rs.map fun r=>excE r (selE pool ch).1)
   simpa using this
theorem bro_len {n:Int} {rs:List RuleV} {pool:List PI} {l:List (Int × Int)} {ch:List Int}:(broE n rs pool l ch).1.length≤rs.length+2:=by
 unfold broE
 split
 ·simp
 ·split
  ·simp
  ·have:=judge_len ((((selE pool ch).1.length:Nat):Int) != n) (!(conflE l ch).isEmpty) (rs.map fun r=>brkE r (selE pool ch).1)
   simpa using this
end Go.Proofs.YtcaahphghaddgaaGreatDoor
set_option linter.unusedSimpArgs false
set_option linter.unusedVariables false
namespace Go.Proofs.YtcaahphghaddgaaGreatDoor
open Go.RowKit Lim
theorem task_in {n:Int} {rs:List RuleV} {pool:List PI} {l:List (Int × Int)} (h:taskE n rs pool l=0):specE n rs=0∧poolE pool (rowsN pool)=0:=by
 unfold taskE at h
 by_cases h1:specE n rs≠0
 ·rw [if_pos h1]at h;exact absurd h h1
 rw [if_neg h1]at h
 by_cases h2:poolE pool (rowsN pool)≠0
 ·rw [if_pos h2]at h;exact absurd h h2
 exact ⟨Classical.not_not.1 h1,Classical.not_not.1 h2⟩
theorem spec_dem {n:Int} {rs:List RuleV} (h:specE n rs=0):∀r∈rs,demOk r=true∧chkE r=0:=by
 unfold specE at h
 split at h
 ·exact absurd h (by decide)
 ·split at h
  ·exact absurd h (by decide)
  ·exact rules_chk h
theorem exd_in {n:Int} {rs:List RuleV} {pool:List PI} {l:List (Int × Int)} {ch:List Int} (h:(exdE n rs pool l ch).2=0):taskE n rs pool l=0∧(selE pool ch).2=0:=by
 unfold exdE at h
 by_cases h1:taskE n rs pool l≠0
 ·rw [if_pos h1]at h;exact absurd h h1
 rw [if_neg h1]at h
 by_cases h2:(selE pool ch).2≠0
 ·rw [if_pos h2]at h;exact absurd h h2
 exact ⟨Classical.not_not.1 h1,Classical.not_not.1 h2⟩
theorem sel_filter {pool:List PI} {ch:List Int} (hid:idsE pool 0=true) (h:(selE pool ch).2=0):(selE pool ch).1=pool.filter (fun y=>decide (y.1∈ch))∧∀c∈ch,∃y∈pool,y.1=c:=by
 unfold selE at h ⊢
 cases hr:risesB ch with
 | false=>rw [hr,if_neg (by simp)]at h;exact absurd (show (23:Int)=0 from h) (by decide)
 | true =>
  rw [hr,if_pos rfl]at h
  rw [if_pos rfl]
  obtain ⟨e1,e2⟩:=pick_filter pool 0 ch [] (pickE pool ch []).1 hid hr (by rw [←h])
  exact ⟨by rw [e1,List.nil_append],e2⟩
theorem sel_big {pool:List PI} {ch:List Int} {bt:Nat→Bool} (hid:idsE pool 0=true):(selE pool (bigE bt ch pool 0)).2=0:=by
 unfold selE
 rw [(big_rises hid).1,if_pos rfl]
 exact pick_ok pool _ [] fun c hc=>big_mem hc
theorem grow_in (n:Int) (rs:List RuleV) (pool:List PI) (l:List (Int × Int)) (ch:List Int) (bt:Nat→Bool) (h0:(exdE n rs pool l ch).2=0):(pool.length≤18∧rs.length≤20)∧(exdE n rs pool l (bigE bt ch pool 0)).2=0∧∀k∈(exdE n rs pool l ch).1,k∈(broE n rs pool l ch).1∧k∈(exdE n rs pool l (bigE bt ch pool 0)).1:=by
 obtain ⟨ht,hs⟩:=exd_in h0
 obtain ⟨hsp,hp⟩:=task_in ht
 obtain ⟨hid,hit⟩:=pool_ok hp
 have h18:pool.length≤18:=by
  unfold poolE at hp
  split at hp
  ·exact absurd hp (by decide)
  ·omega
 have hchk:=spec_dem hsp
 obtain ⟨f1,hch⟩:=sel_filter hid hs
 have hs2:=sel_big (ch:=ch) (bt:=bt) hid
 obtain ⟨f2,_⟩:=sel_filter hid hs2
 have hin:∀c∈ch,c∈bigE bt ch pool 0:=fun c hc=>by
  obtain ⟨y,hy,rfl⟩:=hch c hc
  exact big_ch hy hc
 generalize bigE bt ch pool 0=L at *
 have hpq:∀y∈pool,decide (y.1∈ch)=true→decide (y.1∈L)=true:=fun y _ h=>decide_eq_true (hin _ (of_decide_eq_true h))
 have n1:¬taskE n rs pool l≠0:=fun h=>h ht
 have n2:¬(selE pool ch).2≠0:=fun h=>h hs
 have n3:¬(selE pool L).2≠0:=fun h=>h hs2
 have hlen:=len_mono pool hpq
 have hconf:(!(conflE l ch).isEmpty)=true→(!(conflE l L).isEmpty)=true:=fun h=>by
  unfold conflE at h ⊢
  cases hc:((normE l).filter fun p=>decide (p.1∈ch) && decide (p.2∈ch))with
  | nil=>rw [hc]at h;exact absurd h (by decide)
  | cons x xs =>
   have hx:x∈(normE l).filter fun p=>decide (p.1∈ch) && decide (p.2∈ch):=by rw [hc];simp
   obtain ⟨hx1,hx2⟩:=List.mem_filter.1 hx
   obtain ⟨hx3,hx4⟩:=Bool.and_eq_true_iff.1 hx2
   have hy:x∈(normE l).filter fun p=>decide (p.1∈L) && decide (p.2∈L):=List.mem_filter.2 ⟨hx1,Bool.and_eq_true_iff.2 ⟨decide_eq_true (hin _ (of_decide_eq_true hx3)),decide_eq_true (hin _ (of_decide_eq_true hx4))⟩⟩
   cases hd:((normE l).filter fun p=>decide (p.1∈L) && decide (p.2∈L))with
   | nil=>rw [hd]at hy;exact absurd hy List.not_mem_nil
   | cons _ _=>rfl
 refine ⟨⟨h18,(spec_ok hsp).1⟩,?_,fun k hk=>⟨?_,?_⟩⟩
 ·unfold exdE
  rw [if_neg n1,if_neg n3]
 ·unfold exdE at hk
  unfold broE
  rw [if_neg n1,if_neg n2]at hk ⊢
  rw [f1]at hk ⊢
  refine judge_mono (fun h=>?_) (fun h=>h) (fun r hr h=>exc_brk h18 r (hchk r hr).1 (hchk r hr).2 h) k hk
  have h:=of_decide_eq_true h
  rw [bne_iff_ne]
  omega
 ·unfold exdE at hk ⊢
  rw [if_neg n1,if_neg n2]at hk
  rw [if_neg n1,if_neg n3]
  rw [f1]at hk
  rw [f2]
  refine judge_mono (fun h=>?_) hconf (fun r _ h=>exc_mono h18 hit hpq r h) k hk
  have h:=of_decide_eq_true h
  exact decide_eq_true (by omega)
theorem same_err (n:Int) (rs:List RuleV) (pool:List PI) (l:List (Int × Int)) (ch:List Int):(exdE n rs pool l ch).2=(broE n rs pool l ch).2∧((exdE n rs pool l ch).2≠0→(exdE n rs pool l ch).1=[]∧(broE n rs pool l ch).1=[]):=by
 unfold exdE broE
 by_cases h1:taskE n rs pool l≠0
 ·rw [if_pos h1,if_pos h1];exact ⟨rfl,fun _=>⟨rfl,rfl⟩⟩
 rw [if_neg h1,if_neg h1]
 by_cases h2:(selE pool ch).2≠0
 ·rw [if_pos h2,if_pos h2];exact ⟨rfl,fun _=>⟨rfl,rfl⟩⟩
 rw [if_neg h2,if_neg h2]
 exact ⟨rfl,fun h=>absurd rfl h⟩
end Go.Proofs.YtcaahphghaddgaaGreatDoor
set_option linter.unusedSimpArgs false
set_option linter.unusedVariables false
namespace Go.Proofs.YtcaahphghaddgaaGreatDoor
open Go.RowKit Lim
set_option maxHeartbeats 4000000 in
theorem growth_e (n:Int) (rs:List RuleV) (pool:List PI) (l:List (Int × Int)) (ch:List Int) (more:Int) (hr:∀r∈rs,RIn r) (hl:pool.length≤1048576) (hll:l.length≤1048576) (hcl:ch.length≤1048576) (h0:(exdE n rs pool l ch).2≠0):AC 9 [.agg [i64 n,rulesA rs],.sl 9 (pool.map itA),.sl 2 (l.map prA),.sl 1 (ch.map fun z=>i64 z),.lit (.int .u32 more)] (boo true):=by
 have X:=exd_c n rs pool l ch hr hl hll hcl
 have B:=bro_c n rs pool l ch hr hl hll hcl
 have A:=awake_c
 obtain ⟨q1,q2⟩:=same_err n rs pool l ch
 obtain ⟨e1,e2⟩:=q2 h0
 rw [e1]at X
 rw [e2,←q1]at B
 clear q1 q2 e1 e2 hr
 generalize (exdE n rs pool l ch).2=e at *
 have g1:(e != 0)=true:=by simpa using h0
 have g2:(e != e)=false:=by simp
 have X:AC 27 [.agg [i64 n,rulesA rs],.sl 9 (pool.map itA),.sl 2 (l.map prA),.sl 1 (ch.map fun z=>i64 z)] (.tup [.sl 1 [],i64 e]):=X
 have B:AC 22 [.agg [i64 n,rulesA rs],.sl 9 (pool.map itA),.sl 2 (l.map prA),.sl 1 (ch.map fun z=>i64 z)] (.tup [.sl 1 [],i64 e]):=B
 clear h0
 refine ACalls.of ⟨93,[],[]⟩ (fn:=Tryz.f9) Tryz.func9 rfl rfl rfl (by kernel_rfl) (by kernel_rfl) (Nat.le_of_ble_eq_true rfl) ?_
 simp -implicitDefEqProofs only [go_sem,awp_seq,Nat.reduceBEq,Nat.reduceAdd,Nat.reduceLT]
 refine callA_mk X ?_
 simp -implicitDefEqProofs only [go_sem,awp_seq,Nat.reduceBEq,Nat.reduceAdd,Nat.reduceLT]
 refine callA_mk B ?_
 simp -implicitDefEqProofs only [g1,g2,List.length_nil,go_sem,awp_seq,Nat.reduceBEq,Nat.reduceLT,Int.reduceBEq,Int.cast_ofNat_Int]
 refine callA_mk (q:=[]) A ?_
 simp -implicitDefEqProofs only [go_sem,awp_seq,Nat.reduceBEq]
theorem growth_all (n:Int) (rs:List RuleV) (pool:List PI) (l:List (Int × Int)) (ch:List Int) (more:Int) (hr:∀r∈rs,RIn r) (hl:pool.length≤1048576) (hll:l.length≤1048576) (hcl:ch.length≤1048576):AC 9 [.agg [i64 n,rulesA rs],.sl 9 (pool.map itA),.sl 2 (l.map prA),.sl 1 (ch.map fun z=>i64 z),.lit (.int .u32 more)] (boo true):=by
 by_cases h0:(exdE n rs pool l ch).2=0
 ·obtain ⟨⟨k1,k2⟩,k3,k4⟩:=grow_in n rs pool l ch (bitE more) h0
  have b1:=exd_len (n:=n) (rs:=rs) (pool:=pool) (l:=l) (ch:=ch)
  have b2:=bro_len (n:=n) (rs:=rs) (pool:=pool) (l:=l) (ch:=ch)
  have b3:=exd_len (n:=n) (rs:=rs) (pool:=pool) (l:=l) (ch:=bigE (bitE more) ch pool 0)
  have b4:=big_len (bt:=bitE more) (ch:=ch) (pool:=pool) (i:=0)
  exact growth_c n rs pool l ch more hr (by omega) hll hcl h0 ((same_err n rs pool l ch).1 ▸ h0) k3 k4 (by omega) (by omega) (by omega) (by omega)
 ·exact growth_e n rs pool l ch more hr hl hll hcl h0
abbrev shRu:SH:=.cons shI (.cons shI (.cons shI (.cons shI (.cons .str .nil))))
abbrev shSp:SH:=.cons shI (.cons (.sl shRu) .nil)
abbrev shPr:SH:=.cons shI (.cons shI .nil)
theorem i64_z {z:Int} (h:IntKind.min .i64≤z∧z≤IntKind.max .i64):in64Z z:=by simpa [IntKind.min,IntKind.max,IntKind.signed,IntKind.bits]using h
def toRu (x:Int × Int × Int × Int × List UInt8):RuleV:=⟨x.1,x.2.1,x.2.2.1,x.2.2.2.1,x.2.2.2.2⟩
theorem specs_den (n:Int) (rs:List (Int × Int × Int × Int × List UInt8)):SH.top shSp (eraL (vtOf shSp) ((n,rs):(vtOf shSp).den))=.agg [i64 n,rulesA (rs.map toRu)]:=by
 have e:(rs.map toRu).map ruleA=rs.map (fun x=>AV.agg [i64 x.1,i64 x.2.1,i64 x.2.2.1,i64 x.2.2.2.1,str x.2.2.2.2]):=by rw [List.map_map];rfl
 unfold rulesA
 rw [e]
 rfl
theorem ac_swap {f:FuncId} {a a' b b':AV} {r:List AV} {v:AV} (h1:a'=a) (h2:b'=b) (h:AC f (a :: b :: r) v):AC f (a' :: b' :: r) v:=by
 rw [h1,h2]
 exact h
theorem growth.law (as':List AV) (h:OkA 1048576 [shSp,.sl shPI,.sl shPr,.sl shI,.int .u32] as'):AC 9 as' (boo true):=by
 obtain ⟨a,r1,rfl,h1,q1⟩:=okA_more h
 obtain ⟨b,r2,rfl,h2,q2⟩:=okA_more q1
 obtain ⟨c,r3,rfl,h3,q3⟩:=okA_more q2
 obtain ⟨d,r4,rfl,h4,q4⟩:=okA_more q3
 obtain ⟨e,rfl,h5⟩:=okA_one q4
 obtain ⟨⟨n,rs⟩,rfl,hn,hl,hr⟩:=h1.den
 obtain ⟨pool,rfl,hpl,_⟩:=h2.den
 obtain ⟨l,rfl,hll,_⟩:=h3.den
 obtain ⟨ch,rfl,hcl,_⟩:=h4.den
 obtain ⟨more,rfl,_⟩:=h5.den
 have:=growth_all n (rs.map toRu) pool l ch more (fun r hr'=>by
  obtain ⟨x,hx,rfl⟩:=List.mem_map.1 hr'
  obtain ⟨_,q2,q3,q4,q5⟩:=hr x hx
  exact ⟨i64_z q2,i64_z q3,i64_z q4,q5⟩) hpl hll hcl
 have e2:SH.top (.sl shPI) (eraL (vtOf (.sl shPI)) (pool:(vtOf (.sl shPI)).den))=.sl 9 (List.map itA pool):=vP_av pool
 exact ac_swap (specs_den n rs) e2 this
end Go.Proofs.YtcaahphghaddgaaGreatDoor
