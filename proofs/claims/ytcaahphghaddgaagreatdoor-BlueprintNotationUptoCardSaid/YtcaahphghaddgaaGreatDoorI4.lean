import Derived.Test.YtcaahphghaddgaaGreatDoorI3
/- Texts merged: Qe WhQ. -/
set_option linter.unusedSimpArgs false
set_option linter.unusedVariables false
namespace Go.Proofs.YtcaahphghaddgaaGreatDoor
open Go.RowKit Lim
noncomputable section
noncomputable def primA:List (Nat × PrimK):=(17,kMemo probA probR) :: (10,kPrint 20) :: primKL
theorem primA_ok:∀p∈primA,∀args r,p.2 args=some r→AT p.1 args r :=
 List.forall_mem_cons.2 ⟨fun _ _ h=>kMemo_ok (KR_calls prob_k) h,List.forall_mem_cons.2 ⟨fun _ _=>kPrint_ok,primKL_ok⟩⟩
theorem awake_k:KRp primA 30 14 []=some (.lit (.bool true)):=by kernel_rfl
theorem awake_c:AC 14 [] (boo true):=(KRp_calls primA_ok awake_k).ofT
end
end Go.Proofs.YtcaahphghaddgaaGreatDoor
set_option linter.unusedSimpArgs false
set_option linter.unusedVariables false
namespace Go.Proofs.YtcaahphghaddgaaGreatDoor
open Go.RowKit Lim
theorem lineT_short (r:RuleV) (hr:RIn r) (hc:r.k=1→r.code.length≤24):(lineT r).length≤100:=by
 have a1:=Lib.itoa_length_le _ hr.n.1 hr.n.2
 have a2:=Lib.itoa_length_le _ hr.lo.1 hr.lo.2
 have a3:=Lib.itoa_length_le _ hr.hi.1 hr.hi.2
 unfold lineT
 split
 ·rename_i h
  have:=hc h
  rw [text2]
  simp only [List.length_append,List.length_cons,List.length_nil]
  omega
 repeat' split
 all_goals first
  | (rw [text0];simp only [List.length_cons,List.length_nil];omega)
  | (rw [text1];simp only [List.length_append,List.length_cons,List.length_nil];omega)
  | (rw [text2];simp only [List.length_append,List.length_cons,List.length_nil];omega)
  | (rw [text3];simp only [List.length_append,List.length_cons,List.length_nil];omega)
theorem specT_short {n:Int} {rs:List RuleV} (hn:in64Z n) (hr:∀r∈rs,RIn r) (h:specE n rs=0):(specT n rs).length≤1048576:=by
 have hl:=(spec_ok h).1
 have hs:∀r∈rs,(lineT r).length≤100:=fun r hr'=>by
  refine lineT_short r (hr r hr') fun hk=>?_
  have hc:chkE r=0:=by
   unfold specE at h
   split at h
   ·exact absurd h (by decide)
   ·split at h
    ·exact absurd h (by decide)
    ·exact (rules_chk h r hr').2
  have hc2:contE r.lo r.hi r.code=0:=by
   unfold chkE at hc
   rw [if_pos hk]at hc
   exact hc
  have hb:=(cont_ok hc2).1
  unfold contentB at hb
  have:=(Bool.and_eq_true_iff.1 hb).1
  simp at this
  omega
 have h2:=wrt_flat 100 (rs.map lineT) (fun l hl=>by obtain ⟨r,hr1,rfl⟩:=List.mem_map.1 hl;exact hs r hr1)
 have h3:(rs.map lineT).length*(100+1)≤20*(100+1):=Nat.mul_le_mul_right _ (by simpa using hl)
 have h4:=Lib.itoa_length_le _ hn.1 hn.2
 unfold specT wrt
 rw [text1]
 simp only [List.length_append,List.length_cons,List.length_nil]
 omega
theorem RLe.rin {m:Nat} {r:RuleV} (h:RLe m r) (hm:m≤1048576):RIn r:=⟨h.n,h.lo,h.hi,Nat.le_trans h.code hm⟩
theorem not_second {t:List UInt8} (ht:t.length≤1048576):∃(n:Int) (rs:List RuleV) (l e:Int),AC 20 [str t] (.tup [.agg [i64 n,rulesA rs],i64 l,i64 e])∧(e=0∧l=0∧AT 10 [.agg [i64 n,rulesA rs]] (.tup [str t,i64 0])∨e≠0∧1≤l∧n=0∧rs=[]):=by
 refine ⟨_,_,_,_,parse_c t ht,?_⟩
 by_cases h:(parseE t).2.2=0
 ·obtain ⟨h1,h2,h3,h4,h5⟩:=parse_back h
  have P:=bprint_c _ _ h4 (fun r hr=>(h5 r hr).rin ht) h2
  rw [h3]at P
  exact .inl ⟨h,h1,P⟩
 ·obtain ⟨h1,h2⟩:=parse_err h
  exact .inr ⟨h,h1,congrArg Prod.fst h2,congrArg Prod.snd h2⟩
set_option maxHeartbeats 4000000 in
theorem notat_c (n:Int) (rs:List RuleV) (t:List UInt8) (hn:in64Z n) (hr:∀r∈rs,RIn r) (hl:rs.length≤1048576) (ht:t.length≤1048576):AC 6 [.agg [i64 n,rulesA rs],str t] (boo true):=by
 have V:=bvalid_c n rs
 have A:=awake_c
 have SM:=same_c n rs hl
 have S0:=same_c 0 [] (by simp)
 obtain ⟨n2,rs2,l2,e2,P2,hres⟩:=not_second ht
 have tt:(t == t)=true:=beq_self_eq_true t
 have z0:((0:Int) == 0)=true:=rfl
 have z1:((0:Int) != 0)=false:=rfl
 by_cases h0:specE n rs=0
 ·have P:=bprint_c n rs hn hr h0
  have Q:=parse_c (specT n rs) (specT_short hn hr h0)
  rw [parse_print h0]at Q
  rw [h0]at V
  generalize specT n rs=s at *
  rcases hres with ⟨rfl,rfl,W⟩|⟨he,hl2,rfl,rfl⟩
  ·refine ACalls.of ⟨15,[],[]⟩ (fn:=Tryz.f6) Tryz.func6 rfl rfl rfl (by kernel_rfl) (by kernel_rfl) (Nat.le_of_ble_eq_true rfl) ?_
   simp (maxSteps:=1000000) -implicitDefEqProofs only [go_sem,awp_seq,Nat.reduceBEq,Nat.reduceAdd,Nat.reduceLT]
   refine callA_t P ?_
   simp (maxSteps:=1000000) -implicitDefEqProofs only [go_sem,awp_seq,Nat.reduceBEq,Nat.reduceAdd,Nat.reduceLeDiff,Nat.reduceLT]
   refine callA_t V ?_
   simp (maxSteps:=1000000) -implicitDefEqProofs only [z0,z1,go_sem,awp_seq,Nat.reduceBEq,Nat.reduceLeDiff,Nat.reduceLT]
   refine callA_mk Q ?_
   simp (maxSteps:=1000000) -implicitDefEqProofs only [z0,z1,go_sem,awp_seq,Nat.reduceBEq,Nat.reduceAdd,Nat.reduceLeDiff,Nat.reduceLT,Nat.reduceEqDiff]
   refine callA_t SM ?_
   simp (maxSteps:=1000000) -implicitDefEqProofs only [z0,z1,Bool.not_true,go_sem,awp_seq,Nat.reduceBEq,Nat.reduceLeDiff,Nat.reduceLT]
   refine callA_mk P2 ?_
   simp (maxSteps:=1000000) -implicitDefEqProofs only [z0,z1,go_sem,awp_seq,Nat.reduceBEq,Nat.reduceAdd,Nat.reduceLeDiff,Nat.reduceLT,Nat.reduceEqDiff]
   refine callA_t W ?_
   simp (maxSteps:=1000000) -implicitDefEqProofs only [z0,z1,tt,toList_bs,go_sem,awp_seq,Nat.reduceBEq,Nat.reduceLeDiff,Nat.reduceLT]
   refine callA_mk (q:=[]) A ?_
   simp (maxSteps:=1000000) -implicitDefEqProofs only [go_sem,awp_seq,Nat.reduceBEq]
  ·have g1:(e2 != 0)=true:=by simpa using he
   have g2:decide ((1:Int)≤l2)=true:=by simpa using hl2
   refine ACalls.of ⟨15,[],[]⟩ (fn:=Tryz.f6) Tryz.func6 rfl rfl rfl (by kernel_rfl) (by kernel_rfl) (Nat.le_of_ble_eq_true rfl) ?_
   simp (maxSteps:=1000000) -implicitDefEqProofs only [go_sem,awp_seq,Nat.reduceBEq,Nat.reduceAdd,Nat.reduceLT]
   refine callA_t P ?_
   simp (maxSteps:=1000000) -implicitDefEqProofs only [go_sem,awp_seq,Nat.reduceBEq,Nat.reduceAdd,Nat.reduceLeDiff,Nat.reduceLT]
   refine callA_t V ?_
   simp (maxSteps:=1000000) -implicitDefEqProofs only [z0,z1,go_sem,awp_seq,Nat.reduceBEq,Nat.reduceLeDiff,Nat.reduceLT]
   refine callA_mk Q ?_
   simp (maxSteps:=1000000) -implicitDefEqProofs only [z0,z1,go_sem,awp_seq,Nat.reduceBEq,Nat.reduceAdd,Nat.reduceLeDiff,Nat.reduceLT,Nat.reduceEqDiff]
   refine callA_t SM ?_
   simp (maxSteps:=1000000) -implicitDefEqProofs only [z0,z1,Bool.not_true,go_sem,awp_seq,Nat.reduceBEq,Nat.reduceLeDiff,Nat.reduceLT]
   refine callA_mk P2 ?_
   simp (maxSteps:=1000000) -implicitDefEqProofs only [g1,g2,go_sem,awp_seq,Nat.reduceBEq,Nat.reduceAdd,Nat.reduceLeDiff,Nat.reduceLT,Nat.reduceEqDiff]
   refine callA_t S0 ?_
   simp (maxSteps:=1000000) -implicitDefEqProofs only [go_sem,awp_seq,Nat.reduceBEq]
   refine callA_mk (q:=[]) A ?_
   simp (maxSteps:=1000000) -implicitDefEqProofs only [go_sem,awp_seq,Nat.reduceBEq]
 ·have P:=bprint_e n rs h0
  have g0:(specE n rs == 0)=false:=by simpa using h0
  have ge:(specE n rs != specE n rs)=false:=by simp
  generalize specE n rs=e at *
  rcases hres with ⟨rfl,rfl,W⟩|⟨he,hl2,rfl,rfl⟩
  ·refine ACalls.of ⟨15,[],[]⟩ (fn:=Tryz.f6) Tryz.func6 rfl rfl rfl (by kernel_rfl) (by kernel_rfl) (Nat.le_of_ble_eq_true rfl) ?_
   simp (maxSteps:=1000000) -implicitDefEqProofs only [go_sem,awp_seq,Nat.reduceBEq,Nat.reduceAdd,Nat.reduceLT]
   refine callA_t P ?_
   simp (maxSteps:=1000000) -implicitDefEqProofs only [go_sem,awp_seq,Nat.reduceBEq,Nat.reduceAdd,Nat.reduceLeDiff,Nat.reduceLT]
   refine callA_t V ?_
   simp (maxSteps:=1000000) -implicitDefEqProofs only [g0,ge,go_sem,awp_seq,Nat.reduceBEq,Nat.reduceLeDiff,Nat.reduceLT]
   refine callA_mk P2 ?_
   simp (maxSteps:=1000000) -implicitDefEqProofs only [z0,z1,go_sem,awp_seq,Nat.reduceBEq,Nat.reduceAdd,Nat.reduceLeDiff,Nat.reduceLT,Nat.reduceEqDiff]
   refine callA_t W ?_
   simp (maxSteps:=1000000) -implicitDefEqProofs only [z0,z1,tt,toList_bs,go_sem,awp_seq,Nat.reduceBEq,Nat.reduceLeDiff,Nat.reduceLT]
   refine callA_mk (q:=[]) A ?_
   simp (maxSteps:=1000000) -implicitDefEqProofs only [go_sem,awp_seq,Nat.reduceBEq]
  ·have g1:(e2 != 0)=true:=by simpa using he
   have g2:decide ((1:Int)≤l2)=true:=by simpa using hl2
   refine ACalls.of ⟨15,[],[]⟩ (fn:=Tryz.f6) Tryz.func6 rfl rfl rfl (by kernel_rfl) (by kernel_rfl) (Nat.le_of_ble_eq_true rfl) ?_
   simp (maxSteps:=1000000) -implicitDefEqProofs only [go_sem,awp_seq,Nat.reduceBEq,Nat.reduceAdd,Nat.reduceLT]
   refine callA_t P ?_
   simp (maxSteps:=1000000) -implicitDefEqProofs only [go_sem,awp_seq,Nat.reduceBEq,Nat.reduceAdd,Nat.reduceLeDiff,Nat.reduceLT]
   refine callA_t V ?_
   simp (maxSteps:=1000000) -implicitDefEqProofs only [g0,ge,go_sem,awp_seq,Nat.reduceBEq,Nat.reduceLeDiff,Nat.reduceLT]
   refine callA_mk P2 ?_
   simp (maxSteps:=1000000) -implicitDefEqProofs only [g1,g2,go_sem,awp_seq,Nat.reduceBEq,Nat.reduceAdd,Nat.reduceLeDiff,Nat.reduceLT,Nat.reduceEqDiff]
   refine callA_t S0 ?_
   simp (maxSteps:=1000000) -implicitDefEqProofs only [go_sem,awp_seq,Nat.reduceBEq]
   refine callA_mk (q:=[]) A ?_
   simp (maxSteps:=1000000) -implicitDefEqProofs only [go_sem,awp_seq,Nat.reduceBEq]
abbrev shRu:SH:=.cons shI (.cons shI (.cons shI (.cons shI (.cons .str .nil))))
abbrev shSp:SH:=.cons shI (.cons (.sl shRu) .nil)
theorem i64_z {z:Int} (h:IntKind.min .i64≤z∧z≤IntKind.max .i64):in64Z z:=by simpa [IntKind.min,IntKind.max,IntKind.signed,IntKind.bits]using h
def toRu (x:Int × Int × Int × Int × List UInt8):RuleV:=⟨x.1,x.2.1,x.2.2.1,x.2.2.2.1,x.2.2.2.2⟩
theorem specs_den (n:Int) (rs:List (Int × Int × Int × Int × List UInt8)):SH.top shSp (eraL (vtOf shSp) ((n,rs):(vtOf shSp).den))=.agg [i64 n,rulesA (rs.map toRu)]:=by
 have e:(rs.map toRu).map ruleA=rs.map (fun x=>AV.agg [i64 x.1,i64 x.2.1,i64 x.2.2.1,i64 x.2.2.2.1,str x.2.2.2.2]):=by rw [List.map_map];rfl
 unfold rulesA
 rw [e]
 rfl
theorem len_map_le {rs:List (Int × Int × Int × Int × List UInt8)} (h:rs.length≤1048576):(rs.map toRu).length≤1048576:=by
 rw [List.length_map]
 exact h
theorem notat.law (as':List AV) (h:OkA 1048576 [shSp,.str] as'):AC 6 as' (boo true):=by
 obtain ⟨a,as2,rfl,h1,h2⟩:=okA_more h
 obtain ⟨b,rfl,h3⟩:=okA_one h2
 obtain ⟨⟨n,rs⟩,rfl,hn,hl,hr⟩:=h1.den
 obtain ⟨t,rfl,ht⟩:=h3.den
 have hn:=i64_z hn
 have:=notat_c n (rs.map toRu) t hn (fun r hr'=>by
  obtain ⟨x,hx,rfl⟩:=List.mem_map.1 hr'
  obtain ⟨_,q2,q3,q4,q5⟩:=hr x hx
  exact ⟨i64_z q2,i64_z q3,i64_z q4,q5⟩) (len_map_le hl) ht
 exact cast (congrArg (fun a=>AC 6 [a,str t] (boo true)) (specs_den n rs).symm) this
end Go.Proofs.YtcaahphghaddgaaGreatDoor
