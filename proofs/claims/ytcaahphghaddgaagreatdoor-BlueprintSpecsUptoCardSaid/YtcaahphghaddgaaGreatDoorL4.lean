import Derived.Test.YtcaahphghaddgaaGreatDoorL3
/- Texts merged: Qe Wu7. -/
set_option linter.unusedSimpArgs false
set_option linter.unusedVariables false
namespace Go.Proofs.YtcaahphghaddgaaGreatDoor
open Go.RowKit Lim
noncomputable section
noncomputable def primA:List (Nat × PrimK):=(17,kMemo probA probR) :: (10,kPrint 20) :: primKL
theorem primA_ok:∀p∈primA,∀args r,p.2 args=some r→AT p.1 args r :=
 List.forall_mem_cons.2 ⟨fun _ _ h=>kMemo_ok (KR_calls prob_k) h,List.forall_mem_cons.2 ⟨fun _ _=>kPrint_ok,primKL_ok⟩⟩
theorem awake_k:KRp primA 30 14 []=some (.lit (.bool true)):=by kernel_rfl
theorem awake_c:AC 14 [] (boo true):=(KRp_calls primA_ok awake_k).ofT
end
end Go.Proofs.YtcaahphghaddgaaGreatDoor
set_option linter.unusedSimpArgs false
set_option linter.unusedVariables false
namespace Go.Proofs.YtcaahphghaddgaaGreatDoor
open Go.RowKit Lim
theorem print33_e (n:Int) (rs:List RuleV) (h0:specE n rs≠0):AT 11 [.agg [i64 n,rulesA rs]] (.tup [str [],i64 (specE n rs)]):=by
 have V:=valid33_c n rs
 have g:(specE n rs != 0)=true:=by simpa using h0
 generalize specE n rs=e at *
 refine ACalls.of ⟨26,[],[]⟩ (fn:=Tryz.f11) Tryz.func11 rfl rfl rfl (by kernel_rfl) (by kernel_rfl) (Nat.le_of_ble_eq_true rfl) ?_
 simp (maxSteps:=1000000) -implicitDefEqProofs only [go_sem,awp_seq,Nat.reduceBNe,Nat.reduceBEq,Nat.reduceAdd,Nat.reduceSub,Nat.reduceMul,Nat.reduceLeDiff,Nat.reduceLT,Nat.reduceEqDiff,Nat.reduceBneDiff,Int.reduceLE,Int.reduceLT,Int.reduceToNat,Int.reduceBEq,Int.reduceBNe,Int.reduceAdd,Int.reduceSub,Int.cast_ofNat_Int]
 refine callA_tt V ?_
 simp (maxSteps:=1000000) -implicitDefEqProofs only [g,go_sem,awp_seq,Nat.reduceBNe,Nat.reduceBEq,Nat.reduceAdd,Nat.reduceSub,Nat.reduceMul,Nat.reduceLeDiff,Nat.reduceLT,Nat.reduceEqDiff,Nat.reduceBneDiff,Int.reduceLE,Int.reduceLT,Int.reduceToNat,Int.reduceBEq,Int.reduceBNe,Int.reduceAdd,Int.reduceSub,Int.cast_ofNat_Int]
 rfl
theorem specs_c (n:Int) (rs:List RuleV) (hn:in64Z n) (hr:∀r∈rs,RIn r):AC 3 [.agg [i64 n,rulesA rs]] (boo true):=by
 have V:=bvalid_c n rs
 have V2:=valid33_c n rs
 have PQ:∃t:List UInt8,AC 10 [.agg [i64 n,rulesA rs]] (.tup [str t,i64 (specE n rs)])∧AC 11 [.agg [i64 n,rulesA rs]] (.tup [str t,i64 (specE n rs)]):=by
  by_cases h0:specE n rs=0
  ·rw [h0]
   exact ⟨specT n rs,(bprint_c n rs hn hr h0).ofT,print33_c n rs hn hr h0⟩
  ·exact ⟨[],(bprint_e n rs h0).ofT,(print33_e n rs h0).ofT⟩
 obtain ⟨t,P,Q⟩:=PQ
 have A:=awake_c
 generalize specE n rs=e at *
 have tt:(t == t)=true:=beq_self_eq_true t
 have ee:(e == e)=true:=beq_self_eq_true e
 refine ACalls.of ⟨7,[],[]⟩ (fn:=Tryz.f3) Tryz.func3 rfl rfl rfl (by kernel_rfl) (by kernel_rfl) (Nat.le_of_ble_eq_true rfl) ?_
 simp (maxSteps:=1000000) -implicitDefEqProofs only [go_sem,awp_seq,Nat.reduceBNe,Nat.reduceBEq,Nat.reduceAdd,Nat.reduceSub,Nat.reduceMul,Nat.reduceLeDiff,Nat.reduceLT,Nat.reduceEqDiff,Nat.reduceBneDiff,Int.reduceLE,Int.reduceLT,Int.reduceToNat,Int.reduceBEq,Int.reduceBNe,Int.reduceAdd,Int.reduceSub,Int.cast_ofNat_Int]
 refine callA_mk P ?_
 simp (maxSteps:=1000000) -implicitDefEqProofs only [go_sem,awp_seq,Nat.reduceBNe,Nat.reduceBEq,Nat.reduceAdd,Nat.reduceSub,Nat.reduceMul,Nat.reduceLeDiff,Nat.reduceLT,Nat.reduceEqDiff,Nat.reduceBneDiff,Int.reduceLE,Int.reduceLT,Int.reduceToNat,Int.reduceBEq,Int.reduceBNe,Int.reduceAdd,Int.reduceSub,Int.cast_ofNat_Int]
 refine callA_mk Q ?_
 simp (maxSteps:=1000000) -implicitDefEqProofs only [go_sem,awp_seq,Nat.reduceBNe,Nat.reduceBEq,Nat.reduceAdd,Nat.reduceSub,Nat.reduceMul,Nat.reduceLeDiff,Nat.reduceLT,Nat.reduceEqDiff,Nat.reduceBneDiff,Int.reduceLE,Int.reduceLT,Int.reduceToNat,Int.reduceBEq,Int.reduceBNe,Int.reduceAdd,Int.reduceSub,Int.cast_ofNat_Int]
 refine callA_t V ?_
 simp (maxSteps:=1000000) -implicitDefEqProofs only [go_sem,awp_seq,Nat.reduceBNe,Nat.reduceBEq,Nat.reduceAdd,Nat.reduceSub,Nat.reduceMul,Nat.reduceLeDiff,Nat.reduceLT,Nat.reduceEqDiff,Nat.reduceBneDiff,Int.reduceLE,Int.reduceLT,Int.reduceToNat,Int.reduceBEq,Int.reduceBNe,Int.reduceAdd,Int.reduceSub,Int.cast_ofNat_Int]
 refine callA_t V2 ?_
 simp (maxSteps:=1000000) -implicitDefEqProofs only [ee,tt,toList_bs,go_sem,awp_seq,Nat.reduceBNe,Nat.reduceBEq,Nat.reduceAdd,Nat.reduceSub,Nat.reduceMul,Nat.reduceLeDiff,Nat.reduceLT,Nat.reduceEqDiff,Nat.reduceBneDiff,Int.reduceLE,Int.reduceLT,Int.reduceToNat,Int.reduceBEq,Int.reduceBNe,Int.reduceAdd,Int.reduceSub,Int.cast_ofNat_Int]
 refine callA_mk (q:=[]) A ?_
 simp (maxSteps:=1000000) -implicitDefEqProofs only [go_sem,awp_seq,Nat.reduceBNe,Nat.reduceBEq,Nat.reduceAdd,Nat.reduceSub,Nat.reduceMul,Nat.reduceLeDiff,Nat.reduceLT,Nat.reduceEqDiff,Nat.reduceBneDiff,Int.reduceLE,Int.reduceLT,Int.reduceToNat,Int.reduceBEq,Int.reduceBNe,Int.reduceAdd,Int.reduceSub,Int.cast_ofNat_Int]
abbrev shRu:SH:=.cons shI (.cons shI (.cons shI (.cons shI (.cons .str .nil))))
abbrev shSp:SH:=.cons shI (.cons (.sl shRu) .nil)
theorem i64_z {z:Int} (h:IntKind.min .i64≤z∧z≤IntKind.max .i64):in64Z z:=by simpa [IntKind.min,IntKind.max,IntKind.signed,IntKind.bits]using h
def toRu (x:Int × Int × Int × Int × List UInt8):RuleV:=⟨x.1,x.2.1,x.2.2.1,x.2.2.2.1,x.2.2.2.2⟩
theorem specs_den (n:Int) (rs:List (Int × Int × Int × Int × List UInt8)):SH.top shSp (eraL (vtOf shSp) ((n,rs):(vtOf shSp).den))=.agg [i64 n,rulesA (rs.map toRu)]:=by
 have e:(rs.map toRu).map ruleA=rs.map (fun x=>AV.agg [i64 x.1,i64 x.2.1,i64 x.2.2.1,i64 x.2.2.2.1,str x.2.2.2.2]):=by rw [List.map_map];rfl
 unfold rulesA
 rw [e]
 rfl
theorem specs.law (as':List AV) (h:OkA 1048576 [shSp] as'):AC 3 as' (boo true):=by
 obtain ⟨a,rfl,h1⟩:=okA_one h
 obtain ⟨⟨n,rs⟩,rfl,hn,hl,hr⟩:=h1.den
 have hn:=i64_z hn
 have:=specs_c n (rs.map toRu) hn (fun r hr'=>by
  obtain ⟨x,hx,rfl⟩:=List.mem_map.1 hr'
  obtain ⟨_,q2,q3,q4,q5⟩:=hr x hx
  exact ⟨i64_z q2,i64_z q3,i64_z q4,q5⟩)
 exact cast (congrArg (fun a=>AC 3 [a] (boo true)) (specs_den n rs).symm) this
end Go.Proofs.YtcaahphghaddgaaGreatDoor
