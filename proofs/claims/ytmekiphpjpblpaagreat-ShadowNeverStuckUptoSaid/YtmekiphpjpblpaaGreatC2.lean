import Derived.Test.YtmekiphpjpblpaaGreatC1
import Derived.Deep.RegionWith
import Derived.Maps.AppendAt
import Derived.Deep.DeepCutAuto
import Derived.Deep.RegionHeld3
/- Texts merged: Wi7 Wj1 Wj2 Wj3 Wi8 Wi9 Rh Ul Ri Rj Pa WpB WpC WpD Pe Pf WpF Pg Wu1 Wu2 Wu3 Wj4 Wj5 Wj6 Wj7 Rl Wj8 Rn Sc Sd WpE Pi Pl. -/
set_option linter.unusedSimpArgs false
set_option linter.unusedVariables false
set_option maxHeartbeats 40000000
set_option maxRecDepth 100000
namespace Go.Proofs.YtmekiphpjpblpaaGreat
open Go.RowKit Lim
def idxs:List Bool→Nat→List Int
 | [],_=>[]
 | b :: l,i=>if b then (i:Int) :: idxs l (i+1) else idxs l (i+1)
def judgeE (wrong conf:Bool) (fs:List Bool):List Int:=(if wrong then [-1] else []) ++ ((if conf then [-2] else []) ++ idxs fs 0)
section
variable {n:Int} {rs:List RuleV} {prs chosen:AV} {f:FuncId} {pre post:List AV} {cs:List (Int × Int)} {ds:List AV} {fs:List Bool}
theorem judge_ff (hl:ds.length≤1000) (hfl:fs.length=ds.length) (h1:∀d∈ds,d.one=true) (h2:∀d∈ds,normA Go.Proofs.YtmekiphpjpblpaaGreat.tab 76 d=d) (CF:AT 60 [prs,chosen] (.sl 2 (cs.map prA))) (hcs:cs.isEmpty=true) (hp:∃k l,prs=.sl k l) (hch:∃k l,chosen=.sl k l) (DM:AT 61 [.agg [i64 n,rulesA rs]] (.sl 1 ds)) (hnl:(AV.fn (.func f) pre post).noLimb=true)
  (hf:∀i (hi:i<ds.length) (hi2:i<fs.length),AT f (pre ++ ds[i] :: post) (boo fs[i])):AT 43 [.agg [i64 n,rulesA rs],prs,chosen,boo false,.fn (.func f) pre post] (.sl 1 ((judgeE false false fs).map fun z=>i64 z)):=by
 obtain ⟨k1,l1,rfl⟩:=hp
 obtain ⟨k2,l2,rfl⟩:=hch
 obtain ⟨R,hR⟩:∃R,R=judgeE false false fs:=⟨_,rfl⟩
 rw [←hR]
 have hR:R=[] ++ idxs fs 0:=hR
 have c0:decide ((0:Int)<(cs.length:Nat))=false:=by cases cs <;> simp at hcs ⊢
 refine ACalls.of ⟨30,[],[]⟩ (fn:=Tryz.f43) Tryz.func43 rfl rfl rfl (by kernel_rfl) (by kernel_rfl) (Nat.le_of_ble_eq_true rfl) ?_
 simp (maxSteps:=1000000) -implicitDefEqProofs only [hnl,go_sem,awp_seq,Nat.reduceBEq,Nat.reduceAdd,Nat.reduceLT]
 refine callA_tt CF ?_
 simp (maxSteps:=1000000) -implicitDefEqProofs only [c0,List.length_map,go_sem,awp_seq,Nat.reduceBEq,Nat.reduceAdd,Nat.reduceLT]
 refine callA_tt DM ?_
 simp (maxSteps:=1000000) -implicitDefEqProofs only [go_sem,awp_seq,Nat.reduceBEq]
 refine loop_mk (α:={x:Nat × List Int × Bool // x.1≤ds.length∧(x.2.2=false→x.2.1=[])∧R=x.2.1 ++ idxs (fs.drop x.1) x.1∧x.2.1.length≤x.1+2}) (fun x=>[(4,some (.av (.fn (.func f) pre post))),(10,some (.av (.lit (.slice none 0 0)))),(11,some (bif x.1.2.2 then .osl 40 1 0 x.1.2.1.length else .av (.lit (.slice none 0 0)))),(27,some (.av (.sl 1 ds))),(28,some (.av (i64 (ds.length:Nat)))),(29,some (.av (i64 (x.1.1:Nat))))]) (fun _=>[]) (fun x=>bif x.1.2.2 then [(40,.row 3 1 (x.1.2.1.map fun z=>i64 z))] else []) (fun x=>ds.length-x.1.1) ⟨(0,[],false),Nat.zero_le _,fun _=>rfl,hR,by decide⟩ ?_ ?_
 ·simp (maxSteps:=1000000) -implicitDefEqProofs only [cond_false,go_sem,awp_seq,Nat.reduceBEq,Int.cast_ofNat_Int]
 clear hR
 rintro ⟨⟨k,acc,fl⟩,hk,h0,hR,hal⟩
 dsimp only at hk h0 hR hal
 by_cases hlt:k<ds.length
 ·have g1:decide (((k:Nat):Int)<(ds.length:Nat))=true:=by simp;omega
  have e1:ds[k]? = some ds[k]:=List.getElem?_eq_getElem hlt
  have w1:IntKind.i64.wrap ((k:Int)+1)=((k+1:Nat):Int):=by rw [IntWalk.i64_in _ (by omega)];omega
  have F:=hf k hlt (by omega)
  have o1:=h1 _ (List.getElem_mem hlt)
  have o4:=AV.cells_one o1
  have o2:=h2 _ (List.getElem_mem hlt)
  rw [List.drop_eq_getElem_cons (show k<fs.length by omega)]at hR
  generalize ds[k]=d at *
  generalize fs[k]'(by omega)=b at *
  unfold idxs at hR
  cases b with
  | false =>
   have hR:R=acc ++ idxs (fs.drop (k+1)) (k+1):=hR
   cases fl with
   | false =>
    simp (maxSteps:=1000000) -implicitDefEqProofs only [g1,e1,o1,o2,o4,cond_false,Int.toNat_natCast,Int.natCast_nonneg,go_sem,awp_seq,Nat.reduceBEq,Nat.reduceLeDiff,Nat.reduceLT]
    refine callA_t F ?_
    simp (maxSteps:=1000000) -implicitDefEqProofs only [w1,go_sem,awp_seq,Nat.reduceBEq,Nat.reduceLeDiff,Nat.reduceLT]
    refine roundK_mk ⟨(k+1,acc,false),by show k+1≤_;omega,h0,hR,by show acc.length≤k+1+2;omega⟩ ?_ (by show ds.length-(k+1)<ds.length-k;omega)
    simp (maxSteps:=1000000) -implicitDefEqProofs only [cond_false,go_sem,awp_seq,Nat.reduceBEq]
   | true =>
    simp (maxSteps:=1000000) -implicitDefEqProofs only [g1,e1,o1,o2,o4,cond_true,Int.toNat_natCast,Int.natCast_nonneg,go_sem,awp_seq,Nat.reduceBEq,Nat.reduceLeDiff,Nat.reduceLT]
    refine callA_t F ?_
    simp (maxSteps:=1000000) -implicitDefEqProofs only [w1,go_sem,awp_seq,Nat.reduceBEq,Nat.reduceLeDiff,Nat.reduceLT]
    refine roundK_mk ⟨(k+1,acc,true),by show k+1≤_;omega,h0,hR,by show acc.length≤k+1+2;omega⟩ ?_ (by show ds.length-(k+1)<ds.length-k;omega)
    simp (maxSteps:=1000000) -implicitDefEqProofs only [cond_true,go_sem,awp_seq,Nat.reduceBEq]
  | true =>
   have hR:R=(acc ++ [(k:Int)]) ++ idxs (fs.drop (k+1)) (k+1):=by rw [List.append_assoc];exact hR
   cases fl with
   | false =>
    obtain rfl:=h0 rfl
    simp (maxSteps:=1000000) -implicitDefEqProofs only [g1,e1,o1,o2,o4,cond_false,Int.toNat_natCast,Int.natCast_nonneg,go_sem,awp_seq,Nat.reduceBEq,Nat.reduceLeDiff,Nat.reduceLT]
    refine callA_t F ?_
    simp (maxSteps:=1000000) -implicitDefEqProofs only [w1,List.length_cons,List.length_nil,List.cons_append,List.nil_append,go_sem,awp_seq,Nat.reduceBEq,Nat.reduceMul,Nat.reduceLeDiff,Nat.reduceLT]
    refine roundK_mk ⟨(k+1,[(k:Int)],true),by show k+1≤_;omega,fun h=>(by cases h),hR,by show 1≤k+1+2;omega⟩ ?_ (by show ds.length-(k+1)<ds.length-k;omega)
    simp (maxSteps:=1000000) -implicitDefEqProofs only [cond_true,List.length_cons,List.length_nil,List.map_cons,List.map_nil,go_sem,awp_seq,Nat.reduceBEq]
   | true =>
    have ml:(acc.map fun z=>i64 z).length=acc.length:=List.length_map _
    simp (maxSteps:=1000000) -implicitDefEqProofs only [g1,e1,o1,o2,o4,cond_true,Int.toNat_natCast,Int.natCast_nonneg,go_sem,awp_seq,Nat.reduceBEq,Nat.reduceLeDiff,Nat.reduceLT]
    refine callA_t F ?_
    simp (maxSteps:=1000000) -implicitDefEqProofs only [w1,ml,go_sem,awp_seq,Nat.reduceBEq,Nat.reduceMul,Nat.reduceLeDiff,Nat.reduceLT]
    refine ⟨by omega,by omega,?_⟩
    refine roundK_mk ⟨(k+1,acc ++ [(k:Int)],true),by show k+1≤_;omega,fun h=>(by cases h),hR,by show (acc ++ [(k:Int)]).length≤k+1+2;simp;omega⟩ ?_ (by show ds.length-(k+1)<ds.length-k;omega)
    simp (maxSteps:=1000000) -implicitDefEqProofs only [cond_true,List.length_append,List.length_cons,List.length_nil,List.map_append,List.map_cons,List.map_nil,go_sem,awp_seq,Nat.reduceBEq]
 ·obtain rfl:k=ds.length:=by omega
  rw [List.drop_of_length_le (by omega)]at hR
  have hR:R=acc:=by rw [hR];simp [idxs]
  subst hR
  have g1:decide (((ds.length:Nat):Int)<(ds.length:Nat))=false:=by simp
  cases fl with
  | false =>
   obtain rfl:=h0 rfl
   simp (maxSteps:=1000000) -implicitDefEqProofs only [g1,cond_false,List.map_cons,List.map_nil,go_sem,awp_seq,Nat.reduceBEq,Nat.reduceLT]
   all_goals rfl
  | true =>
   have tk:(R.map fun z=>i64 z).take R.length=R.map fun z=>i64 z:=List.take_of_length_le (by rw [List.length_map];exact Nat.le_refl _)
   simp (maxSteps:=1000000) -implicitDefEqProofs only [g1,tk,cond_true,go_sem,awp_seq,Nat.reduceBEq,Nat.reduceLT]
   exact Nat.le_of_eq (List.length_map _).symm
theorem judge_ft (hl:ds.length≤1000) (hfl:fs.length=ds.length) (h1:∀d∈ds,d.one=true) (h2:∀d∈ds,normA Go.Proofs.YtmekiphpjpblpaaGreat.tab 76 d=d) (CF:AT 60 [prs,chosen] (.sl 2 (cs.map prA))) (hcs:cs.isEmpty=false) (hp:∃k l,prs=.sl k l) (hch:∃k l,chosen=.sl k l) (DM:AT 61 [.agg [i64 n,rulesA rs]] (.sl 1 ds)) (hnl:(AV.fn (.func f) pre post).noLimb=true)
  (hf:∀i (hi:i<ds.length) (hi2:i<fs.length),AT f (pre ++ ds[i] :: post) (boo fs[i])):AT 43 [.agg [i64 n,rulesA rs],prs,chosen,boo false,.fn (.func f) pre post] (.sl 1 ((judgeE false true fs).map fun z=>i64 z)):=by
 obtain ⟨k1,l1,rfl⟩:=hp
 obtain ⟨k2,l2,rfl⟩:=hch
 obtain ⟨R,hR⟩:∃R,R=judgeE false true fs:=⟨_,rfl⟩
 rw [←hR]
 have hR:R=[-2] ++ idxs fs 0:=hR
 have c0:decide ((0:Int)<(cs.length:Nat))=true:=by cases cs <;> simp at hcs ⊢
 refine ACalls.of ⟨30,[],[]⟩ (fn:=Tryz.f43) Tryz.func43 rfl rfl rfl (by kernel_rfl) (by kernel_rfl) (Nat.le_of_ble_eq_true rfl) ?_
 simp (maxSteps:=1000000) -implicitDefEqProofs only [hnl,go_sem,awp_seq,Nat.reduceBEq,Nat.reduceAdd,Nat.reduceLT]
 refine callA_tt CF ?_
 simp (maxSteps:=1000000) -implicitDefEqProofs only [c0,List.length_map,go_sem,awp_seq,Nat.reduceBEq,Nat.reduceAdd,Nat.reduceMul,Nat.reduceLeDiff,Nat.reduceLT]
 refine callA_tt DM ?_
 simp (maxSteps:=1000000) -implicitDefEqProofs only [go_sem,awp_seq,Nat.reduceBEq]
 refine loop_mk (α:={x:Nat × List Int × Bool // x.1≤ds.length∧(x.2.2=false→x.2.1=[-2])∧R=x.2.1 ++ idxs (fs.drop x.1) x.1∧x.2.1.length≤x.1+2}) (fun x=>[(4,some (.av (.fn (.func f) pre post))),(10,some (.av (.lit (.slice none 0 0)))),(11,some (bif x.1.2.2 then .osl 40 1 0 x.1.2.1.length else .osl 25 1 0 1)),(27,some (.av (.sl 1 ds))),(28,some (.av (i64 (ds.length:Nat)))),(29,some (.av (i64 (x.1.1:Nat))))]) (fun _=>[]) (fun x=>bif x.1.2.2 then [(40,.row 3 1 (x.1.2.1.map fun z=>i64 z))] else [(25,.row 3 1 [i64 (-2)])]) (fun x=>ds.length-x.1.1) ⟨(0,[-2],false),Nat.zero_le _,fun _=>rfl,hR,by decide⟩ ?_ ?_
 ·simp (maxSteps:=1000000) -implicitDefEqProofs only [cond_false,go_sem,awp_seq,Nat.reduceBEq,Int.cast_ofNat_Int]
 clear hR
 rintro ⟨⟨k,acc,fl⟩,hk,h0,hR,hal⟩
 dsimp only at hk h0 hR hal
 by_cases hlt:k<ds.length
 ·have g1:decide (((k:Nat):Int)<(ds.length:Nat))=true:=by simp;omega
  have e1:ds[k]? = some ds[k]:=List.getElem?_eq_getElem hlt
  have w1:IntKind.i64.wrap ((k:Int)+1)=((k+1:Nat):Int):=by rw [IntWalk.i64_in _ (by omega)];omega
  have F:=hf k hlt (by omega)
  have o1:=h1 _ (List.getElem_mem hlt)
  have o4:=AV.cells_one o1
  have o2:=h2 _ (List.getElem_mem hlt)
  rw [List.drop_eq_getElem_cons (show k<fs.length by omega)]at hR
  generalize ds[k]=d at *
  generalize fs[k]'(by omega)=b at *
  unfold idxs at hR
  cases b with
  | false =>
   have hR:R=acc ++ idxs (fs.drop (k+1)) (k+1):=hR
   cases fl with
   | false =>
    simp (maxSteps:=1000000) -implicitDefEqProofs only [g1,e1,o1,o2,o4,cond_false,Int.toNat_natCast,Int.natCast_nonneg,go_sem,awp_seq,Nat.reduceBEq,Nat.reduceLeDiff,Nat.reduceLT]
    refine callA_t F ?_
    simp (maxSteps:=1000000) -implicitDefEqProofs only [w1,go_sem,awp_seq,Nat.reduceBEq,Nat.reduceLeDiff,Nat.reduceLT]
    refine roundK_mk ⟨(k+1,acc,false),by show k+1≤_;omega,h0,hR,by show acc.length≤k+1+2;omega⟩ ?_ (by show ds.length-(k+1)<ds.length-k;omega)
    simp (maxSteps:=1000000) -implicitDefEqProofs only [cond_false,go_sem,awp_seq,Nat.reduceBEq]
   | true =>
    simp (maxSteps:=1000000) -implicitDefEqProofs only [g1,e1,o1,o2,o4,cond_true,Int.toNat_natCast,Int.natCast_nonneg,go_sem,awp_seq,Nat.reduceBEq,Nat.reduceLeDiff,Nat.reduceLT]
    refine callA_t F ?_
    simp (maxSteps:=1000000) -implicitDefEqProofs only [w1,go_sem,awp_seq,Nat.reduceBEq,Nat.reduceLeDiff,Nat.reduceLT]
    refine roundK_mk ⟨(k+1,acc,true),by show k+1≤_;omega,h0,hR,by show acc.length≤k+1+2;omega⟩ ?_ (by show ds.length-(k+1)<ds.length-k;omega)
    simp (maxSteps:=1000000) -implicitDefEqProofs only [cond_true,go_sem,awp_seq,Nat.reduceBEq]
  | true =>
   have hR:R=(acc ++ [(k:Int)]) ++ idxs (fs.drop (k+1)) (k+1):=by rw [List.append_assoc];exact hR
   cases fl with
   | false =>
    obtain rfl:=h0 rfl
    simp (maxSteps:=1000000) -implicitDefEqProofs only [g1,e1,o1,o2,o4,cond_false,Int.toNat_natCast,Int.natCast_nonneg,go_sem,awp_seq,Nat.reduceBEq,Nat.reduceLeDiff,Nat.reduceLT]
    refine callA_t F ?_
    simp (maxSteps:=1000000) -implicitDefEqProofs only [w1,List.length_cons,List.length_nil,List.cons_append,List.nil_append,go_sem,awp_seq,Nat.reduceBEq,Nat.reduceAdd,Nat.reduceMul,Nat.reduceLeDiff,Nat.reduceLT]
    refine roundK_mk ⟨(k+1,[-2,(k:Int)],true),by show k+1≤_;omega,fun h=>(by cases h),hR,by show 2≤k+1+2;omega⟩ ?_ (by show ds.length-(k+1)<ds.length-k;omega)
    simp (maxSteps:=1000000) -implicitDefEqProofs only [cond_true,List.length_cons,List.length_nil,List.map_cons,List.map_nil,go_sem,awp_seq,Nat.reduceBEq,Nat.reduceAdd]
   | true =>
    have ml:(acc.map fun z=>i64 z).length=acc.length:=List.length_map _
    simp (maxSteps:=1000000) -implicitDefEqProofs only [g1,e1,o1,o2,o4,cond_true,Int.toNat_natCast,Int.natCast_nonneg,go_sem,awp_seq,Nat.reduceBEq,Nat.reduceLeDiff,Nat.reduceLT]
    refine callA_t F ?_
    simp (maxSteps:=1000000) -implicitDefEqProofs only [w1,ml,go_sem,awp_seq,Nat.reduceBEq,Nat.reduceMul,Nat.reduceLeDiff,Nat.reduceLT]
    refine ⟨by omega,by omega,?_⟩
    refine roundK_mk ⟨(k+1,acc ++ [(k:Int)],true),by show k+1≤_;omega,fun h=>(by cases h),hR,by show (acc ++ [(k:Int)]).length≤k+1+2;simp;omega⟩ ?_ (by show ds.length-(k+1)<ds.length-k;omega)
    simp (maxSteps:=1000000) -implicitDefEqProofs only [cond_true,List.length_append,List.length_cons,List.length_nil,List.map_append,List.map_cons,List.map_nil,go_sem,awp_seq,Nat.reduceBEq]
 ·obtain rfl:k=ds.length:=by omega
  rw [List.drop_of_length_le (by omega)]at hR
  have hR:R=acc:=by rw [hR];simp [idxs]
  subst hR
  have g1:decide (((ds.length:Nat):Int)<(ds.length:Nat))=false:=by simp
  cases fl with
  | false =>
   obtain rfl:=h0 rfl
   simp (maxSteps:=1000000) -implicitDefEqProofs only [g1,cond_false,List.map_cons,List.map_nil,go_sem,awp_seq,Nat.reduceBEq,Nat.reduceLT]
   all_goals rfl
  | true =>
   have tk:(R.map fun z=>i64 z).take R.length=R.map fun z=>i64 z:=List.take_of_length_le (by rw [List.length_map];exact Nat.le_refl _)
   simp (maxSteps:=1000000) -implicitDefEqProofs only [g1,tk,cond_true,go_sem,awp_seq,Nat.reduceBEq,Nat.reduceLT]
   exact Nat.le_of_eq (List.length_map _).symm
theorem judge_tf (hl:ds.length≤1000) (hfl:fs.length=ds.length) (h1:∀d∈ds,d.one=true) (h2:∀d∈ds,normA Go.Proofs.YtmekiphpjpblpaaGreat.tab 76 d=d) (CF:AT 60 [prs,chosen] (.sl 2 (cs.map prA))) (hcs:cs.isEmpty=true) (hp:∃k l,prs=.sl k l) (hch:∃k l,chosen=.sl k l) (DM:AT 61 [.agg [i64 n,rulesA rs]] (.sl 1 ds)) (hnl:(AV.fn (.func f) pre post).noLimb=true)
  (hf:∀i (hi:i<ds.length) (hi2:i<fs.length),AT f (pre ++ ds[i] :: post) (boo fs[i])):AT 43 [.agg [i64 n,rulesA rs],prs,chosen,boo true,.fn (.func f) pre post] (.sl 1 ((judgeE true false fs).map fun z=>i64 z)):=by
 obtain ⟨k1,l1,rfl⟩:=hp
 obtain ⟨k2,l2,rfl⟩:=hch
 obtain ⟨R,hR⟩:∃R,R=judgeE true false fs:=⟨_,rfl⟩
 rw [←hR]
 have hR:R=[-1] ++ idxs fs 0:=hR
 have c0:decide ((0:Int)<(cs.length:Nat))=false:=by cases cs <;> simp at hcs ⊢
 refine ACalls.of ⟨30,[],[]⟩ (fn:=Tryz.f43) Tryz.func43 rfl rfl rfl (by kernel_rfl) (by kernel_rfl) (Nat.le_of_ble_eq_true rfl) ?_
 simp (maxSteps:=1000000) -implicitDefEqProofs only [hnl,go_sem,awp_seq,Nat.reduceBEq,Nat.reduceAdd,Nat.reduceMul,Nat.reduceLeDiff,Nat.reduceLT]
 refine callA_tt CF ?_
 simp (maxSteps:=1000000) -implicitDefEqProofs only [c0,List.length_map,go_sem,awp_seq,Nat.reduceBEq,Nat.reduceAdd,Nat.reduceLT]
 refine callA_tt DM ?_
 simp (maxSteps:=1000000) -implicitDefEqProofs only [go_sem,awp_seq,Nat.reduceBEq]
 refine loop_mk (α:={x:Nat × List Int × Bool // x.1≤ds.length∧(x.2.2=false→x.2.1=[-1])∧R=x.2.1 ++ idxs (fs.drop x.1) x.1∧x.2.1.length≤x.1+2}) (fun x=>[(4,some (.av (.fn (.func f) pre post))),(10,some (.av (.lit (.slice none 0 0)))),(11,some (bif x.1.2.2 then .osl 40 1 0 x.1.2.1.length else .osl 17 1 0 1)),(27,some (.av (.sl 1 ds))),(28,some (.av (i64 (ds.length:Nat)))),(29,some (.av (i64 (x.1.1:Nat))))]) (fun _=>[]) (fun x=>bif x.1.2.2 then [(40,.row 3 1 (x.1.2.1.map fun z=>i64 z))] else [(17,.row 3 1 [i64 (-1)])]) (fun x=>ds.length-x.1.1) ⟨(0,[-1],false),Nat.zero_le _,fun _=>rfl,hR,by decide⟩ ?_ ?_
 ·simp (maxSteps:=1000000) -implicitDefEqProofs only [cond_false,go_sem,awp_seq,Nat.reduceBEq,Int.cast_ofNat_Int]
 clear hR
 rintro ⟨⟨k,acc,fl⟩,hk,h0,hR,hal⟩
 dsimp only at hk h0 hR hal
 by_cases hlt:k<ds.length
 ·have g1:decide (((k:Nat):Int)<(ds.length:Nat))=true:=by simp;omega
  have e1:ds[k]? = some ds[k]:=List.getElem?_eq_getElem hlt
  have w1:IntKind.i64.wrap ((k:Int)+1)=((k+1:Nat):Int):=by rw [IntWalk.i64_in _ (by omega)];omega
  have F:=hf k hlt (by omega)
  have o1:=h1 _ (List.getElem_mem hlt)
  have o4:=AV.cells_one o1
  have o2:=h2 _ (List.getElem_mem hlt)
  rw [List.drop_eq_getElem_cons (show k<fs.length by omega)]at hR
  generalize ds[k]=d at *
  generalize fs[k]'(by omega)=b at *
  unfold idxs at hR
  cases b with
  | false =>
   have hR:R=acc ++ idxs (fs.drop (k+1)) (k+1):=hR
   cases fl with
   | false =>
    simp (maxSteps:=1000000) -implicitDefEqProofs only [g1,e1,o1,o2,o4,cond_false,Int.toNat_natCast,Int.natCast_nonneg,go_sem,awp_seq,Nat.reduceBEq,Nat.reduceLeDiff,Nat.reduceLT]
    refine callA_t F ?_
    simp (maxSteps:=1000000) -implicitDefEqProofs only [w1,go_sem,awp_seq,Nat.reduceBEq,Nat.reduceLeDiff,Nat.reduceLT]
    refine roundK_mk ⟨(k+1,acc,false),by show k+1≤_;omega,h0,hR,by show acc.length≤k+1+2;omega⟩ ?_ (by show ds.length-(k+1)<ds.length-k;omega)
    simp (maxSteps:=1000000) -implicitDefEqProofs only [cond_false,go_sem,awp_seq,Nat.reduceBEq]
   | true =>
    simp (maxSteps:=1000000) -implicitDefEqProofs only [g1,e1,o1,o2,o4,cond_true,Int.toNat_natCast,Int.natCast_nonneg,go_sem,awp_seq,Nat.reduceBEq,Nat.reduceLeDiff,Nat.reduceLT]
    refine callA_t F ?_
    simp (maxSteps:=1000000) -implicitDefEqProofs only [w1,go_sem,awp_seq,Nat.reduceBEq,Nat.reduceLeDiff,Nat.reduceLT]
    refine roundK_mk ⟨(k+1,acc,true),by show k+1≤_;omega,h0,hR,by show acc.length≤k+1+2;omega⟩ ?_ (by show ds.length-(k+1)<ds.length-k;omega)
    simp (maxSteps:=1000000) -implicitDefEqProofs only [cond_true,go_sem,awp_seq,Nat.reduceBEq]
  | true =>
   have hR:R=(acc ++ [(k:Int)]) ++ idxs (fs.drop (k+1)) (k+1):=by rw [List.append_assoc];exact hR
   cases fl with
   | false =>
    obtain rfl:=h0 rfl
    simp (maxSteps:=1000000) -implicitDefEqProofs only [g1,e1,o1,o2,o4,cond_false,Int.toNat_natCast,Int.natCast_nonneg,go_sem,awp_seq,Nat.reduceBEq,Nat.reduceLeDiff,Nat.reduceLT]
    refine callA_t F ?_
    simp (maxSteps:=1000000) -implicitDefEqProofs only [w1,List.length_cons,List.length_nil,List.cons_append,List.nil_append,go_sem,awp_seq,Nat.reduceBEq,Nat.reduceAdd,Nat.reduceMul,Nat.reduceLeDiff,Nat.reduceLT]
    refine roundK_mk ⟨(k+1,[-1,(k:Int)],true),by show k+1≤_;omega,fun h=>(by cases h),hR,by show 2≤k+1+2;omega⟩ ?_ (by show ds.length-(k+1)<ds.length-k;omega)
    simp (maxSteps:=1000000) -implicitDefEqProofs only [cond_true,List.length_cons,List.length_nil,List.map_cons,List.map_nil,go_sem,awp_seq,Nat.reduceBEq,Nat.reduceAdd]
   | true =>
    have ml:(acc.map fun z=>i64 z).length=acc.length:=List.length_map _
    simp (maxSteps:=1000000) -implicitDefEqProofs only [g1,e1,o1,o2,o4,cond_true,Int.toNat_natCast,Int.natCast_nonneg,go_sem,awp_seq,Nat.reduceBEq,Nat.reduceLeDiff,Nat.reduceLT]
    refine callA_t F ?_
    simp (maxSteps:=1000000) -implicitDefEqProofs only [w1,ml,go_sem,awp_seq,Nat.reduceBEq,Nat.reduceMul,Nat.reduceLeDiff,Nat.reduceLT]
    refine ⟨by omega,by omega,?_⟩
    refine roundK_mk ⟨(k+1,acc ++ [(k:Int)],true),by show k+1≤_;omega,fun h=>(by cases h),hR,by show (acc ++ [(k:Int)]).length≤k+1+2;simp;omega⟩ ?_ (by show ds.length-(k+1)<ds.length-k;omega)
    simp (maxSteps:=1000000) -implicitDefEqProofs only [cond_true,List.length_append,List.length_cons,List.length_nil,List.map_append,List.map_cons,List.map_nil,go_sem,awp_seq,Nat.reduceBEq]
 ·obtain rfl:k=ds.length:=by omega
  rw [List.drop_of_length_le (by omega)]at hR
  have hR:R=acc:=by rw [hR];simp [idxs]
  subst hR
  have g1:decide (((ds.length:Nat):Int)<(ds.length:Nat))=false:=by simp
  cases fl with
  | false =>
   obtain rfl:=h0 rfl
   simp (maxSteps:=1000000) -implicitDefEqProofs only [g1,cond_false,List.map_cons,List.map_nil,go_sem,awp_seq,Nat.reduceBEq,Nat.reduceLT]
   all_goals rfl
  | true =>
   have tk:(R.map fun z=>i64 z).take R.length=R.map fun z=>i64 z:=List.take_of_length_le (by rw [List.length_map];exact Nat.le_refl _)
   simp (maxSteps:=1000000) -implicitDefEqProofs only [g1,tk,cond_true,go_sem,awp_seq,Nat.reduceBEq,Nat.reduceLT]
   exact Nat.le_of_eq (List.length_map _).symm
theorem judge_tt (hl:ds.length≤1000) (hfl:fs.length=ds.length) (h1:∀d∈ds,d.one=true) (h2:∀d∈ds,normA Go.Proofs.YtmekiphpjpblpaaGreat.tab 76 d=d) (CF:AT 60 [prs,chosen] (.sl 2 (cs.map prA))) (hcs:cs.isEmpty=false) (hp:∃k l,prs=.sl k l) (hch:∃k l,chosen=.sl k l) (DM:AT 61 [.agg [i64 n,rulesA rs]] (.sl 1 ds)) (hnl:(AV.fn (.func f) pre post).noLimb=true)
  (hf:∀i (hi:i<ds.length) (hi2:i<fs.length),AT f (pre ++ ds[i] :: post) (boo fs[i])):AT 43 [.agg [i64 n,rulesA rs],prs,chosen,boo true,.fn (.func f) pre post] (.sl 1 ((judgeE true true fs).map fun z=>i64 z)):=by
 obtain ⟨k1,l1,rfl⟩:=hp
 obtain ⟨k2,l2,rfl⟩:=hch
 obtain ⟨R,hR⟩:∃R,R=judgeE true true fs:=⟨_,rfl⟩
 rw [←hR]
 have hR:R=[-1,-2] ++ idxs fs 0:=hR
 have c0:decide ((0:Int)<(cs.length:Nat))=true:=by cases cs <;> simp at hcs ⊢
 refine ACalls.of ⟨30,[],[]⟩ (fn:=Tryz.f43) Tryz.func43 rfl rfl rfl (by kernel_rfl) (by kernel_rfl) (Nat.le_of_ble_eq_true rfl) ?_
 simp (maxSteps:=1000000) -implicitDefEqProofs only [hnl,go_sem,awp_seq,Nat.reduceBEq,Nat.reduceAdd,Nat.reduceMul,Nat.reduceLeDiff,Nat.reduceLT]
 refine callA_tt CF ?_
 simp (maxSteps:=1000000) -implicitDefEqProofs only [c0,List.length_map,go_sem,awp_seq,Nat.reduceBEq,Nat.reduceAdd,Nat.reduceMul,Nat.reduceLeDiff,Nat.reduceLT]
 refine callA_tt DM ?_
 simp (maxSteps:=1000000) -implicitDefEqProofs only [go_sem,awp_seq,Nat.reduceBEq]
 refine loop_mk (α:={x:Nat × List Int × Bool // x.1≤ds.length∧(x.2.2=false→x.2.1=[-1,-2])∧R=x.2.1 ++ idxs (fs.drop x.1) x.1∧x.2.1.length≤x.1+2}) (fun x=>[(4,some (.av (.fn (.func f) pre post))),(10,some (.av (.lit (.slice none 0 0)))),(11,some (bif x.1.2.2 then .osl 40 1 0 x.1.2.1.length else .osl 25 1 0 2)),(27,some (.av (.sl 1 ds))),(28,some (.av (i64 (ds.length:Nat)))),(29,some (.av (i64 (x.1.1:Nat))))]) (fun _=>[]) (fun x=>bif x.1.2.2 then [(40,.row 3 1 (x.1.2.1.map fun z=>i64 z))] else [(25,.row 3 1 [i64 (-1),i64 (-2)])]) (fun x=>ds.length-x.1.1) ⟨(0,[-1,-2],false),Nat.zero_le _,fun _=>rfl,hR,by decide⟩ ?_ ?_
 ·simp (maxSteps:=1000000) -implicitDefEqProofs only [cond_false,go_sem,awp_seq,Nat.reduceBEq,Nat.reduceAdd,Int.cast_ofNat_Int]
 clear hR
 rintro ⟨⟨k,acc,fl⟩,hk,h0,hR,hal⟩
 dsimp only at hk h0 hR hal
 by_cases hlt:k<ds.length
 ·have g1:decide (((k:Nat):Int)<(ds.length:Nat))=true:=by simp;omega
  have e1:ds[k]? = some ds[k]:=List.getElem?_eq_getElem hlt
  have w1:IntKind.i64.wrap ((k:Int)+1)=((k+1:Nat):Int):=by rw [IntWalk.i64_in _ (by omega)];omega
  have F:=hf k hlt (by omega)
  have o1:=h1 _ (List.getElem_mem hlt)
  have o4:=AV.cells_one o1
  have o2:=h2 _ (List.getElem_mem hlt)
  rw [List.drop_eq_getElem_cons (show k<fs.length by omega)]at hR
  generalize ds[k]=d at *
  generalize fs[k]'(by omega)=b at *
  unfold idxs at hR
  cases b with
  | false =>
   have hR:R=acc ++ idxs (fs.drop (k+1)) (k+1):=hR
   cases fl with
   | false =>
    simp (maxSteps:=1000000) -implicitDefEqProofs only [g1,e1,o1,o2,o4,cond_false,Int.toNat_natCast,Int.natCast_nonneg,go_sem,awp_seq,Nat.reduceBEq,Nat.reduceLeDiff,Nat.reduceLT]
    refine callA_t F ?_
    simp (maxSteps:=1000000) -implicitDefEqProofs only [w1,go_sem,awp_seq,Nat.reduceBEq,Nat.reduceLeDiff,Nat.reduceLT]
    refine roundK_mk ⟨(k+1,acc,false),by show k+1≤_;omega,h0,hR,by show acc.length≤k+1+2;omega⟩ ?_ (by show ds.length-(k+1)<ds.length-k;omega)
    simp (maxSteps:=1000000) -implicitDefEqProofs only [cond_false,go_sem,awp_seq,Nat.reduceBEq]
   | true =>
    simp (maxSteps:=1000000) -implicitDefEqProofs only [g1,e1,o1,o2,o4,cond_true,Int.toNat_natCast,Int.natCast_nonneg,go_sem,awp_seq,Nat.reduceBEq,Nat.reduceLeDiff,Nat.reduceLT]
    refine callA_t F ?_
    simp (maxSteps:=1000000) -implicitDefEqProofs only [w1,go_sem,awp_seq,Nat.reduceBEq,Nat.reduceLeDiff,Nat.reduceLT]
    refine roundK_mk ⟨(k+1,acc,true),by show k+1≤_;omega,h0,hR,by show acc.length≤k+1+2;omega⟩ ?_ (by show ds.length-(k+1)<ds.length-k;omega)
    simp (maxSteps:=1000000) -implicitDefEqProofs only [cond_true,go_sem,awp_seq,Nat.reduceBEq]
  | true =>
   have hR:R=(acc ++ [(k:Int)]) ++ idxs (fs.drop (k+1)) (k+1):=by rw [List.append_assoc];exact hR
   cases fl with
   | false =>
    obtain rfl:=h0 rfl
    simp (maxSteps:=1000000) -implicitDefEqProofs only [g1,e1,o1,o2,o4,cond_false,Int.toNat_natCast,Int.natCast_nonneg,go_sem,awp_seq,Nat.reduceBEq,Nat.reduceAdd,Nat.reduceLeDiff,Nat.reduceLT]
    refine callA_t F ?_
    simp (maxSteps:=1000000) -implicitDefEqProofs only [w1,List.length_cons,List.length_nil,List.cons_append,List.nil_append,go_sem,awp_seq,Nat.reduceBEq,Nat.reduceAdd,Nat.reduceMul,Nat.reduceLeDiff,Nat.reduceLT]
    refine roundK_mk ⟨(k+1,[-1,-2,(k:Int)],true),by show k+1≤_;omega,fun h=>(by cases h),hR,by show 3≤k+1+2;omega⟩ ?_ (by show ds.length-(k+1)<ds.length-k;omega)
    simp (maxSteps:=1000000) -implicitDefEqProofs only [cond_true,List.length_cons,List.length_nil,List.map_cons,List.map_nil,go_sem,awp_seq,Nat.reduceBEq,Nat.reduceAdd]
   | true =>
    have ml:(acc.map fun z=>i64 z).length=acc.length:=List.length_map _
    simp (maxSteps:=1000000) -implicitDefEqProofs only [g1,e1,o1,o2,o4,cond_true,Int.toNat_natCast,Int.natCast_nonneg,go_sem,awp_seq,Nat.reduceBEq,Nat.reduceLeDiff,Nat.reduceLT]
    refine callA_t F ?_
    simp (maxSteps:=1000000) -implicitDefEqProofs only [w1,ml,go_sem,awp_seq,Nat.reduceBEq,Nat.reduceMul,Nat.reduceLeDiff,Nat.reduceLT]
    refine ⟨by omega,by omega,?_⟩
    refine roundK_mk ⟨(k+1,acc ++ [(k:Int)],true),by show k+1≤_;omega,fun h=>(by cases h),hR,by show (acc ++ [(k:Int)]).length≤k+1+2;simp;omega⟩ ?_ (by show ds.length-(k+1)<ds.length-k;omega)
    simp (maxSteps:=1000000) -implicitDefEqProofs only [cond_true,List.length_append,List.length_cons,List.length_nil,List.map_append,List.map_cons,List.map_nil,go_sem,awp_seq,Nat.reduceBEq]
 ·obtain rfl:k=ds.length:=by omega
  rw [List.drop_of_length_le (by omega)]at hR
  have hR:R=acc:=by rw [hR];simp [idxs]
  subst hR
  have g1:decide (((ds.length:Nat):Int)<(ds.length:Nat))=false:=by simp
  cases fl with
  | false =>
   obtain rfl:=h0 rfl
   simp (maxSteps:=1000000) -implicitDefEqProofs only [g1,cond_false,List.map_cons,List.map_nil,go_sem,awp_seq,Nat.reduceBEq,Nat.reduceAdd,Nat.reduceLT]
   all_goals rfl
  | true =>
   have tk:(R.map fun z=>i64 z).take R.length=R.map fun z=>i64 z:=List.take_of_length_le (by rw [List.length_map];exact Nat.le_refl _)
   simp (maxSteps:=1000000) -implicitDefEqProofs only [g1,tk,cond_true,go_sem,awp_seq,Nat.reduceBEq,Nat.reduceLT]
   exact Nat.le_of_eq (List.length_map _).symm
end
theorem modelv_c (rows:List (List Int)) (k:Int):AT 128 [.agg [rowsA rows],i64 k] (i64 (modelE rows k)):=by
 unfold modelE
 by_cases h1:k<1
 ·rw [if_pos h1]
  have g1:=decide_eq_true h1
  refine ACalls.of ⟨49,[],[]⟩ (fn:=Tryz.f128) Tryz.func128 rfl rfl rfl (by kernel_rfl) (by kernel_rfl) (Nat.le_of_ble_eq_true rfl) ?_
  simp (maxSteps:=1000000) -implicitDefEqProofs only [g1,List.length_map,go_sem,awp_seq,Nat.reduceBEq,Nat.reduceAdd,Nat.reduceLT]
 rw [if_neg h1]
 have g1:=decide_eq_false h1
 by_cases h2:21<k
 ·rw [if_pos h2]
  have g2:=decide_eq_true h2
  refine ACalls.of ⟨49,[],[]⟩ (fn:=Tryz.f128) Tryz.func128 rfl rfl rfl (by kernel_rfl) (by kernel_rfl) (Nat.le_of_ble_eq_true rfl) ?_
  simp (maxSteps:=1000000) -implicitDefEqProofs only [g1,g2,List.length_map,go_sem,awp_seq,Nat.reduceBEq,Nat.reduceAdd,Nat.reduceLT]
 rw [if_neg h2]
 have g2:=decide_eq_false h2
 by_cases h3:(rows.length:Int)≠k
 ·rw [if_pos h3]
  have g3:(((rows.length:Nat):Int) != k)=true:=by simpa using h3
  refine ACalls.of ⟨49,[],[]⟩ (fn:=Tryz.f128) Tryz.func128 rfl rfl rfl (by kernel_rfl) (by kernel_rfl) (Nat.le_of_ble_eq_true rfl) ?_
  simp (maxSteps:=1000000) -implicitDefEqProofs only [g1,g2,g3,List.length_map,go_sem,awp_seq,Nat.reduceBNe,Nat.reduceBEq,Nat.reduceAdd,Nat.reduceLT]
 rw [if_neg h3]
 have h3:(rows.length:Int)=k:=Classical.not_not.1 h3
 have g3:(((rows.length:Nat):Int) != k)=false:=by simpa using h3
 cases rows with
 | nil=>exact absurd h3 (by simp only [List.length_nil];omega)
 | cons r rs =>
 dsimp only
 have g4:decide (((r.length:Nat):Int)<2)=decide (r.length<2):=decide_eq_decide.2 (by omega)
 have g5:decide ((6:Int)<((r.length:Nat):Int))=decide (6<r.length):=decide_eq_decide.2 (by omega)
 by_cases h4:r.length<2
 ·rw [if_pos h4]
  rw [decide_eq_true h4]at g4
  simp only [List.length_cons]at g3
  refine ACalls.of ⟨49,[],[]⟩ (fn:=Tryz.f128) Tryz.func128 rfl rfl rfl (by kernel_rfl) (by kernel_rfl) (Nat.le_of_ble_eq_true rfl) ?_
  simp (maxSteps:=1000000) -implicitDefEqProofs only [g1,g2,g3,g4,List.map_cons,List.length_map,List.length_cons,List.getElem?_cons_zero,go_sem,awp_seq,Nat.reduceBNe,Nat.reduceBEq,Nat.reduceAdd,Nat.reduceLT,Int.reduceLE,Int.reduceToNat]
 rw [if_neg h4]
 rw [decide_eq_false h4]at g4
 by_cases h5:6<r.length
 ·rw [if_pos h5]
  rw [decide_eq_true h5]at g5
  simp only [List.length_cons]at g3
  refine ACalls.of ⟨49,[],[]⟩ (fn:=Tryz.f128) Tryz.func128 rfl rfl rfl (by kernel_rfl) (by kernel_rfl) (Nat.le_of_ble_eq_true rfl) ?_
  simp (maxSteps:=1000000) -implicitDefEqProofs only [g1,g2,g3,g4,g5,List.map_cons,List.length_map,List.length_cons,List.getElem?_cons_zero,go_sem,awp_seq,Nat.reduceBNe,Nat.reduceBEq,Nat.reduceAdd,Nat.reduceLT,Int.reduceLE,Int.reduceToNat]
 rw [if_neg h5]
 rw [decide_eq_false h5]at g5
 have e0:(List.map (fun r=>AV.sl 1 (List.map (fun z=>i64 z) r)) (r :: rs))[0]? = some (.sl 1 (r.map fun z=>i64 z)):=rfl
 obtain ⟨c,hc⟩:∃c,c=r.length:=⟨_,rfl⟩
 rw [←hc]at g4 g5 h4 h5 ⊢
 obtain ⟨R,hR⟩:∃R,R=r :: rs:=⟨_,rfl⟩
 rw [←hR]at e0 h3 g3 ⊢
 clear hR
 have hR21:R.length≤21:=by omega
 obtain ⟨E,hE⟩:∃E,E=rowsE c R:=⟨_,rfl⟩
 rw [←hE]
 refine ACalls.of ⟨49,[],[]⟩ (fn:=Tryz.f128) Tryz.func128 rfl rfl rfl (by kernel_rfl) (by kernel_rfl) (Nat.le_of_ble_eq_true rfl) ?_
 simp (maxSteps:=1000000) -implicitDefEqProofs only [g1,g2,g3,e0,←hc,g4,g5,List.length_map,go_sem,awp_seq,Nat.reduceBNe,Nat.reduceBEq,Nat.reduceAdd,Nat.reduceLT,Int.reduceLE,Int.reduceToNat]
 refine loop_mk (α:={j:Nat // j≤R.length∧E=rowsE c (R.drop j)}) (fun j=>[(1,some (.av (i64 k))),(2,some (.ref 2 0)),(4,some (.av (i64 0))),(5,some (.av (i64 (c:Nat)))),(36,some (.av (rowsA R))),(37,some (.av (i64 (R.length:Nat)))),(38,some (.av (i64 (j.1:Nat))))]) (fun _=>[(2,[rowsA R])]) (fun _=>[]) (fun j=>R.length-j.1) ⟨0,Nat.zero_le _,hE⟩ ?_ ?_
 ·simp (maxSteps:=1000000) -implicitDefEqProofs only [go_sem,awp_seq,Nat.reduceBEq,Int.cast_ofNat_Int]
 clear hE
 rintro ⟨j,hj,hE⟩
 by_cases hlt:j<R.length
 case neg =>
  have q1:decide (((j:Nat):Int)<(R.length:Nat))=false:=by simp;omega
  rw [List.drop_of_length_le (by omega)]at hE
  have hE:E=0:=hE
  subst hE
  simp (maxSteps:=1000000) -implicitDefEqProofs only [q1,go_sem,awp_seq,Nat.reduceBEq,Nat.reduceLT]
 have q1:decide (((j:Nat):Int)<(R.length:Nat))=true:=by simp;omega
 have e1:=map_get (fun r:List Int=>AV.sl 1 (r.map fun z=>i64 z)) R hlt
 have w1:IntKind.i64.wrap ((j:Int)+1)=((j+1:Nat):Int):=by rw [IntWalk.i64_in _ (by omega)];omega
 rw [List.drop_eq_getElem_cons hlt]at hE
 generalize R[j]=l at *
 unfold rowsE at hE
 by_cases h6:l.length≠c
 ·rw [if_pos h6]at hE
  subst hE
  have q2:(((l.length:Nat):Int) != (c:Nat))=true:=by simp;omega
  simp (maxSteps:=1000000) -implicitDefEqProofs only [q1,e1,q2,List.length_map,Int.toNat_natCast,Int.natCast_nonneg,go_sem,awp_seq,Nat.reduceBEq,Nat.reduceLT]
 rw [if_neg h6]at hE
 have q2:(((l.length:Nat):Int) != (c:Nat))=false:=by simp;omega
 have hl6:l.length≤6:=by omega
 obtain ⟨Q,hQ⟩:∃Q,Q=rowE l 0:=⟨_,rfl⟩
 rw [←hQ]at hE
 simp (maxSteps:=1000000) -implicitDefEqProofs only [q1,e1,q2,List.length_map,Int.toNat_natCast,Int.natCast_nonneg,go_sem,awp_seq,Nat.reduceBEq,Nat.reduceLT]
 refine loop_mk (α:={x:Nat × Int // x.1≤l.length∧Q=rowE (l.drop x.1) x.2∧0≤x.2∧x.2≤1000*(x.1:Nat)}) (fun x=>[(1,some (.av (i64 k))),(2,some (.ref 2 0)),(4,some (.av (i64 0))),(5,some (.av (i64 (c:Nat)))),(7,some (.av (.sl 1 (l.map fun z=>i64 z)))),(8,some (.av (i64 x.1.2))),(36,some (.av (rowsA R))),(37,some (.av (i64 (R.length:Nat)))),(38,some (.av (i64 (j:Nat)))),(46,some (.av (.sl 1 (l.map fun z=>i64 z)))),(47,some (.av (i64 (l.length:Nat)))),(48,some (.av (i64 (x.1.1:Nat))))]) (fun _=>[(2,[rowsA R])]) (fun _=>[]) (fun x=>l.length-x.1.1) ⟨(0,0),Nat.zero_le _,hQ,Int.le_refl _,Int.le_refl _⟩ ?_ ?_
 ·simp (maxSteps:=1000000) -implicitDefEqProofs only [go_sem,awp_seq,Nat.reduceBEq,Int.cast_ofNat_Int]
 clear hQ
 rintro ⟨⟨i,m⟩,hi,hm,hm0,hm1⟩
 dsimp only at hi hm hm0 hm1
 by_cases hlt2:i<l.length
 ·have p1:decide (((i:Nat):Int)<(l.length:Nat))=true:=by simp;omega
  have e2:=map_get (fun z=>i64 z) l hlt2
  have w2:IntKind.i64.wrap ((i:Int)+1)=((i+1:Nat):Int):=by rw [IntWalk.i64_in _ (by omega)];omega
  rw [List.drop_eq_getElem_cons hlt2]at hm
  generalize l[i]=y at *
  unfold rowE at hm
  by_cases h7:y<1
  ·rw [if_pos h7]at hm
   rw [hm,if_pos (by decide)]at hE
   subst hE
   have p2:=decide_eq_true h7
   simp (maxSteps:=1000000) -implicitDefEqProofs only [p1,p2,e2,Int.toNat_natCast,Int.natCast_nonneg,go_sem,awp_seq,Nat.reduceBEq,Nat.reduceLeDiff,Nat.reduceLT]
  rw [if_neg h7]at hm
  have p2:=decide_eq_false h7
  by_cases h8:1000<y
  ·rw [if_pos h8]at hm
   rw [hm,if_pos (by decide)]at hE
   subst hE
   have p3:=decide_eq_true h8
   simp (maxSteps:=1000000) -implicitDefEqProofs only [p1,p2,p3,e2,Int.toNat_natCast,Int.natCast_nonneg,go_sem,awp_seq,Nat.reduceBEq,Nat.reduceLeDiff,Nat.reduceLT]
  rw [if_neg h8]at hm
  have p3:=decide_eq_false h8
  have w3:IntKind.i64.wrap (m+y)=m+y:=IntWalk.i64_in _ (by omega)
  simp (maxSteps:=1000000) -implicitDefEqProofs only [p1,p2,p3,w2,w3,e2,Int.toNat_natCast,Int.natCast_nonneg,go_sem,awp_seq,Nat.reduceBEq,Nat.reduceLeDiff,Nat.reduceLT]
  refine roundK_mk ⟨(i+1,m+y),by omega,hm,by dsimp only;omega,by dsimp only;omega⟩ ?_ (by show l.length-(i+1)<l.length-i;omega)
  simp (maxSteps:=1000000) -implicitDefEqProofs only [go_sem,awp_seq,Nat.reduceBEq]
 ·have p1:decide (((i:Nat):Int)<(l.length:Nat))=false:=by simp;omega
  rw [List.drop_of_length_le (by omega)]at hm
  unfold rowE at hm
  by_cases h7:m=1000
  ·rw [if_pos h7]at hm
   rw [hm,if_neg (by decide)]at hE
   have p2:(m != 1000)=false:=by simpa using h7
   simp (maxSteps:=1000000) -implicitDefEqProofs only [p1,p2,w1,go_sem,awp_seq,Nat.reduceBEq,Nat.reduceLeDiff,Nat.reduceLT]
   refine roundK_mk ⟨j+1,by omega,hE⟩ ?_ (by show R.length-(j+1)<R.length-j;omega)
   simp (maxSteps:=1000000) -implicitDefEqProofs only [go_sem,awp_seq,Nat.reduceBEq]
  ·rw [if_neg h7]at hm
   rw [hm,if_pos (by decide)]at hE
   subst hE
   have p2:(m != 1000)=true:=by simpa using h7
   simp (maxSteps:=1000000) -implicitDefEqProofs only [p1,p2,go_sem,awp_seq,Nat.reduceBEq,Nat.reduceLeDiff,Nat.reduceLT]
theorem item_c (y:PI) (k:Int):AT 98 [itA y,i64 k] (i64 (itE y k)):=by
 obtain ⟨id,s1,n0,n1,n2,n3,n4,n5,rows⟩:=y
 have C:=cvalid_c s1
 have M:=modelv_c rows k
 show AT 98 [.agg [i64 id,str s1,i64 n0,i64 n1,i64 n2,i64 n3,i64 n4,i64 n5,rowsA rows],i64 k] (i64 (itE (id,s1,n0,n1,n2,n3,n4,n5,rows) k))
 unfold itE
 dsimp only
 generalize modelE rows k=e at *
 generalize (rows.map fun r=>AV.sl 1 (r.map fun z=>i64 z))=R at *
 generalize contentB s1=cb at *
 cases cb with
 | false =>
  refine ACalls.of ⟨10,[],[]⟩ (fn:=Tryz.f98) Tryz.func98 rfl rfl rfl (by kernel_rfl) (by kernel_rfl) (Nat.le_of_ble_eq_true rfl) ?_
  simp (maxSteps:=1000000) -implicitDefEqProofs only [go_sem,awp_seq,Nat.reduceBEq,Nat.reduceAdd,Nat.reduceLT]
  refine callA_tt C ?_
  simp (maxSteps:=1000000) -implicitDefEqProofs only [Bool.not_false,go_sem,awp_seq,Nat.reduceBNe,Nat.reduceBEq,Nat.reduceLT]
 | true =>
 by_cases h0:n0<0
 ·have c0:=decide_eq_true h0
  simp only [c0,Bool.not_true,cond_false,cond_true]
  refine ACalls.of ⟨10,[],[]⟩ (fn:=Tryz.f98) Tryz.func98 rfl rfl rfl (by kernel_rfl) (by kernel_rfl) (Nat.le_of_ble_eq_true rfl) ?_
  simp (maxSteps:=1000000) -implicitDefEqProofs only [go_sem,awp_seq,Nat.reduceBEq,Nat.reduceAdd,Nat.reduceLT]
  refine callA_tt C ?_
  simp (maxSteps:=1000000) -implicitDefEqProofs only [Bool.not_true,c0,go_sem,awp_seq,Nat.reduceBNe,Nat.reduceBEq,Nat.reduceLeDiff,Nat.reduceLT]
 have c0:=decide_eq_false h0
 by_cases h1:9999999<n0
 ·have c1:=decide_eq_true h1
  simp only [c0,c1,Bool.not_true,cond_false,cond_true]
  refine ACalls.of ⟨10,[],[]⟩ (fn:=Tryz.f98) Tryz.func98 rfl rfl rfl (by kernel_rfl) (by kernel_rfl) (Nat.le_of_ble_eq_true rfl) ?_
  simp (maxSteps:=1000000) -implicitDefEqProofs only [go_sem,awp_seq,Nat.reduceBEq,Nat.reduceAdd,Nat.reduceLT]
  refine callA_tt C ?_
  simp (maxSteps:=1000000) -implicitDefEqProofs only [Bool.not_true,c0,c1,go_sem,awp_seq,Nat.reduceBNe,Nat.reduceBEq,Nat.reduceLeDiff,Nat.reduceLT]
 have c1:=decide_eq_false h1
 by_cases h2:n1<0
 ·have c2:=decide_eq_true h2
  simp only [c0,c1,c2,Bool.not_true,cond_false,cond_true]
  refine ACalls.of ⟨10,[],[]⟩ (fn:=Tryz.f98) Tryz.func98 rfl rfl rfl (by kernel_rfl) (by kernel_rfl) (Nat.le_of_ble_eq_true rfl) ?_
  simp (maxSteps:=1000000) -implicitDefEqProofs only [go_sem,awp_seq,Nat.reduceBEq,Nat.reduceAdd,Nat.reduceLT]
  refine callA_tt C ?_
  simp (maxSteps:=1000000) -implicitDefEqProofs only [Bool.not_true,c0,c1,c2,go_sem,awp_seq,Nat.reduceBNe,Nat.reduceBEq,Nat.reduceLeDiff,Nat.reduceLT]
 have c2:=decide_eq_false h2
 by_cases h3:9999999<n1
 ·have c3:=decide_eq_true h3
  simp only [c0,c1,c2,c3,Bool.not_true,cond_false,cond_true]
  refine ACalls.of ⟨10,[],[]⟩ (fn:=Tryz.f98) Tryz.func98 rfl rfl rfl (by kernel_rfl) (by kernel_rfl) (Nat.le_of_ble_eq_true rfl) ?_
  simp (maxSteps:=1000000) -implicitDefEqProofs only [go_sem,awp_seq,Nat.reduceBEq,Nat.reduceAdd,Nat.reduceLT]
  refine callA_tt C ?_
  simp (maxSteps:=1000000) -implicitDefEqProofs only [Bool.not_true,c0,c1,c2,c3,go_sem,awp_seq,Nat.reduceBNe,Nat.reduceBEq,Nat.reduceLeDiff,Nat.reduceLT]
 have c3:=decide_eq_false h3
 by_cases h4:n2<0
 ·have c4:=decide_eq_true h4
  simp only [c0,c1,c2,c3,c4,Bool.not_true,cond_false,cond_true]
  refine ACalls.of ⟨10,[],[]⟩ (fn:=Tryz.f98) Tryz.func98 rfl rfl rfl (by kernel_rfl) (by kernel_rfl) (Nat.le_of_ble_eq_true rfl) ?_
  simp (maxSteps:=1000000) -implicitDefEqProofs only [go_sem,awp_seq,Nat.reduceBEq,Nat.reduceAdd,Nat.reduceLT]
  refine callA_tt C ?_
  simp (maxSteps:=1000000) -implicitDefEqProofs only [Bool.not_true,c0,c1,c2,c3,c4,go_sem,awp_seq,Nat.reduceBNe,Nat.reduceBEq,Nat.reduceLeDiff,Nat.reduceLT]
 have c4:=decide_eq_false h4
 by_cases h5:2000<n2
 ·have c5:=decide_eq_true h5
  simp only [c0,c1,c2,c3,c4,c5,Bool.not_true,cond_false,cond_true]
  refine ACalls.of ⟨10,[],[]⟩ (fn:=Tryz.f98) Tryz.func98 rfl rfl rfl (by kernel_rfl) (by kernel_rfl) (Nat.le_of_ble_eq_true rfl) ?_
  simp (maxSteps:=1000000) -implicitDefEqProofs only [go_sem,awp_seq,Nat.reduceBEq,Nat.reduceAdd,Nat.reduceLT]
  refine callA_tt C ?_
  simp (maxSteps:=1000000) -implicitDefEqProofs only [Bool.not_true,c0,c1,c2,c3,c4,c5,go_sem,awp_seq,Nat.reduceBNe,Nat.reduceBEq,Nat.reduceLeDiff,Nat.reduceLT]
 have c5:=decide_eq_false h5
 by_cases h6:n3<1
 ·have c6:=decide_eq_true h6
  simp only [c0,c1,c2,c3,c4,c5,c6,Bool.not_true,cond_false,cond_true]
  refine ACalls.of ⟨10,[],[]⟩ (fn:=Tryz.f98) Tryz.func98 rfl rfl rfl (by kernel_rfl) (by kernel_rfl) (Nat.le_of_ble_eq_true rfl) ?_
  simp (maxSteps:=1000000) -implicitDefEqProofs only [go_sem,awp_seq,Nat.reduceBEq,Nat.reduceAdd,Nat.reduceLT]
  refine callA_tt C ?_
  simp (maxSteps:=1000000) -implicitDefEqProofs only [Bool.not_true,c0,c1,c2,c3,c4,c5,c6,go_sem,awp_seq,Nat.reduceBNe,Nat.reduceBEq,Nat.reduceLeDiff,Nat.reduceLT]
 have c6:=decide_eq_false h6
 by_cases h7:2000<n3
 ·have c7:=decide_eq_true h7
  simp only [c0,c1,c2,c3,c4,c5,c6,c7,Bool.not_true,cond_false,cond_true]
  refine ACalls.of ⟨10,[],[]⟩ (fn:=Tryz.f98) Tryz.func98 rfl rfl rfl (by kernel_rfl) (by kernel_rfl) (Nat.le_of_ble_eq_true rfl) ?_
  simp (maxSteps:=1000000) -implicitDefEqProofs only [go_sem,awp_seq,Nat.reduceBEq,Nat.reduceAdd,Nat.reduceLT]
  refine callA_tt C ?_
  simp (maxSteps:=1000000) -implicitDefEqProofs only [Bool.not_true,c0,c1,c2,c3,c4,c5,c6,c7,go_sem,awp_seq,Nat.reduceBNe,Nat.reduceBEq,Nat.reduceLeDiff,Nat.reduceLT]
 have c7:=decide_eq_false h7
 by_cases h8:n4<1
 ·have c8:=decide_eq_true h8
  simp only [c0,c1,c2,c3,c4,c5,c6,c7,c8,Bool.not_true,cond_false,cond_true]
  refine ACalls.of ⟨10,[],[]⟩ (fn:=Tryz.f98) Tryz.func98 rfl rfl rfl (by kernel_rfl) (by kernel_rfl) (Nat.le_of_ble_eq_true rfl) ?_
  simp (maxSteps:=1000000) -implicitDefEqProofs only [go_sem,awp_seq,Nat.reduceBEq,Nat.reduceAdd,Nat.reduceLT]
  refine callA_tt C ?_
  simp (maxSteps:=1000000) -implicitDefEqProofs only [Bool.not_true,c0,c1,c2,c3,c4,c5,c6,c7,c8,go_sem,awp_seq,Nat.reduceBNe,Nat.reduceBEq,Nat.reduceLeDiff,Nat.reduceLT]
 have c8:=decide_eq_false h8
 by_cases h9:5<n4
 ·have c9:=decide_eq_true h9
  simp only [c0,c1,c2,c3,c4,c5,c6,c7,c8,c9,Bool.not_true,cond_false,cond_true]
  refine ACalls.of ⟨10,[],[]⟩ (fn:=Tryz.f98) Tryz.func98 rfl rfl rfl (by kernel_rfl) (by kernel_rfl) (Nat.le_of_ble_eq_true rfl) ?_
  simp (maxSteps:=1000000) -implicitDefEqProofs only [go_sem,awp_seq,Nat.reduceBEq,Nat.reduceAdd,Nat.reduceLT]
  refine callA_tt C ?_
  simp (maxSteps:=1000000) -implicitDefEqProofs only [Bool.not_true,c0,c1,c2,c3,c4,c5,c6,c7,c8,c9,go_sem,awp_seq,Nat.reduceBNe,Nat.reduceBEq,Nat.reduceLeDiff,Nat.reduceLT]
 have c9:=decide_eq_false h9
 by_cases h10:n5<0
 ·have c10:=decide_eq_true h10
  simp only [c0,c1,c2,c3,c4,c5,c6,c7,c8,c9,c10,Bool.not_true,cond_false,cond_true]
  refine ACalls.of ⟨10,[],[]⟩ (fn:=Tryz.f98) Tryz.func98 rfl rfl rfl (by kernel_rfl) (by kernel_rfl) (Nat.le_of_ble_eq_true rfl) ?_
  simp (maxSteps:=1000000) -implicitDefEqProofs only [go_sem,awp_seq,Nat.reduceBEq,Nat.reduceAdd,Nat.reduceLT]
  refine callA_tt C ?_
  simp (maxSteps:=1000000) -implicitDefEqProofs only [Bool.not_true,c0,c1,c2,c3,c4,c5,c6,c7,c8,c9,c10,go_sem,awp_seq,Nat.reduceBNe,Nat.reduceBEq,Nat.reduceLeDiff,Nat.reduceLT]
 have c10:=decide_eq_false h10
 by_cases h11:10<n5
 ·have c11:=decide_eq_true h11
  simp only [c0,c1,c2,c3,c4,c5,c6,c7,c8,c9,c10,c11,Bool.not_true,cond_false,cond_true]
  refine ACalls.of ⟨10,[],[]⟩ (fn:=Tryz.f98) Tryz.func98 rfl rfl rfl (by kernel_rfl) (by kernel_rfl) (Nat.le_of_ble_eq_true rfl) ?_
  simp (maxSteps:=1000000) -implicitDefEqProofs only [go_sem,awp_seq,Nat.reduceBEq,Nat.reduceAdd,Nat.reduceLT]
  refine callA_tt C ?_
  simp (maxSteps:=1000000) -implicitDefEqProofs only [Bool.not_true,c0,c1,c2,c3,c4,c5,c6,c7,c8,c9,c10,c11,go_sem,awp_seq,Nat.reduceBNe,Nat.reduceBEq,Nat.reduceLeDiff,Nat.reduceLT]
 have c11:=decide_eq_false h11
 simp only [c0,c1,c2,c3,c4,c5,c6,c7,c8,c9,c10,c11,Bool.not_true,cond_false]
 refine ACalls.of ⟨10,[],[]⟩ (fn:=Tryz.f98) Tryz.func98 rfl rfl rfl (by kernel_rfl) (by kernel_rfl) (Nat.le_of_ble_eq_true rfl) ?_
 simp (maxSteps:=1000000) -implicitDefEqProofs only [go_sem,awp_seq,Nat.reduceBEq,Nat.reduceAdd,Nat.reduceLT]
 refine callA_tt C ?_
 simp (maxSteps:=1000000) -implicitDefEqProofs only [Bool.not_true,c0,c1,c2,c3,c4,c5,c6,c7,c8,c9,c10,c11,go_sem,awp_seq,Nat.reduceBNe,Nat.reduceBEq,Nat.reduceLeDiff,Nat.reduceLT]
 refine callA_tt M ?_
 simp (maxSteps:=1000000) -implicitDefEqProofs only [go_sem,awp_seq,Nat.reduceBEq]
def AtId (pool:List PI) (B:Bool) (x:Nat × Int):Prop:=x.1≤pool.length∧B=idsE (pool.drop x.1) x.2∧(x.1=0∧x.2=0∨0<x.1∧∃y,pool[x.1-1]? = some y∧x.2=y.1)
theorem check_w (pool:List PI) (k:Int):AT 57 [.sl 9 (pool.map itA),i64 k] (i64 (poolE pool k)):=by
 unfold poolE
 have g0:decide ((18:Int)<(pool.length:Nat))=decide (18<pool.length):=decide_eq_decide.2 (by omega)
 by_cases h0:18<pool.length
 ·rw [if_pos h0]
  rw [decide_eq_true h0]at g0
  refine ACalls.of ⟨43,[],[]⟩ (fn:=Tryz.f57) Tryz.func57 rfl rfl rfl (by kernel_rfl) (by kernel_rfl) (Nat.le_of_ble_eq_true rfl) ?_
  simp (maxSteps:=1000000) -implicitDefEqProofs only [g0,List.length_map,go_sem,awp_seq,Nat.reduceBEq,Nat.reduceAdd,Nat.reduceLT]
 rw [if_neg h0]
 rw [decide_eq_false h0]at g0
 obtain ⟨B,hB⟩:∃B,B=idsE pool 0:=⟨_,rfl⟩
 obtain ⟨E,hE⟩:∃E,E=itsE k pool:=⟨_,rfl⟩
 rw [←hB,←hE]
 refine ACalls.of ⟨43,[],[]⟩ (fn:=Tryz.f57) Tryz.func57 rfl rfl rfl (by kernel_rfl) (by kernel_rfl) (Nat.le_of_ble_eq_true rfl) ?_
 simp (maxSteps:=1000000) -implicitDefEqProofs only [g0,List.length_map,go_sem,awp_seq,Nat.reduceBEq,Nat.reduceAdd,Nat.reduceLT]
 refine loop_mk (α:={x:Nat × Int // AtId pool B x}) (fun x=>[(0,some (.av (.sl 9 (pool.map itA)))),(1,some (.av (i64 k))),(4,some (.av (i64 0))),(13,some (.av (.sl 9 (pool.map itA)))),(14,some (.av (i64 (pool.length:Nat)))),(15,some (.av (i64 (x.1.1:Nat))))]) (fun _=>[]) (fun _=>[]) (fun x=>pool.length-x.1.1) ⟨(0,0),Nat.zero_le _,hB,.inl ⟨rfl,rfl⟩⟩ ?_ ?_
 ·simp (maxSteps:=1000000) -implicitDefEqProofs only [go_sem,awp_seq,Nat.reduceBEq,Int.cast_ofNat_Int]
 clear hB
 rintro ⟨⟨j,a⟩,hj,hB,hp⟩
 dsimp only at hj hB hp
 by_cases hlt:j<pool.length
 ·have q1:decide (((j:Nat):Int)<(pool.length:Nat))=true:=by simp;omega
  have e1:=map_get itA pool hlt
  have w1:IntKind.i64.wrap ((j:Int)+1)=((j+1:Nat):Int):=by rw [IntWalk.i64_in _ (by omega)];omega
  have e3:pool[j]? = some pool[j]:=List.getElem?_eq_getElem hlt
  rw [List.drop_eq_getElem_cons hlt]at hB
  generalize pool[j]=y at *
  have N:=numbered_c y.1
  unfold idsE at hB
  cases hn:numB y.1 with
  | false =>
   rw [hn,if_pos rfl]at hB
   subst hB
   rw [hn]at N
   simp (maxSteps:=1000000) -implicitDefEqProofs only [q1,e1,Int.toNat_natCast,Int.natCast_nonneg,go_sem,awp_seq,Nat.reduceBEq,Nat.reduceAdd,Nat.reduceLT]
   refine callA_tt N ?_
   simp (maxSteps:=1000000) -implicitDefEqProofs only [Bool.not_false,go_sem,awp_seq,Nat.reduceBNe,Nat.reduceBEq,Nat.reduceLT]
  | true =>
   rw [hn,if_neg (by simp)]at hB
   rw [hn]at N
   rcases hp with ⟨h00,rfl⟩|⟨hp0,y',hy,rfl⟩
   ·have hy1:¬y.1≤0:=by
     unfold numB at hn
     have:=(Bool.and_eq_true_iff.1 hn).1
     simp at this
     omega
    rw [if_neg hy1]at hB
    have q2:decide ((0:Int)<((j:Nat):Int))=false:=by simp;omega
    simp (maxSteps:=1000000) -implicitDefEqProofs only [q1,e1,Int.toNat_natCast,Int.natCast_nonneg,go_sem,awp_seq,Nat.reduceBEq,Nat.reduceAdd,Nat.reduceLT]
    refine callA_tt N ?_
    simp (maxSteps:=1000000) -implicitDefEqProofs only [Bool.not_true,q2,w1,go_sem,awp_seq,Nat.reduceBNe,Nat.reduceBEq,Nat.reduceLT]
    refine roundK_mk ⟨(j+1,y.1),hlt,hB,.inr ⟨Nat.succ_pos _,y,e3,rfl⟩⟩ ?_ (by show pool.length-(j+1)<pool.length-j;omega)
    simp (maxSteps:=1000000) -implicitDefEqProofs only [go_sem,awp_seq,Nat.reduceBEq]
   ·have q2:decide ((0:Int)<((j:Nat):Int))=true:=by simp;omega
    have w2:IntKind.i64.wrap ((j:Int)-1)=((j-1:Nat):Int):=by rw [IntWalk.i64_in _ (by omega)];omega
    have e2:(pool.map itA)[j-1]? = some (itA y'):=by rw [List.getElem?_map,hy];rfl
    by_cases hle:y.1≤y'.1
    ·rw [if_pos hle]at hB
     subst hB
     have q3:=decide_eq_true hle
     simp (maxSteps:=1000000) -implicitDefEqProofs only [q1,e1,Int.toNat_natCast,Int.natCast_nonneg,go_sem,awp_seq,Nat.reduceBEq,Nat.reduceAdd,Nat.reduceLT]
     refine callA_tt N ?_
     simp (maxSteps:=1000000) -implicitDefEqProofs only [Bool.not_true,q2,q3,w2,e2,Int.toNat_natCast,Int.natCast_nonneg,go_sem,awp_seq,Nat.reduceBNe,Nat.reduceBEq,Nat.reduceLT]
    ·rw [if_neg hle]at hB
     have q3:=decide_eq_false hle
     simp (maxSteps:=1000000) -implicitDefEqProofs only [q1,e1,Int.toNat_natCast,Int.natCast_nonneg,go_sem,awp_seq,Nat.reduceBEq,Nat.reduceAdd,Nat.reduceLT]
     refine callA_tt N ?_
     simp (maxSteps:=1000000) -implicitDefEqProofs only [Bool.not_true,q2,q3,w1,w2,e2,Int.toNat_natCast,Int.natCast_nonneg,go_sem,awp_seq,Nat.reduceBNe,Nat.reduceBEq,Nat.reduceLT]
     refine roundK_mk ⟨(j+1,y.1),by show j+1≤_;omega,hB,.inr ⟨Nat.succ_pos _,y,e3,rfl⟩⟩ ?_ (by show pool.length-(j+1)<pool.length-j;omega)
     simp (maxSteps:=1000000) -implicitDefEqProofs only [go_sem,awp_seq,Nat.reduceBEq]
 have q1:decide (((j:Nat):Int)<(pool.length:Nat))=false:=by simp;omega
 rw [List.drop_of_length_le (by omega)]at hB
 have hB:B=true:=hB
 subst hB
 simp (maxSteps:=1000000) -implicitDefEqProofs only [q1,List.length_map,go_sem,awp_seq,Nat.reduceBEq,Nat.reduceLT]
 refine loop_mk (α:={i:Nat // i≤pool.length∧E=itsE k (pool.drop i)}) (fun i=>[(0,some (.av (.sl 9 (pool.map itA)))),(1,some (.av (i64 k))),(4,some (.av (i64 0))),(40,some (.av (.sl 9 (pool.map itA)))),(41,some (.av (i64 (pool.length:Nat)))),(42,some (.av (i64 (i.1:Nat))))]) (fun _=>[]) (fun _=>[]) (fun i=>pool.length-i.1) ⟨0,Nat.zero_le _,hE⟩ ?_ ?_
 ·simp (maxSteps:=1000000) -implicitDefEqProofs only [go_sem,awp_seq,Nat.reduceBEq,Int.cast_ofNat_Int]
 clear hE hp q1
 rintro ⟨i,hi,hE⟩
 by_cases hlt:i<pool.length
 ·have q1:decide (((i:Nat):Int)<(pool.length:Nat))=true:=by simp;omega
  have e1:=map_get itA pool hlt
  have w1:IntKind.i64.wrap ((i:Int)+1)=((i+1:Nat):Int):=by rw [IntWalk.i64_in _ (by omega)];omega
  rw [List.drop_eq_getElem_cons hlt]at hE
  generalize pool[i]=y at *
  have C:=item_c y k
  unfold itsE at hE
  by_cases he:itE y k≠0
  ·rw [if_pos he]at hE
   rw [←hE]at C he
   have q2:(E != 0)=true:=by simpa using he
   simp (maxSteps:=1000000) -implicitDefEqProofs only [q1,e1,Int.toNat_natCast,Int.natCast_nonneg,go_sem,awp_seq,Nat.reduceBEq,Nat.reduceAdd,Nat.reduceLeDiff,Nat.reduceLT]
   refine callA_tt C ?_
   simp (maxSteps:=1000000) -implicitDefEqProofs only [q2,go_sem,awp_seq,Nat.reduceBEq,Nat.reduceLeDiff,Nat.reduceLT]
   rfl
  ·rw [if_neg he]at hE
   rw [Classical.not_not.1 he]at C
   simp (maxSteps:=1000000) -implicitDefEqProofs only [q1,e1,Int.toNat_natCast,Int.natCast_nonneg,go_sem,awp_seq,Nat.reduceBEq,Nat.reduceAdd,Nat.reduceLeDiff,Nat.reduceLT]
   refine callA_tt C ?_
   simp (maxSteps:=1000000) -implicitDefEqProofs only [w1,go_sem,awp_seq,Nat.reduceBEq,Nat.reduceLeDiff,Nat.reduceLT]
   refine roundK_mk ⟨i+1,hlt,hE⟩ ?_ (by show pool.length-(i+1)<pool.length-i;omega)
   simp (maxSteps:=1000000) -implicitDefEqProofs only [go_sem,awp_seq,Nat.reduceBEq]
 ·have q1:decide (((i:Nat):Int)<(pool.length:Nat))=false:=by simp;omega
  rw [List.drop_of_length_le (by omega)]at hE
  have hE:E=0:=hE
  subst hE
  simp (maxSteps:=1000000) -implicitDefEqProofs only [q1,go_sem,awp_seq,Nat.reduceBEq,Nat.reduceLT]
  rfl
theorem check_c (pool:List PI) (k:Int):AC 57 [.sl 9 (pool.map itA),i64 k] (i64 (poolE pool k)):=(check_w pool k).ofT
def rowsN:List PI→Int
 | []=>0
 | y :: _=>(y.2.2.2.2.2.2.2.2.length:Nat)
def taskE (n:Int) (rs:List RuleV) (pool:List PI) (l:List (Int × Int)):Int :=
 if specE n rs≠0 then specE n rs else if poolE pool (rowsN pool)≠0 then poolE pool (rowsN pool) else if 400<l.length then 5 else 0
theorem task_c (n:Int) (rs:List RuleV) (pool:List PI) (l:List (Int × Int)) (hl:pool.length≤1048576):AC 40 [.agg [i64 n,rulesA rs],.sl 9 (pool.map itA),.sl 2 (l.map prA)] (i64 (taskE n rs pool l)):=by
 have V:=bvalid_c n rs
 have C:=check_c pool (rowsN pool)
 unfold taskE
 by_cases h1:specE n rs=0
 case neg =>
  have g1:(specE n rs != 0)=true:=by simpa using h1
  rw [if_pos h1]
  generalize specE n rs=e at *
  refine ACalls.of ⟨10,[],[]⟩ (fn:=Tryz.f40) Tryz.func40 rfl rfl rfl (by kernel_rfl) (by kernel_rfl) (Nat.le_of_ble_eq_true rfl) ?_
  simp (maxSteps:=1000000) -implicitDefEqProofs only [go_sem,awp_seq,Nat.reduceBEq,Nat.reduceAdd,Nat.reduceLT]
  refine callA_t V ?_
  simp (maxSteps:=1000000) -implicitDefEqProofs only [g1,go_sem,awp_seq,Nat.reduceBEq,Nat.reduceLeDiff,Nat.reduceLT]
 rw [if_neg (by rw [h1];simp)]
 rw [h1]at V
 have z0:((0:Int) != 0)=false:=rfl
 generalize hp:poolE pool (rowsN pool)=e at *
 have g5:decide ((400:Int)<(l.length:Nat))=decide (400<l.length):=decide_eq_decide.2 (by omega)
 cases pool with
 | nil =>
  have C:AC 57 [.sl 9 [],i64 0] (i64 e):=C
  by_cases h2:e=0
  ·subst h2
   rw [if_neg (by simp)]
   by_cases h3:400<l.length
   ·rw [if_pos h3]
    rw [decide_eq_true h3]at g5
    refine ACalls.of ⟨10,[],[]⟩ (fn:=Tryz.f40) Tryz.func40 rfl rfl rfl (by kernel_rfl) (by kernel_rfl) (Nat.le_of_ble_eq_true rfl) ?_
    simp (maxSteps:=1000000) -implicitDefEqProofs only [go_sem,awp_seq,Nat.reduceBEq,Nat.reduceAdd,Nat.reduceLT]
    refine callA_t V ?_
    simp (maxSteps:=1000000) -implicitDefEqProofs only [z0,List.map_nil,List.length_nil,go_sem,awp_seq,Nat.reduceBEq,Nat.reduceLeDiff,Nat.reduceLT,Int.reduceLT,Int.cast_ofNat_Int]
    refine callA_mk (q:=[]) C ?_
    simp (maxSteps:=1000000) -implicitDefEqProofs only [z0,g5,List.length_map,go_sem,awp_seq,Nat.reduceBEq,Nat.reduceLeDiff,Nat.reduceLT]
   ·rw [if_neg h3]
    rw [decide_eq_false h3]at g5
    refine ACalls.of ⟨10,[],[]⟩ (fn:=Tryz.f40) Tryz.func40 rfl rfl rfl (by kernel_rfl) (by kernel_rfl) (Nat.le_of_ble_eq_true rfl) ?_
    simp (maxSteps:=1000000) -implicitDefEqProofs only [go_sem,awp_seq,Nat.reduceBEq,Nat.reduceAdd,Nat.reduceLT]
    refine callA_t V ?_
    simp (maxSteps:=1000000) -implicitDefEqProofs only [z0,List.map_nil,List.length_nil,go_sem,awp_seq,Nat.reduceBEq,Nat.reduceLeDiff,Nat.reduceLT,Int.reduceLT,Int.cast_ofNat_Int]
    refine callA_mk (q:=[]) C ?_
    simp (maxSteps:=1000000) -implicitDefEqProofs only [z0,g5,List.length_map,go_sem,awp_seq,Nat.reduceBEq,Nat.reduceLeDiff,Nat.reduceLT]
  ·have g2:(e != 0)=true:=by simpa using h2
   rw [if_pos h2]
   refine ACalls.of ⟨10,[],[]⟩ (fn:=Tryz.f40) Tryz.func40 rfl rfl rfl (by kernel_rfl) (by kernel_rfl) (Nat.le_of_ble_eq_true rfl) ?_
   simp (maxSteps:=1000000) -implicitDefEqProofs only [go_sem,awp_seq,Nat.reduceBEq,Nat.reduceAdd,Nat.reduceLT]
   refine callA_t V ?_
   simp (maxSteps:=1000000) -implicitDefEqProofs only [z0,List.map_nil,List.length_nil,go_sem,awp_seq,Nat.reduceBEq,Nat.reduceLeDiff,Nat.reduceLT,Int.reduceLT,Int.cast_ofNat_Int]
   refine callA_mk (q:=[]) C ?_
   simp (maxSteps:=1000000) -implicitDefEqProofs only [g2,go_sem,awp_seq,Nat.reduceBEq,Nat.reduceLeDiff,Nat.reduceLT]
 | cons y ys =>
  have C:AC 57 [.sl 9 (itA y :: ys.map itA),i64 (y.2.2.2.2.2.2.2.2.length:Nat)] (i64 e):=C
  have gl:decide ((0:Int)<((ys.length:Nat):Int)+1)=true:=decide_eq_true (by omega)
  have gl2:decide ((0:Int)<((ys.length+1:Nat):Int))=true:=decide_eq_true (by omega)
  by_cases h2:e=0
  ·subst h2
   rw [if_neg (by simp)]
   by_cases h3:400<l.length
   ·rw [if_pos h3]
    rw [decide_eq_true h3]at g5
    refine ACalls.of ⟨10,[],[]⟩ (fn:=Tryz.f40) Tryz.func40 rfl rfl rfl (by kernel_rfl) (by kernel_rfl) (Nat.le_of_ble_eq_true rfl) ?_
    simp (maxSteps:=1000000) -implicitDefEqProofs only [go_sem,awp_seq,Nat.reduceBEq,Nat.reduceAdd,Nat.reduceLT]
    refine callA_t V ?_
    simp (maxSteps:=1000000) -implicitDefEqProofs only [z0,gl,gl2,List.map_cons,List.length_cons,List.length_map,go_sem,awp_seq,Nat.reduceBEq,Nat.reduceLeDiff,Nat.reduceLT,Int.reduceLE,Int.reduceToNat]
    refine callA_mk (q:=[]) C ?_
    simp (maxSteps:=1000000) -implicitDefEqProofs only [z0,g5,List.length_map,go_sem,awp_seq,Nat.reduceBEq,Nat.reduceLeDiff,Nat.reduceLT]
   ·rw [if_neg h3]
    rw [decide_eq_false h3]at g5
    refine ACalls.of ⟨10,[],[]⟩ (fn:=Tryz.f40) Tryz.func40 rfl rfl rfl (by kernel_rfl) (by kernel_rfl) (Nat.le_of_ble_eq_true rfl) ?_
    simp (maxSteps:=1000000) -implicitDefEqProofs only [go_sem,awp_seq,Nat.reduceBEq,Nat.reduceAdd,Nat.reduceLT]
    refine callA_t V ?_
    simp (maxSteps:=1000000) -implicitDefEqProofs only [z0,gl,gl2,List.map_cons,List.length_cons,List.length_map,go_sem,awp_seq,Nat.reduceBEq,Nat.reduceLeDiff,Nat.reduceLT,Int.reduceLE,Int.reduceToNat]
    refine callA_mk (q:=[]) C ?_
    simp (maxSteps:=1000000) -implicitDefEqProofs only [z0,g5,List.length_map,go_sem,awp_seq,Nat.reduceBEq,Nat.reduceLeDiff,Nat.reduceLT]
  ·have g2:(e != 0)=true:=by simpa using h2
   rw [if_pos h2]
   refine ACalls.of ⟨10,[],[]⟩ (fn:=Tryz.f40) Tryz.func40 rfl rfl rfl (by kernel_rfl) (by kernel_rfl) (Nat.le_of_ble_eq_true rfl) ?_
   simp (maxSteps:=1000000) -implicitDefEqProofs only [go_sem,awp_seq,Nat.reduceBEq,Nat.reduceAdd,Nat.reduceLT]
   refine callA_t V ?_
   simp (maxSteps:=1000000) -implicitDefEqProofs only [z0,gl,gl2,List.map_cons,List.length_cons,List.length_map,go_sem,awp_seq,Nat.reduceBEq,Nat.reduceLeDiff,Nat.reduceLT,Int.reduceLE,Int.reduceToNat]
   refine callA_mk (q:=[]) C ?_
   simp (maxSteps:=1000000) -implicitDefEqProofs only [g2,go_sem,awp_seq,Nat.reduceBEq,Nat.reduceLeDiff,Nat.reduceLT]
theorem demV_one (r:RuleV):(demV r).one=true:=by
 unfold demV
 repeat' split
 all_goals rfl
theorem demV_norm (r:RuleV):normA Go.Proofs.YtmekiphpjpblpaaGreat.tab 76 (demV r)=demV r:=by
 unfold demV
 repeat' split
 all_goals rfl
theorem judge_c {n:Int} {rs:List RuleV} {l:List (Int × Int)} {ch:List Int} {f:FuncId} {pre post:List AV} (wr:Bool) (hll:l.length≤1048576) (hcl:ch.length≤1048576) (h20:rs.length≤20) (hok:∀r∈rs,demOk r=true) (F:RuleV→Bool) (hnl:(AV.fn (.func f) pre post).noLimb=true) (hf:∀r∈rs,AT f (pre ++ demV r :: post) (boo (F r))) :
  AT 43 [.agg [i64 n,rulesA rs],.sl 2 (l.map prA),.sl 1 (ch.map fun z=>i64 z),boo wr,.fn (.func f) pre post] (.sl 1 ((judgeE wr (!(conflE l ch).isEmpty) (rs.map F)).map fun z=>i64 z)):=by
 have CF:=confl_c l ch hll hcl
 have DM:=demands_c n rs h20 hok
 have a1:(rs.map demV).length≤1000:=by rw [List.length_map];omega
 have a2:(rs.map F).length=(rs.map demV).length:=by simp
 have a3:∀d∈rs.map demV,d.one=true:=fun d hd=>by
  obtain ⟨r,_,rfl⟩:=List.mem_map.1 hd
  exact demV_one r
 have a4:∀d∈rs.map demV,normA Go.Proofs.YtmekiphpjpblpaaGreat.tab 76 d=d:=fun d hd=>by
  obtain ⟨r,_,rfl⟩:=List.mem_map.1 hd
  exact demV_norm r
 have a5:∀i (hi:i<(rs.map demV).length) (hi2:i<(rs.map F).length),AT f (pre ++ (rs.map demV)[i] :: post) (boo (rs.map F)[i]):=fun i hi hi2=>by
  rw [List.getElem_map,List.getElem_map]
  exact hf _ (List.getElem_mem _)
 cases hc:(conflE l ch).isEmpty <;> cases wr
 ·exact judge_ft a1 a2 a3 a4 CF hc ⟨_,_,rfl⟩ ⟨_,_,rfl⟩ DM hnl a5
 ·exact judge_tt a1 a2 a3 a4 CF hc ⟨_,_,rfl⟩ ⟨_,_,rfl⟩ DM hnl a5
 ·exact judge_ff a1 a2 a3 a4 CF hc ⟨_,_,rfl⟩ ⟨_,_,rfl⟩ DM hnl a5
 ·exact judge_tf a1 a2 a3 a4 CF hc ⟨_,_,rfl⟩ ⟨_,_,rfl⟩ DM hnl a5
theorem pool_le {pool:List PI} {k:Int} (h:poolE pool k=0):pool.length≤18:=by
 unfold poolE at h
 split at h
 ·exact absurd h (by decide)
 ·omega
theorem task_ok {n:Int} {rs:List RuleV} {pool:List PI} {l:List (Int × Int)} (h:taskE n rs pool l=0):specE n rs=0∧pool.length≤18∧l.length≤400:=by
 unfold taskE at h
 by_cases h1:specE n rs=0
 ·rw [if_neg (by rw [h1];simp)]at h
  by_cases h2:poolE pool (rowsN pool)=0
  ·rw [if_neg (by rw [h2];simp)]at h
   by_cases h3:400<l.length
   ·rw [if_pos h3]at h;exact absurd h (by decide)
   ·exact ⟨h1,pool_le h2,by omega⟩
  ·rw [if_pos h2]at h;exact absurd h h2
 ·rw [if_pos h1]at h;exact absurd h h1
theorem pickE_len (pool:List PI):∀(ch:List Int) (acc:List PI),(pickE pool ch acc).1.length≤acc.length+ch.length
 | [],acc=>by simp [pickE]
 | id :: ch,acc=>by
  unfold pickE
  split
  ·simp
  ·rename_i y _
   have:=pickE_len pool ch (acc ++ [y])
   simp at this ⊢
   omega
theorem selE_len (pool:List PI) (ch:List Int):(selE pool ch).1.length≤ch.length:=by
 unfold selE
 split
 ·have:=pickE_len pool ch []
  simpa using this
 ·simp
theorem bro1_c (r:RuleV) (items:List PI) (hl:items.length≤1048576) (hr:RIn r) (hk:demOk r=true):AT 42 [demV r,.ptr [.sl 9 (items.map itA)]] (boo (brkE r items)):=by
 obtain ⟨t,a,f,a',hd,hm,hc⟩:=brkR_c r items hl hr hk
 generalize brkE r items=b at *
 generalize items.map itA=es at *
 rw [hd]
 refine ACalls.of ⟨4,[],[]⟩ (fn:=Tryz.f42) Tryz.func42 rfl rfl rfl (by kernel_rfl) (by kernel_rfl) (Nat.le_of_ble_eq_true rfl) ?_
 simp (maxSteps:=1000000) -implicitDefEqProofs only [go_sem,awp_seq,Nat.reduceBEq,Nat.reduceAdd,Nat.reduceLT]
 refine invA_mk hm ?_
 refine callA_tt hc ?_
 simp (maxSteps:=1000000) -implicitDefEqProofs only [go_sem,awp_seq,Nat.reduceBEq]
def broE (n:Int) (rs:List RuleV) (pool:List PI) (l:List (Int × Int)) (ch:List Int):List Int × Int :=
 if taskE n rs pool l≠0 then ([],taskE n rs pool l) else if (selE pool ch).2≠0 then ([],(selE pool ch).2) else
 (judgeE ((((selE pool ch).1.length:Nat):Int) != n) (!(conflE l ch).isEmpty) (rs.map fun r=>brkE r (selE pool ch).1),0)
theorem bro_c (n:Int) (rs:List RuleV) (pool:List PI) (l:List (Int × Int)) (ch:List Int) (hr:∀r∈rs,RIn r) (hl:pool.length≤1048576) (hll:l.length≤1048576) (hcl:ch.length≤1048576):AC 22 [.agg [i64 n,rulesA rs],.sl 9 (pool.map itA),.sl 2 (l.map prA),.sl 1 (ch.map fun z=>i64 z)] (.tup [.sl 1 ((broE n rs pool l ch).1.map fun z=>i64 z),i64 (broE n rs pool l ch).2]):=by
 have T:=task_c n rs pool l hl
 unfold broE
 by_cases h1:taskE n rs pool l=0
 case neg =>
  have g1:(taskE n rs pool l != 0)=true:=by simpa using h1
  rw [if_pos h1]
  generalize taskE n rs pool l=e at *
  refine ACalls.of ⟨14,[],[]⟩ (fn:=Tryz.f22) Tryz.func22 rfl rfl rfl (by kernel_rfl) (by kernel_rfl) (Nat.le_of_ble_eq_true rfl) ?_
  simp (maxSteps:=1000000) -implicitDefEqProofs only [go_sem,awp_seq,Nat.reduceBEq,Nat.reduceAdd,Nat.reduceLT]
  refine callA_mk (q:=[]) T ?_
  simp (maxSteps:=1000000) -implicitDefEqProofs only [g1,go_sem,awp_seq,Nat.reduceBEq,Nat.reduceLeDiff,Nat.reduceLT]
  all_goals rfl
 rw [if_neg (by rw [h1];simp)]
 rw [h1]at T
 obtain ⟨hs,hp,hpl⟩:=task_ok h1
 obtain ⟨hs1,hs2⟩:=spec_ok hs
 have S:=selected_c pool ch (by omega) hcl
 have hsl:=selE_len pool ch
 generalize selE pool ch=se at *
 obtain ⟨items,e2⟩:=se
 dsimp only at S hsl ⊢
 have z0:((0:Int) != 0)=false:=rfl
 by_cases h2:e2=0
 case neg =>
  have g2:(e2 != 0)=true:=by simpa using h2
  rw [if_pos h2]
  refine ACalls.of ⟨14,[],[]⟩ (fn:=Tryz.f22) Tryz.func22 rfl rfl rfl (by kernel_rfl) (by kernel_rfl) (Nat.le_of_ble_eq_true rfl) ?_
  simp (maxSteps:=1000000) -implicitDefEqProofs only [go_sem,awp_seq,Nat.reduceBEq,Nat.reduceAdd,Nat.reduceLT]
  refine callA_mk (q:=[]) T ?_
  simp (maxSteps:=1000000) -implicitDefEqProofs only [z0,go_sem,awp_seq,Nat.reduceBEq,Nat.reduceLeDiff,Nat.reduceLT]
  refine callA_t S ?_
  simp (maxSteps:=1000000) -implicitDefEqProofs only [g2,go_sem,awp_seq,Nat.reduceBEq,Nat.reduceLeDiff,Nat.reduceLT,Nat.reduceEqDiff]
  all_goals rfl
 subst h2
 rw [if_neg (by simp)]
 have hil:items.length≤1048576:=Nat.le_trans hsl hcl
 have J:=judge_c (n:=n) (rs:=rs) (l:=l) (ch:=ch) (f:=42) (pre:=[]) (post:=[.ptr [.sl 9 (items.map itA)]]) (((items.length:Nat):Int) != n) hll hcl hs1 hs2 (fun r=>brkE r items) rfl (fun r hr'=>bro1_c r items hil (hr r hr') (hs2 r hr'))
 generalize judgeE (((items.length:Nat):Int) != n) (!(conflE l ch).isEmpty) (rs.map fun r=>brkE r items)=R at *
 have gw:((((items.length:Nat):Int) != n))=(((items.length:Nat):Int) != n):=rfl
 generalize hw:(((items.length:Nat):Int) != n)=wr at *
 refine ACalls.of ⟨14,[(7,11)],[]⟩ (fn:=Tryz.f22) Tryz.func22 rfl rfl rfl (by kernel_rfl) (by kernel_rfl) (Nat.le_of_ble_eq_true rfl) ?_
 simp (maxSteps:=1000000) -implicitDefEqProofs only [go_sem,awp_seq,Nat.reduceBEq,Nat.reduceAdd,Nat.reduceLT]
 refine callA_mk (q:=[]) T ?_
 simp (maxSteps:=1000000) -implicitDefEqProofs only [z0,go_sem,awp_seq,Nat.reduceBEq,Nat.reduceLeDiff,Nat.reduceLT]
 refine callA_t S ?_
 simp (maxSteps:=1000000) -implicitDefEqProofs only [z0,List.length_map,gw,hw,go_sem,awp_seq,Nat.reduceBEq,Nat.reduceAdd,Nat.reduceLeDiff,Nat.reduceLT,Nat.reduceEqDiff]
 refine callA_t J ?_
 simp (maxSteps:=1000000) -implicitDefEqProofs only [go_sem,awp_seq,Nat.reduceBEq]
def exdE (n:Int) (rs:List RuleV) (pool:List PI) (l:List (Int × Int)) (ch:List Int):List Int × Int :=
 if taskE n rs pool l≠0 then ([],taskE n rs pool l) else if (selE pool ch).2≠0 then ([],(selE pool ch).2) else
 (judgeE (decide (n<(((selE pool ch).1.length:Nat):Int))) (!(conflE l ch).isEmpty) (rs.map fun r=>excE r (selE pool ch).1),0)
theorem ids_cons {y:PI} {ys:List PI} {a:Int} (h:idsE (y :: ys) a=true):a<y.1∧idsE ys y.1=true:=by
 unfold idsE at h
 cases hn:numB y.1 with
 | false=>rw [hn]at h;simp at h
 | true =>
  rw [hn]at h
  by_cases h1:y.1≤a
  ·simp [h1]at h
  ·exact ⟨by omega,by simpa [h1]using h⟩
theorem ids_lt:∀{pool:List PI} {a:Int},idsE pool a=true→∀y∈pool,a<y.1
 | [],_,_,y,hy=>absurd hy List.not_mem_nil
 | x :: xs,a,h,y,hy=>by
  obtain ⟨h1,h2⟩:=ids_cons h
  rcases List.mem_cons.1 hy with rfl|hy
  ·exact h1
  ·have:=ids_lt h2 y hy;omega
theorem rises_cons {c:Int}:∀{cs:List Int},risesB (c :: cs)=true→risesB cs=true∧∀d∈cs,c<d
 | [],_=>⟨rfl,fun d hd=>absurd hd List.not_mem_nil⟩
 | e :: cs,h=>by
  unfold risesB at h
  obtain ⟨h1,h2⟩:=Bool.and_eq_true_iff.1 h
  have h1:=of_decide_eq_true h1
  refine ⟨h2,fun d hd=>?_⟩
  rcases List.mem_cons.1 hd with rfl|hd
  ·exact h1
  ·have:=(rises_cons h2).2 d hd;omega
theorem pick_skip {y:PI} {ys:List PI}:∀(ch:List Int) (acc:List PI),(∀c∈ch,y.1≠c)→pickE (y :: ys) ch acc=pickE ys ch acc
 | [],_,_=>rfl
 | c :: cs,acc,h=>by
  have hc:idP c y=false:=by unfold idP;simpa using h c (by simp)
  unfold pickE
  rw [List.find?_cons,hc]
  cases ys.find? (idP c)with
  | none=>rfl
  | some z=>exact pick_skip cs _ fun d hd=>h d (by simp [hd])
theorem pick_filter:∀(pool:List PI) (a:Int) (ch:List Int) (acc items:List PI),idsE pool a=true→risesB ch=true→pickE pool ch acc=(items,0)→items=acc ++ pool.filter (fun y=>decide (y.1∈ch))∧∀c∈ch,∃y∈pool,y.1=c
 | [],a,[],acc,items,_,_,h=>by
  refine ⟨?_,fun c hc=>absurd hc List.not_mem_nil⟩
  have:acc=items:=congrArg Prod.fst h
  simp [this]
 | [],a,c :: cs,acc,items,_,_,h=>by
  have:(6:Int)=0:=congrArg Prod.snd h
  omega
 | y :: ys,a,[],acc,items,_,_,h=>by
  refine ⟨?_,fun c hc=>absurd hc List.not_mem_nil⟩
  have:acc=items:=congrArg Prod.fst h
  simp [this]
 | y :: ys,a,c :: cs,acc,items,hi,hr,h=>by
  obtain ⟨h1,h2⟩:=ids_cons hi
  obtain ⟨r1,r2⟩:=rises_cons hr
  have hys:=ids_lt h2
  by_cases hc:y.1=c
  ·have hf:pickE (y :: ys) (c :: cs) acc=pickE (y :: ys) cs (acc ++ [y]):=by
    conv=>lhs;unfold pickE
    have:idP c y=true:=by unfold idP;simpa using hc
    rw [List.find?_cons,this]
   rw [hf,pick_skip cs _ fun d hd=>by have:=r2 d hd;omega]at h
   obtain ⟨q1,q2⟩:=pick_filter ys y.1 cs _ _ h2 r1 h
   refine ⟨?_,fun d hd=>?_⟩
   ·rw [q1,List.filter_cons_of_pos (by simp [hc])]
    rw [List.append_assoc]
    congr 1
    show [y] ++ _=y :: _
    rw [List.singleton_append]
    congr 1
    refine List.filter_congr fun z hz=>?_
    have:=hys z hz
    have hne:z.1≠c:=by omega
    simp [hne]
   ·rcases List.mem_cons.1 hd with rfl|hd
    ·exact ⟨y,by simp,hc⟩
    ·obtain ⟨z,hz,e⟩:=q2 d hd
     exact ⟨z,by simp [hz],e⟩
  ·by_cases hlt:c<y.1
   ·exfalso
    have hn:(y :: ys).find? (idP c)=none:=by
     rw [List.find?_eq_none]
     intro z hz
     have hz1:y.1≤z.1:=by
      rcases List.mem_cons.1 hz with rfl|hz
      ·omega
      ·have:=hys z hz;omega
     unfold idP
     simp
     omega
    unfold pickE at h
    rw [hn]at h
    have:(6:Int)=0:=congrArg Prod.snd h
    omega
   ·have hall:∀d∈c :: cs,y.1≠d:=fun d hd=>by
     rcases List.mem_cons.1 hd with rfl|hd
     ·exact hc
     ·have:=r2 d hd;omega
    rw [pick_skip _ _ hall]at h
    obtain ⟨q1,q2⟩:=pick_filter ys y.1 (c :: cs) _ _ h2 hr h
    refine ⟨?_,fun d hd=>?_⟩
    ·rw [q1,List.filter_cons_of_neg]
     simp only [decide_eq_true_eq]
     exact fun hm=>hall _ hm rfl
    ·obtain ⟨z,hz,e⟩:=q2 d hd
     exact ⟨z,by simp [hz],e⟩
theorem pick_ok (pool:List PI):∀(ch:List Int) (acc:List PI),(∀c∈ch,∃y∈pool,y.1=c)→(pickE pool ch acc).2=0
 | [],_,_=>rfl
 | c :: cs,acc,h=>by
  unfold pickE
  cases hf:pool.find? (idP c)with
  | none =>
   obtain ⟨y,hy,e⟩:=h c (by simp)
   have:=List.find?_eq_none.1 hf y hy
   unfold idP at this
   simp [e]at this
  | some y=>exact pick_ok pool cs _ fun d hd=>h d (by simp [hd])
def sumM (m:PI→Int):List PI→Int
 | []=>0
 | y :: l=>m y+sumM m l
theorem tot_sum {m:PI→Int}:∀(l:List PI) (s:Int),0≤s→s+2000*(l.length:Nat)≤1000000→(∀y∈l,0≤m y∧m y≤2000)→totE m l s=s+sumM m l
 | [],s,_,_,_=>by simp [totE,sumM]
 | y :: l,s,h0,h1,h=>by
  have hy:=h y (by simp)
  rw [List.length_cons]at h1
  have hw:IntKind.i64.wrap (s+m y)=s+m y:=IntWalk.i64_in _ (by omega)
  unfold totE sumM
  rw [hw,tot_sum l (s+m y) (by omega) (by omega) fun z hz=>h z (by simp [hz])]
  omega
theorem dup_iff:∀(l seen:List Int),dupA seen l≠[] ↔ ∃x,seen.count x<2∧2≤seen.count x+l.count x
 | [],seen=>⟨fun h=>absurd rfl h,fun ⟨x,h1,h2⟩=>by simp at h2;omega⟩
 | y :: l,seen=>by
  have ih:=dup_iff l (y :: seen)
  unfold dupA
  by_cases h:seen.count y=1
  ·rw [if_pos h]
   refine ⟨fun _=>⟨y,by omega,by rw [List.count_cons_self];omega⟩,fun _=>by simp⟩
  ·rw [if_neg h,ih]
   constructor
   ·rintro ⟨x,h1,h2⟩
    by_cases hx:x=y
    ·subst hx
     rw [List.count_cons_self]at h1 h2
     exact ⟨x,by omega,by rw [List.count_cons_self];omega⟩
    ·have hne:(y == x)=false:=by simpa using fun e=>hx e.symm
     rw [List.count_cons,hne]at h1 h2
     exact ⟨x,by simpa using h1,by rw [List.count_cons,hne];simpa using h2⟩
   ·rintro ⟨x,h1,h2⟩
    by_cases hx:x=y
    ·subst hx
     rw [List.count_cons_self]at h2
     refine ⟨x,?_,?_⟩
     ·rw [List.count_cons_self];omega
     ·rw [List.count_cons_self];omega
    ·have hne:(y == x)=false:=by simpa using fun e=>hx e.symm
     rw [List.count_cons,hne]at h2
     exact ⟨x,by rw [List.count_cons,hne];simpa using h1,by rw [List.count_cons,hne];simpa using h2⟩
theorem rep_iff (items:List PI):(!(repE items).isEmpty)=true ↔ ∃x,2≤(famL items).count x:=by
 have h1:(!(repE items).isEmpty)=true ↔ dupA [] (famL items)≠[]:=by
  unfold repE
  rw [Bool.not_eq_true',List.isEmpty_eq_false_iff]
  constructor
  ·intro h e
   rw [e]at h
   exact h (by simp)
  ·intro h e
   have:=congrArg List.length e
   rw [List.length_mergeSort]at this
   exact h (List.length_eq_zero_iff.1 (by simpa using this))
 rw [h1,dup_iff]
 simp
theorem fam_mono {p q:PI→Bool} (x:Int):∀(l:List PI),(∀y∈l,p y=true→q y=true)→(famL (l.filter p)).count x≤(famL (l.filter q)).count x
 | [],_=>Nat.le_refl _
 | y :: l,hpq=>by
  have ih:=fam_mono x l fun z hz=>hpq z (by simp [hz])
  have cons:∀t:List PI,(famL (y :: t)).count x=(if 0<y.2.2.1∧y.2.2.1=x then 1 else 0)+(famL t).count x:=fun t=>by
   unfold famL
   rw [List.map_cons]
   by_cases h0:0<y.2.2.1
   ·rw [List.filter_cons_of_pos (by simpa using h0),List.count_cons]
    by_cases hx:y.2.2.1=x
    ·have e:(if 0<y.2.2.1∧y.2.2.1=x then 1 else 0)=1:=if_pos ⟨h0,hx⟩
     have e2:(y.2.2.1 == x)=true:=by simpa using hx
     rw [e,e2,if_pos rfl]
     omega
    ·have e:(if 0<y.2.2.1∧y.2.2.1=x then 1 else 0)=0:=if_neg (fun h=>hx h.2)
     have e2:(y.2.2.1 == x)=false:=by simpa using hx
     rw [e,e2]
     simp
   ·rw [List.filter_cons_of_neg (by simpa using h0),if_neg (fun h=>h0 h.1)]
    omega
  cases hp:p y with
  | true =>
   rw [List.filter_cons_of_pos hp,List.filter_cons_of_pos (hpq y (by simp) hp),cons,cons]
   omega
  | false =>
   rw [List.filter_cons_of_neg (by simp [hp])]
   cases hq:q y with
   | true=>rw [List.filter_cons_of_pos hq,cons];omega
   | false=>rw [List.filter_cons_of_neg (by simp [hq])];exact ih
theorem bnds_ok {a b:Int} (h:boundsE a b=0):(0≤a∧a≤9999999)∧(0≤b∧b≤9999999):=by
 unfold boundsE at h
 split at h
 ·exact absurd h (by decide)
 ·rename_i hn
  simp at hn
  omega
theorem cont_ok {a b:Int} {s:List UInt8} (h:contE a b s=0):contentB s=true∧boundsE a b=0:=by
 unfold contE at h
 cases hc:contentB s with
 | false=>rw [hc]at h;simp at h
 | true=>rw [hc]at h;exact ⟨rfl,h⟩
theorem key_ok {a b n:Int} (h:keyE a b n=0):(0≤n∧n≤9999999)∧boundsE a b=0:=by
 unfold keyE at h
 split at h
 ·exact absurd h (by decide)
 ·rename_i hn
  simp at hn
  exact ⟨by omega,h⟩
theorem num_ok {n:Int} (h:numB n=true):0≤n∧n≤9999999:=by
 unfold numB at h
 simp at h
 omega
theorem set_ok {a b n:Int} (h:setE a b n=0):(0≤n∧n≤9999999)∧boundsE a b=0:=by
 unfold setE at h
 split at h
 ·exact absurd h (by decide)
 ·rename_i hn
  simp at hn
  exact ⟨num_ok hn.1,h⟩
theorem rules_chk:∀{rs:List RuleV},rulesE rs=0→∀r∈rs,demOk r=true∧chkE r=0
 | [],_,r,hr=>absurd hr List.not_mem_nil
 | x :: rs,h,r,hr=>by
  unfold rulesE at h
  by_cases h1:ruleE x≠0
  ·rw [if_pos h1]at h;exact absurd h h1
  rw [if_neg h1]at h
  rcases List.mem_cons.1 hr with rfl|hr
  ·cases hd:demOk r with
   | true=>rw [chk_ok hd]at h1;exact ⟨rfl,by simpa using h1⟩
   | false=>rw [chk_no hd]at h1;exact absurd (by decide:(1:Int)≠0) h1
  ·exact rules_chk h r hr
theorem ite_no {c:Bool} {e:Int} {x:Int} (h:(bif c then e else x)=0) (he:e≠0):c=false∧x=0:=by
 cases c with
 | true=>exact absurd h he
 | false=>exact ⟨rfl,h⟩
theorem it_ok {y:PI} {k:Int} (h:itE y k=0):(0≤y.2.2.2.2.1∧y.2.2.2.2.1≤2000)∧(0≤y.2.2.2.2.2.1∧y.2.2.2.2.2.1≤2000)∧(0≤y.2.2.2.2.2.2.1∧y.2.2.2.2.2.2.1≤2000):=by
 unfold itE at h
 obtain ⟨_,h⟩:=ite_no h (by decide)
 obtain ⟨_,h⟩:=ite_no h (by decide)
 obtain ⟨_,h⟩:=ite_no h (by decide)
 obtain ⟨_,h⟩:=ite_no h (by decide)
 obtain ⟨_,h⟩:=ite_no h (by decide)
 obtain ⟨c1,h⟩:=ite_no h (by decide)
 obtain ⟨c2,h⟩:=ite_no h (by decide)
 obtain ⟨c3,h⟩:=ite_no h (by decide)
 obtain ⟨c4,h⟩:=ite_no h (by decide)
 obtain ⟨c5,h⟩:=ite_no h (by decide)
 obtain ⟨c6,h⟩:=ite_no h (by decide)
 simp only [decide_eq_false_iff_not]at c1 c2 c3 c4 c5 c6
 omega
theorem its_ok {k:Int}:∀{pool:List PI},itsE k pool=0→∀y∈pool,itE y k=0
 | [],_,y,hy=>absurd hy List.not_mem_nil
 | x :: xs,h,y,hy=>by
  unfold itsE at h
  by_cases h1:itE x k≠0
  ·rw [if_pos h1]at h;exact absurd h h1
  ·rw [if_neg h1]at h
   rcases List.mem_cons.1 hy with rfl|hy
   ·exact Classical.not_not.1 h1
   ·exact its_ok h y hy
theorem pool_ok {pool:List PI} {k:Int} (h:poolE pool k=0):idsE pool 0=true∧∀y∈pool,itE y k=0:=by
 unfold poolE at h
 split at h
 ·exact absurd h (by decide)
 ·split at h
  ·exact absurd h (by decide)
  ·rename_i h2
   exact ⟨by simpa using h2,its_ok h⟩
theorem one_rng (b:Bool):0≤oneI b∧oneI b≤2000:=by cases b <;> decide
theorem msr_rng {y:PI} {k:Int} (h:itE y k=0) (r:RuleV):0≤msr r y∧msr r y≤2000:=by
 obtain ⟨h1,h2,h3⟩:=it_ok h
 unfold msr
 split
 ·exact one_rng _
 split
 ·exact h1
 split
 ·exact h2
 split
 ·exact h3
 ·exact one_rng _
theorem set_rng (n:Int) (y:PI):0≤setM n y∧setM n y≤2000:=one_rng _
section
variable {pool:List PI} {k:Int} {p q:PI→Bool}
theorem tot_filter (h18:pool.length≤18) {m:PI→Int} (hm:∀y∈pool,0≤m y∧m y≤2000) (p:PI→Bool):totE m (pool.filter p) 0=sumM m (pool.filter p):=by
 have hl:=List.length_filter_le p pool
 rw [tot_sum _ 0 (Int.le_refl _) (by omega) fun y hy=>hm y (List.mem_filter.1 hy).1]
 omega
end
theorem task_in {n:Int} {rs:List RuleV} {pool:List PI} {l:List (Int × Int)} (h:taskE n rs pool l=0):specE n rs=0∧poolE pool (rowsN pool)=0:=by
 unfold taskE at h
 by_cases h1:specE n rs≠0
 ·rw [if_pos h1]at h;exact absurd h h1
 rw [if_neg h1]at h
 by_cases h2:poolE pool (rowsN pool)≠0
 ·rw [if_pos h2]at h;exact absurd h h2
 exact ⟨Classical.not_not.1 h1,Classical.not_not.1 h2⟩
theorem spec_dem {n:Int} {rs:List RuleV} (h:specE n rs=0):∀r∈rs,demOk r=true∧chkE r=0:=by
 unfold specE at h
 split at h
 ·exact absurd h (by decide)
 ·split at h
  ·exact absurd h (by decide)
  ·exact rules_chk h
theorem exd_in {n:Int} {rs:List RuleV} {pool:List PI} {l:List (Int × Int)} {ch:List Int} (h:(exdE n rs pool l ch).2=0):taskE n rs pool l=0∧(selE pool ch).2=0:=by
 unfold exdE at h
 by_cases h1:taskE n rs pool l≠0
 ·rw [if_pos h1]at h;exact absurd h h1
 rw [if_neg h1]at h
 by_cases h2:(selE pool ch).2≠0
 ·rw [if_pos h2]at h;exact absurd h h2
 exact ⟨Classical.not_not.1 h1,Classical.not_not.1 h2⟩
theorem sel_filter {pool:List PI} {ch:List Int} (hid:idsE pool 0=true) (h:(selE pool ch).2=0):(selE pool ch).1=pool.filter (fun y=>decide (y.1∈ch))∧∀c∈ch,∃y∈pool,y.1=c:=by
 unfold selE at h ⊢
 cases hr:risesB ch with
 | false=>rw [hr,if_neg (by simp)]at h;exact absurd (show (23:Int)=0 from h) (by decide)
 | true =>
  rw [hr,if_pos rfl]at h
  rw [if_pos rfl]
  obtain ⟨e1,e2⟩:=pick_filter pool 0 ch [] (pickE pool ch []).1 hid hr (by rw [←h])
  exact ⟨by rw [e1,List.nil_append],e2⟩
theorem same_err (n:Int) (rs:List RuleV) (pool:List PI) (l:List (Int × Int)) (ch:List Int):(exdE n rs pool l ch).2=(broE n rs pool l ch).2∧((exdE n rs pool l ch).2≠0→(exdE n rs pool l ch).1=[]∧(broE n rs pool l ch).1=[]):=by
 unfold exdE broE
 by_cases h1:taskE n rs pool l≠0
 ·rw [if_pos h1,if_pos h1];exact ⟨rfl,fun _=>⟨rfl,rfl⟩⟩
 rw [if_neg h1,if_neg h1]
 by_cases h2:(selE pool ch).2≠0
 ·rw [if_pos h2,if_pos h2];exact ⟨rfl,fun _=>⟨rfl,rfl⟩⟩
 rw [if_neg h2,if_neg h2]
 exact ⟨rfl,fun h=>absurd rfl h⟩
abbrev frC (n:Int) (rs:List RuleV) (pool:List PI) (vars set:Int):List AV:=[i64 n,rulesA rs,.sl 9 (pool.map itA),i64 vars,i64 set]
abbrev frA (n:Int) (rs:List RuleV) (pool:List PI) (vars set:Int):AV:=.agg (frC n rs pool vars set)
def coefs (m:PI→Int) (pool:List PI) (vars:Nat):List Int:=pool.map m ++ List.replicate (vars-pool.length) 0
section
variable {a b c d:AV} {w:World} {Z:Zone}
theorem reps4 {vs:Array Value} (h:Rep w Z (.agg [a,b,c,d]) (.agg vs)):∃x y z u,vs=#[x,y,z,u]∧Rep w Z a x∧Rep w Z b y∧Rep w Z c z∧Rep w Z d u:=by
 obtain ⟨hl,hr⟩:=Rep.agg_iff.1 h
 obtain ⟨l,rfl⟩:∃l,vs=List.toArray l:=⟨vs.toList,by simp⟩
 match l,hl with
 | [x,y,z,u],_=>exact ⟨x,y,z,u,rfl,hr 0 _ _ rfl rfl,hr 1 _ _ rfl rfl,hr 2 _ _ rfl rfl,hr 3 _ _ rfl rfl⟩
theorem frame_val {n:Int} {rs:List RuleV} {pool:List PI} {vars set:Int} {v:Value} (h:Rep w Z (frA n rs pool vars set) v):∃x y,v=.agg #[.int .i64 n,x,y,.int .i64 vars,.int .i64 set]∧Rep w Z (rulesA rs) x∧Rep w Z (.sl 9 (pool.map itA)) y:=by
 cases h with
 | @agg cs us hl hr =>
  refine ⟨us[1]'(by rw [hl];simp),us[2]'(by rw [hl];simp),?_,hr 1 (by simp),hr 2 (by simp)⟩
  congr 1
  apply Array.ext
  ·exact hl
  ·intro i hi _
   have:i<5:=by rw [hl]at hi;simpa using hi
   match i,this with
   | 0,_=>exact (hr 0 (by simp)).lit_eq
   | 1,_=>rfl
   | 2,_=>rfl
   | 3,_=>exact (hr 3 (by simp)).lit_eq
   | 4,_=>exact (hr 4 (by simp)).lit_eq
end
theorem items_row3 {w:World} {Z:Zone} {l:List PI} {v:Value} (h:Rep w Z (.sl 9 (l.map itA)) v):∃A c,v=.slice A l.length c∧∀i (hi:i<l.length),∃b off v8,A=some ⟨b,off,none⟩∧(∀j u,(itVs (l[i]'hi) ++ [v8])[j]? = some u→w.cell? ⟨b,off+i*9+j,none⟩=some u)∧Rep w Z (itA (l[i]'hi)) (.agg (itVs (l[i]'hi) ++ [v8]).toArray)∧∃A8 n8 c8,v8=.slice A8 n8 c8:=by
 generalize hm:l.map itA=es at h
 have hl:es.length=l.length:=by rw [←hm,List.length_map]
 cases h with
 | nil =>
  obtain rfl:l=[]:=List.length_eq_zero_iff.1 (by rw [←hl];rfl)
  exact ⟨_,_,rfl,fun i hi=>by simp at hi⟩
 | sl vs hb hc hkk hmm hr =>
  rw [hl]at *
  refine ⟨_,_,rfl,fun i hi=>?_⟩
  subst hm
  have cell:∀j,j<9→∀u,(itVs (l[i]'hi) ++ [vs i 8])[j]? = some u→u=vs i j:=fun j hj u hu=>by
   have h5:=hr i (by rw [List.length_map];exact hi) j (by simpa [AV.cells]using hj)
   simp only [List.getElem_map,AV.cells]at h5
   refine Option.some.inj (hu.symm.trans ?_)
   match j,hj with
   | 0,_=>exact congrArg some h5.lit_eq.symm
   | 1,_=>exact congrArg some h5.lit_eq.symm
   | 2,_=>exact congrArg some h5.lit_eq.symm
   | 3,_=>exact congrArg some h5.lit_eq.symm
   | 4,_=>exact congrArg some h5.lit_eq.symm
   | 5,_=>exact congrArg some h5.lit_eq.symm
   | 6,_=>exact congrArg some h5.lit_eq.symm
   | 7,_=>exact congrArg some h5.lit_eq.symm
   | 8,_=>rfl
  refine ⟨_,_,vs i 8,rfl,fun j u hj=>?_,.agg rfl fun j hj=>?_,?_⟩
  ·have hj9:j<9:=by
    have:=(List.getElem?_eq_some_iff.1 hj).1
    simpa [itVs]using this
   rw [(hmm i j hi hj9).1,cell j hj9 u hj]
  ·have hj9:j<9:=by simpa using hj
   have h5:=hr i (by rw [List.length_map];exact hi) j (by simpa [AV.cells]using hj)
   simp only [List.getElem_map,AV.cells]at h5
   have e:(itVs (l[i]'hi) ++ [vs i 8]).toArray[j]'(by simpa [itVs]using hj9)=vs i j:=cell j hj9 _ (by rw [List.getElem_toArray];exact List.getElem?_eq_getElem _)
   rw [e]
   exact h5
  ·have h5:=hr i (by rw [List.length_map];exact hi) 8 (by simp [AV.cells])
   simp only [List.getElem_map,AV.cells]at h5
   exact sl_slice h5
theorem rep_mid {w:World} {Z:Zone} {pre post:List AV} {us ws:Array Value} {a:AV} {x:Value} (f1:us.size=pre.length) (f2:∀j (hj:j<pre.length) (hj2:j<us.size),Rep w Z (pre[j]'hj) (us[j]'hj2)) (f3:ws.size=post.length) (f4:∀j (hj:j<post.length) (hj2:j<ws.size),Rep w Z (post[j]'hj) (ws[j]'hj2)) (h:Rep w Z a x):Rep w Z (.agg (pre ++ a :: post)) (.agg (us.push x ++ ws)):=by
 obtain ⟨L1⟩:=us
 obtain ⟨L2⟩:=ws
 have e:(Array.mk L1).push x ++ Array.mk L2=(L1 ++ x :: L2).toArray:=by simp
 rw [e]
 have f1:L1.length=pre.length:=f1
 have f3:L2.length=post.length:=f3
 refine Rep.agg_iff.2 ⟨by simp;omega,fun j p u hp hu=>?_⟩
 have hu:(L1 ++ x :: L2)[j]? = some u:=by simpa using hu
 by_cases h1:j<pre.length
 ·rw [List.getElem?_append_left h1]at hp
  rw [List.getElem?_append_left (by omega)]at hu
  obtain ⟨_,rfl⟩:=List.getElem?_eq_some_iff.1 hp
  obtain ⟨h2,rfl⟩:=List.getElem?_eq_some_iff.1 hu
  exact f2 j h1 h2
 ·rw [List.getElem?_append_right (by omega)]at hp
  rw [List.getElem?_append_right (by omega)]at hu
  rw [f1]at hu
  cases hk:j-pre.length with
  | zero =>
   rw [hk]at hp hu
   cases hp
   cases hu
   exact h
  | succ i =>
   rw [hk]at hp hu
   have hp:post[i]? = some p:=hp
   have hu:L2[i]? = some u:=hu
   obtain ⟨h3,rfl⟩:=List.getElem?_eq_some_iff.1 hp
   obtain ⟨h4,rfl⟩:=List.getElem?_eq_some_iff.1 hu
   exact f4 i h3 h4
def coefK (m:PI→Int) (pool:List PI) (vars k:Nat):List Value:=((pool.take k).map fun y=>Value.int .i64 (m y)) ++ List.replicate (vars-k) (.int .i64 0)
theorem coefK_at (m:PI→Int) (pool:List PI) (vars k:Nat) (hk:k<pool.length) (hp:pool.length≤vars):(coefK m pool vars k)[k]? = some (.int .i64 0):=by
 unfold coefK
 have e:k-((pool.take k).map fun y=>Value.int .i64 (m y)).length=0:=by simp;omega
 rw [List.getElem?_append_right (by simp;omega),e,show vars-k=(vars-k-1)+1 by omega,List.replicate_succ]
 rfl
theorem coefK_set (m:PI→Int) (pool:List PI) (vars k:Nat) (hk:k<pool.length) (hp:pool.length≤vars):(coefK m pool vars k).set k (.int .i64 (m pool[k]))=coefK m pool vars (k+1):=by
 unfold coefK
 rw [List.set_append_right _ _ (by simp;omega),List.length_map,List.length_take,Nat.min_eq_left (by omega),Nat.sub_self,show vars-k=(vars-(k+1))+1 by omega,List.replicate_succ,List.set_cons_zero,List.take_succ_eq_append_getElem hk,List.map_append,List.append_assoc]
 rfl
theorem coefK_end (m:PI→Int) (pool:List PI) (vars:Nat):coefK m pool vars pool.length=(coefs m pool vars).map (Value.int .i64):=by
 unfold coefK coefs
 rw [List.take_length,List.map_append,List.map_map,List.map_replicate]
 rfl
theorem coefK_len (m:PI→Int) (pool:List PI) (vars k:Nat) (hk:k≤pool.length) (hp:pool.length≤vars):(coefK m pool vars k).length=vars:=by
 unfold coefK
 simp
 omega
theorem row_info:(Tryz.prog.info? 110).map (·.size)=some 3:=by kernel_rfl
theorem row_w {f:FuncId} {pre post:List AV} (m:PI→Int) (n:Int) (rs:List RuleV) (pool:List PI) (vars:Nat) (set lo hi:Int) (hp:pool.length≤vars) (hv:vars≤1000) (hf:∀y∈pool,AT f (pre ++ itA y :: post) (i64 (m y))) {w:World} {Z:Zone} (hE:Env w) (hz:∀b o,Z b o→b<w.heap.size) {vs:Array Value} (hrep:Rep w Z (.agg [frA n rs pool (vars:Nat) set,.fn (.func f) pre post,i64 lo,i64 hi]) (.agg vs)) :
  Calls Tryz.prog 101 vs w fun e w'=>∃v,e=.returned (.agg #[v,.int .i64 lo,.int .i64 hi])∧Below w.heap.size w w'∧w'.ownsRow w.heap.size 3 1 v vars ((coefs m pool vars).map (Value.int .i64)):=by
 obtain ⟨v1,v2,v3,v4,rfl,q1,q2,q3,q4⟩:=reps4 hrep
 obtain rfl:=q3.lit_eq
 obtain rfl:=q4.lit_eq
 obtain ⟨x,y,rfl,_,qp⟩:=frame_val q1
 obtain ⟨A,c,rfl,hget⟩:=items_row3 qp
 clear hrep q1 q3 q4
 obtain ⟨us,ws,rfl,f1,f2,f3,f4⟩:∃us ws,v2=.func (.func f) us ws∧us.size=pre.length∧(∀j (hj:j<pre.length) (hj2:j<us.size),Rep w Z (pre[j]'hj) (us[j]'hj2))∧ws.size=post.length∧∀j (hj:j<post.length) (hj2:j<ws.size),Rep w Z (post[j]'hj) (ws[j]'hj2):=by
  cases q2 with
  | fn h1 h2 h3 h4=>exact ⟨_,_,rfl,h1,fun j hj _=>h2 j hj,h3,fun j hj _=>h4 j hj⟩
 have hinf:(Tryz.prog.info? 3).map (fun i=>(i.zero,i.size,i.bytes))=some (some (.int .i64 0),1,8):=by kernel_rfl
 have hmk:=run_make_row' (P:=Tryz.prog) 27 3 (.int .i64 0) 8 Tryz.underlying27 hinf rfl .i64 .i64 vars (by omega) (by omega)
 have hlen:((pool.length:Nat):Int)≤1000:=by omega
 go_enter Tryz.func101,Tryz.ntmps101
 go_wp2
 go_loopw [18] (fun i wl=>∃k:Nat,i=.int .i64 k∧k≤pool.length∧Below w.heap.size w wl∧wl.heap[w.heap.size+1]? = some (.cells #[.slice none 0 0,.int .i64 0,.int .i64 0] 110 (0,0))∧wl.heap[w.heap.size+1+1]? = some (.cells (coefK m pool vars k).toArray 3 (0,0))) (fun i _=>pool.length-(intOf i).toNat)
 case atStart =>
  refine ⟨0,rfl,Nat.zero_le _,(((Below.refl _ _).alloc (Nat.le_refl _) _).alloc (by simp) _).alloc (by simp;omega) _,?_,?_⟩
  ·rw [Lib.alloc_old _ _ _ (by simp)]
   have:=heap_alloc_new (w.alloc (.cells #[.int .i64 n,x,.slice A pool.length c,.int .i64 vars,.int .i64 set] 104)) (.cells #[.slice none 0 0,.int .i64 0,.int .i64 0] 110 (0,0))
   rw [show (w.alloc (.cells #[.int .i64 n,x,.slice A pool.length c,.int .i64 vars,.int .i64 set] 104)).heap.size=w.heap.size+1 by simp]at this
   exact this
  ·have e:(coefK m pool vars 0).toArray=madeCells #[Value.int .i64 0] vars:=by
    unfold coefK
    rw [←toList_madeCells_one]
    simp
   rw [e]
   have h1:=heap_alloc_new ((w.alloc (.cells #[.int .i64 n,x,.slice A pool.length c,.int .i64 vars,.int .i64 set] 104)).alloc (.cells #[.slice none 0 0,.int .i64 0,.int .i64 0] 110)) (.cells (madeCells #[Value.int .i64 0] vars) 3)
   rw [show ((w.alloc (.cells #[.int .i64 n,x,.slice A pool.length c,.int .i64 vars,.int .i64 set] 104)).alloc (.cells #[.slice none 0 0,.int .i64 0,.int .i64 0] 110)).heap.size=w.heap.size+1+1 by simp]at h1
   exact h1
 case round =>
  obtain ⟨k,rfl,hk,hbw,hx1,hx2⟩:=hrel
  have hs2:w.heap.size+1+1<wr.heap.size:=(Array.getElem?_eq_some_iff.1 hx2).1
  by_cases hlt:k<pool.length
  ·obtain ⟨b,off,v8,rfl,hcell,hry,A8,n8,c8,rfl⟩:=hget k hlt
   have hfy:=hf _ (List.getElem_mem hlt)
   clear hget
   generalize hy:pool[k]=y at *
   obtain ⟨y1,y2,y3,y4,y5,y6,y7,y8,y9⟩:=y
   have cf:∀j u,(itVs (y1,y2,y3,y4,y5,y6,y7,y8,y9) ++ [.slice A8 n8 c8])[j]? = some u→wr.cell? ⟨b,off+k*9+j,none⟩=some u:=fun j u h=>(hbw.cell (p:=⟨b,off+k*9+j,none⟩) (World.block_lt_of_cell? w _ (hcell j u h))).trans (hcell j u h)
   have d0:=cf 0 _ rfl
   have d1:=cf 1 _ rfl
   have d2:=cf 2 _ rfl
   have d3:=cf 3 _ rfl
   have d4:=cf 4 _ rfl
   have d5:=cf 5 _ rfl
   have d6:=cf 6 _ rfl
   have d7:=cf 7 _ rfl
   have d8:=cf 8 _ rfl
   rw [Nat.add_zero]at d0
   clear cf hcell
   have g1:((k:Nat):Int)<((pool.length:Nat):Int):=by omega
   go_wp2
   rw [run_enter (P:=Tryz.prog) hfy.1,Oper.upon_enter]
   have hbW:Below w.heap.size w (wr.alloc (.cells (itVs (y1,y2,y3,y4,y5,y6,y7,y8,y9) ++ [Value.slice A8 n8 c8]).toArray 63)):=hbw.alloc hbw.size _
   refine (at_call hE hfy _ Z _ hbW (fun b o h=>Nat.lt_of_lt_of_le (hz b o h) hbW.size) (rep_mid f1 (fun j h1 h2=>(f2 j h1 h2).keep (Keeps.ofBelow hbW) fun _ _ h=>h) f3 (fun j h1 h2=>(f4 j h1 h2).keep (Keeps.ofBelow hbW) fun _ _ h=>h) (hry.keep (Keeps.ofBelow hbW) fun _ _ h=>h))).mono ?_
   rintro e w3 ⟨v,rfl,hb3,hr3⟩
   obtain rfl:=hr3.lit_eq
   have hB3:Below w.heap.size w w3:=hbW.trans (hb3.mono hbW.size)
   have hX1:w3.heap[w.heap.size+1]? = some _:=(hb3.block _ (by simp;omega)).trans ((Lib.alloc_old _ _ _ (by omega)).trans hx1)
   have hX2:w3.heap[w.heap.size+1+1]? = some _:=(hb3.block _ (by simp;omega)).trans ((Lib.alloc_old _ _ _ (by omega)).trans hx2)
   have hF2:w3.frozen? ⟨w.heap.size+1+1,k,none⟩=false:=frozen_of_row _ _ _ _ _ hX2
   have hC2:w3.cell? ⟨w.heap.size+1+1,k,none⟩=some (.int .i64 0):=by
    rw [Lib.cell_of_heap hX2]
    simpa using coefK_at m pool vars k hlt hp
   have gv:((k:Nat):Int)<((vars:Nat):Int):=by omega
   go_wp2
   refine ⟨⟨k+1,by simp,by omega,below_setCell hB3 (by omega) hX2 _,?_,?_⟩,?_⟩
   ·rw [heap_setCell_other _ _ _ _ (by simp)];exact hX1
   ·rw [heap_setCell_same _ _ _ _ _ _ hX2,←coefK_set m pool vars k hlt hp,hy]
    simp
   ·simp only [intOf]
    omega
  ·obtain rfl:k=pool.length:=by omega
   have g1:¬((pool.length:Nat):Int)<((pool.length:Nat):Int):=by omega
   clear hget
   have hall:(#[Value.slice (some ⟨w.heap.size+1+1,0,none⟩) vars vars,.int .i64 lo,.int .i64 hi]:Array Value).all (·.oneCell')=true:=by simp [Value.oneCell']
   go_wp2_with (refine wpList_store_row rfl 110 (.tmp 8) _ rfl (w.heap.size+1) #[Value.slice (some ⟨w.heap.size+1+1,0,none⟩) vars vars,.int .i64 lo,.int .i64 hi] rfl rfl _ _ hx1 row_info rfl hall ?_)
   go_wp2
   try simp only [Exit.inBlock,Exit.then]
   refine bodyPost_ret (results_cell_row (P:=Tryz.prog) (fn:=Tryz.f101) rfl _ _ (w.heap.size+1) 110 #[Value.slice (some ⟨w.heap.size+1+1,0,none⟩) vars vars,.int .i64 lo,.int .i64 hi] (0,0) _ rfl (setRow_heap _ _ _ _ _ _ hx1) Tryz.underlying110 rfl row_info) rfl ?_
   refine ⟨_,rfl,below_setRow hbw (by omega) _,?_⟩
   have hl:=coefK_len m pool vars pool.length (Nat.le_refl _) hp
   have hx3:(wr.setRow (w.heap.size+1) #[Value.slice (some ⟨w.heap.size+1+1,0,none⟩) vars vars,.int .i64 lo,.int .i64 hi]).heap[w.heap.size+1+1]? = some (.cells (coefK m pool vars pool.length).toArray 3 (0,0)):=by
    rw [setRow_other _ _ _ _ (by omega)]
    exact hx2
   rw [←coefK_end]
   refine ⟨by rw [hl];omega,.inr ⟨w.heap.size+1+1,vars,_,rfl,by omega,hx3,Nat.le_refl _,by unfold maxLen;omega,by simp [hl],?_⟩⟩
   rw [List.take_of_length_le (by simp [hl])]
def idxR (p:RuleV→Bool):List RuleV→Nat→Int
 | [],_=>-1
 | y :: l,k=>if p y then (k:Int) else idxR p l (k+1)
theorem rindex_c {f:FuncId} {pre post:List AV} (p:RuleV→Bool) (pool:List RuleV) (hl:pool.length≤1048576) (hf:∀y∈pool,AT f (pre ++ ruleA y :: post) (boo (p y))):AT 133 [.sl 5 (pool.map ruleA),.fn (.func f) pre post] (i64 (idxR p pool 0)):=by
 obtain ⟨R,hR⟩:∃R,R=idxR p pool 0:=⟨_,rfl⟩
 rw [←hR]
 refine ACalls.of ⟨9,[],[]⟩ (fn:=Tryz.f133) Tryz.func133 rfl rfl rfl (by kernel_rfl) (by kernel_rfl) (Nat.le_of_ble_eq_true rfl) ?_
 simp (maxSteps:=1000000) -implicitDefEqProofs only [List.length_map,go_sem,awp_seq,Nat.reduceBEq,Nat.reduceAdd,Nat.reduceLT]
 refine loop_mk (α:={k:Nat // k≤pool.length∧R=idxR p (pool.drop k) k}) (fun k=>[(0,some (.av (.sl 5 (pool.map ruleA)))),(1,some (.av (.fn (.func f) pre post))),(4,some (.av (i64 0))),(6,some (.av (.sl 5 (pool.map ruleA)))),(7,some (.av (i64 (pool.length:Nat)))),(8,some (.av (i64 (k.1:Nat))))]) (fun _=>[]) (fun _=>[]) (fun k=>pool.length-k.1) ⟨0,Nat.zero_le _,hR⟩ ?_ ?_
 ·simp (maxSteps:=1000000) -implicitDefEqProofs only [go_sem,awp_seq,Nat.reduceBEq,Int.cast_ofNat_Int]
 ·clear hR
  rintro ⟨k,hk,hR⟩
  by_cases hlt:k<pool.length
  ·have g1:decide (((k:Nat):Int)<(pool.length:Nat))=true:=by simp;omega
   have e1:=map_get ruleA pool hlt
   have w1:IntKind.i64.wrap ((k:Int)+1)=((k+1:Nat):Int):=by rw [IntWalk.i64_in _ (by omega)];omega
   have F:=hf _ (List.getElem_mem hlt)
   rw [List.drop_eq_getElem_cons hlt]at hR
   generalize pool[k]=y at *
   unfold idxR at hR
   cases hp:p y with
   | true =>
    rw [hp,if_pos rfl]at hR
    subst hR
    rw [hp]at F
    simp (maxSteps:=1000000) -implicitDefEqProofs only [g1,e1,Int.toNat_natCast,Int.natCast_nonneg,go_sem,awp_seq,Nat.reduceBEq,Nat.reduceAdd,Nat.reduceLeDiff,Nat.reduceLT]
    refine callA_t F ?_
    simp (maxSteps:=1000000) -implicitDefEqProofs only [go_sem,awp_seq,Nat.reduceBEq,Nat.reduceLeDiff,Nat.reduceLT]
   | false =>
    rw [hp]at hR F
    have hR:R=idxR p (pool.drop (k+1)) (k+1):=by simpa using hR
    simp (maxSteps:=1000000) -implicitDefEqProofs only [g1,e1,Int.toNat_natCast,Int.natCast_nonneg,go_sem,awp_seq,Nat.reduceBEq,Nat.reduceAdd,Nat.reduceLeDiff,Nat.reduceLT]
    refine callA_t F ?_
    simp (maxSteps:=1000000) -implicitDefEqProofs only [w1,go_sem,awp_seq,Nat.reduceBEq,Nat.reduceLeDiff,Nat.reduceLT]
    refine roundK_mk ⟨k+1,by omega,hR⟩ ?_ (by show pool.length-(k+1)<pool.length-k;omega)
    simp (maxSteps:=1000000) -implicitDefEqProofs only [go_sem,awp_seq,Nat.reduceBEq]
  ·have g1:decide (((k:Nat):Int)<(pool.length:Nat))=false:=by simp;omega
   rw [List.drop_of_length_le (by omega)]at hR
   have hR:R = -1:=hR
   subst hR
   simp (maxSteps:=1000000) -implicitDefEqProofs only [g1,go_sem,awp_seq,Nat.reduceBEq,Nat.reduceLT]
theorem idxR_find (p:RuleV→Bool):∀(l:List RuleV) (k:Nat),decide (0≤idxR p l k)=(l.find? p).isSome
 | [],k=>rfl
 | y :: l,k=>by
  unfold idxR
  rw [List.find?_cons]
  cases p y with
  | true=>exact decide_eq_true (by rw [if_pos rfl];omega)
  | false=>exact idxR_find p l (k+1)
theorem idxR_has (p:RuleV→Bool) (items:List RuleV):decide (0≤idxR p items 0)=(items.find? p).isSome:=idxR_find p items 0
theorem rcontains_c {f:FuncId} {pre post:List AV} (p:RuleV→Bool) (items:List RuleV) (hl:items.length≤1048576) (hf:∀y∈items,AT f (pre ++ ruleA y :: post) (boo (p y))):AT 103 [.sl 5 (items.map ruleA),.fn (.func f) pre post] (boo (items.find? p).isSome):=by
 have I:=rindex_c p items hl hf
 have e:=idxR_has p items
 generalize (items.find? p).isSome=b at *
 generalize idxR p items 0=i at *
 refine ACalls.of ⟨5,[],[]⟩ (fn:=Tryz.f103) Tryz.func103 rfl rfl rfl (by kernel_rfl) (by kernel_rfl) (Nat.le_of_ble_eq_true rfl) ?_
 simp (maxSteps:=1000000) -implicitDefEqProofs only [go_sem,awp_seq,Nat.reduceBEq,Nat.reduceAdd,Nat.reduceLT]
 refine callA_tt I ?_
 simp (maxSteps:=1000000) -implicitDefEqProofs only [e,go_sem,awp_seq,Nat.reduceBEq]
def namP (kind n:Int) (r:RuleV):Bool:=r.k == kind && r.n == n
def namB (rs:List RuleV) (kind n:Int):Bool:=(rs.find? (namP kind n)).isSome
theorem nam1_c (r:RuleV) (kind n:Int):AT 104 [ruleA r,.ptr [i64 kind],.ptr [i64 n]] (boo (namP kind n r)):=by
 unfold namP
 obtain ⟨k,m,lo,hi,code⟩:=r
 dsimp only
 cases c1:(k == kind)with
 | true =>
  generalize hb:(m == n)=b
  refine ACalls.of ⟨5,[],[]⟩ (fn:=Tryz.f104) Tryz.func104 rfl rfl rfl (by kernel_rfl) (by kernel_rfl) (Nat.le_of_ble_eq_true rfl) ?_
  simp (maxSteps:=1000000) -implicitDefEqProofs only [c1,hb,Bool.true_and,go_sem,awp_seq,Nat.reduceBEq,Nat.reduceAdd,Nat.reduceLT]
 | false =>
  refine ACalls.of ⟨5,[],[]⟩ (fn:=Tryz.f104) Tryz.func104 rfl rfl rfl (by kernel_rfl) (by kernel_rfl) (Nat.le_of_ble_eq_true rfl) ?_
  simp (maxSteps:=1000000) -implicitDefEqProofs only [c1,Bool.false_and,go_sem,awp_seq,Nat.reduceBEq,Nat.reduceAdd,Nat.reduceLT]
theorem names_c (n0:Int) (rs:List RuleV) (pool:List PI) (vars set kind n:Int) (hr:rs.length≤1048576):AT 64 [frA n0 rs pool vars set,i64 kind,i64 n] (boo (namB rs kind n)):=by
 have C:=rcontains_c (f:=104) (pre:=[]) (post:=[.ptr [i64 kind],.ptr [i64 n]]) (namP kind n) rs hr (fun y _=>nam1_c y kind n)
 unfold namB
 generalize (rs.find? (namP kind n)).isSome=b at *
 refine ACalls.of ⟨7,[(1,4),(1,5)],[]⟩ (fn:=Tryz.f64) Tryz.func64 rfl rfl rfl (by kernel_rfl) (by kernel_rfl) (Nat.le_of_ble_eq_true rfl) ?_
 simp (maxSteps:=1000000) -implicitDefEqProofs only [go_sem,awp_seq,Nat.reduceBEq,Nat.reduceAdd,Nat.reduceLT,Nat.reduceEqDiff]
 refine callA_tt C ?_
 simp (maxSteps:=1000000) -implicitDefEqProofs only [go_sem,awp_seq,Nat.reduceBEq]
theorem fhas_c (n0:Int) (rs:List RuleV) (pool:List PI) (vars set n:Int) (hl:pool.length≤1048576):AT 196 [frA n0 rs pool vars set,i64 n] (boo (hasE pool n)):=by
 have C:=contains_c pool n hl
 generalize hasE pool n=b at *
 refine ACalls.of ⟨5,[],[]⟩ (fn:=Tryz.f196) Tryz.func196 rfl rfl rfl (by kernel_rfl) (by kernel_rfl) (Nat.le_of_ble_eq_true rfl) ?_
 simp (maxSteps:=1000000) -implicitDefEqProofs only [go_sem,awp_seq,Nat.reduceBEq,Nat.reduceAdd,Nat.reduceLT]
 refine callA_tt C ?_
 simp (maxSteps:=1000000) -implicitDefEqProofs only [go_sem,awp_seq,Nat.reduceBEq]
theorem inr1_c (y:PI):AT 223 [itA y] (i64 0):=by
 generalize rowsA y.2.2.2.2.2.2.2.2=R
 refine ACalls.of ⟨3,[],[]⟩ (fn:=Tryz.f223) Tryz.func223 rfl rfl rfl (by kernel_rfl) (by kernel_rfl) (Nat.le_of_ble_eq_true rfl) ?_
 simp (maxSteps:=1000000) -implicitDefEqProofs only [go_sem,awp_seq,Nat.reduceBEq,Nat.reduceLT]
theorem each1_c (y:PI):AT 100 [itA y] (i64 1):=by
 generalize rowsA y.2.2.2.2.2.2.2.2=R
 refine ACalls.of ⟨3,[],[]⟩ (fn:=Tryz.f100) Tryz.func100 rfl rfl rfl (by kernel_rfl) (by kernel_rfl) (Nat.le_of_ble_eq_true rfl) ?_
 simp (maxSteps:=1000000) -implicitDefEqProofs only [go_sem,awp_seq,Nat.reduceBEq,Nat.reduceLT]
theorem exr1_c (y:PI) (n:Int):AT 231 [itA y,.ptr [i64 n]] (i64 (oneI (y.1 == n))):=by
 have O:=one_c (y.1 == n)
 generalize hb:(y.1 == n)=b at *
 generalize rowsA y.2.2.2.2.2.2.2.2=R
 refine ACalls.of ⟨4,[],[]⟩ (fn:=Tryz.f231) Tryz.func231 rfl rfl rfl (by kernel_rfl) (by kernel_rfl) (Nat.le_of_ble_eq_true rfl) ?_
 simp (maxSteps:=1000000) -implicitDefEqProofs only [hb,go_sem,awp_seq,Nat.reduceBEq,Nat.reduceAdd,Nat.reduceLT]
 refine callA_tt O ?_
 simp (maxSteps:=1000000) -implicitDefEqProofs only [go_sem,awp_seq,Nat.reduceBEq]
theorem far1_c (y:PI) (n:Int):AT 238 [itA y,.ptr [i64 n]] (i64 (oneI (y.2.2.1 == n))):=by
 have O:=one_c (y.2.2.1 == n)
 generalize hb:(y.2.2.1 == n)=b at *
 generalize rowsA y.2.2.2.2.2.2.2.2=R
 refine ACalls.of ⟨4,[],[]⟩ (fn:=Tryz.f238) Tryz.func238 rfl rfl rfl (by kernel_rfl) (by kernel_rfl) (Nat.le_of_ble_eq_true rfl) ?_
 simp (maxSteps:=1000000) -implicitDefEqProofs only [hb,go_sem,awp_seq,Nat.reduceBEq,Nat.reduceAdd,Nat.reduceLT]
 refine callA_tt O ?_
 simp (maxSteps:=1000000) -implicitDefEqProofs only [go_sem,awp_seq,Nat.reduceBEq]
theorem both_c (y:PI) (a b:Int):AT 102 [itA y,.ptr [i64 a,i64 b]] (i64 (oneI (y.1 == a || y.1 == b))):=by
 have O:=one_c (y.1 == a || y.1 == b)
 generalize rowsA y.2.2.2.2.2.2.2.2=R
 cases c1:(y.1 == a)with
 | true =>
  rw [c1,Bool.true_or]at O
  rw [Bool.true_or]
  refine ACalls.of ⟨4,[],[]⟩ (fn:=Tryz.f102) Tryz.func102 rfl rfl rfl (by kernel_rfl) (by kernel_rfl) (Nat.le_of_ble_eq_true rfl) ?_
  simp (maxSteps:=1000000) -implicitDefEqProofs only [c1,go_sem,awp_seq,Nat.reduceBEq,Nat.reduceAdd,Nat.reduceLT]
  refine callA_tt O ?_
  simp (maxSteps:=1000000) -implicitDefEqProofs only [go_sem,awp_seq,Nat.reduceBEq]
 | false =>
  rw [c1,Bool.false_or]at O
  rw [Bool.false_or]
  generalize hb:(y.1 == b)=c at *
  refine ACalls.of ⟨4,[],[]⟩ (fn:=Tryz.f102) Tryz.func102 rfl rfl rfl (by kernel_rfl) (by kernel_rfl) (Nat.le_of_ble_eq_true rfl) ?_
  simp (maxSteps:=1000000) -implicitDefEqProofs only [c1,hb,go_sem,awp_seq,Nat.reduceBEq,Nat.reduceAdd,Nat.reduceLT]
  refine callA_tt O ?_
  simp (maxSteps:=1000000) -implicitDefEqProofs only [go_sem,awp_seq,Nat.reduceBEq]
theorem row_c {f:FuncId} {pre post:List AV} (m:PI→Int) (n:Int) (rs:List RuleV) (pool:List PI) (vars:Nat) (set lo hi:Int) (hp:pool.length≤vars) (hv:vars≤1000) (hf:∀y∈pool,AT f (pre ++ itA y :: post) (i64 (m y))):AT 101 [frA n rs pool (vars:Nat) set,.fn (.func f) pre post,i64 lo,i64 hi] (rwA (coefs m pool vars,lo,hi)):=by
 refine ⟨⟨_,Tryz.func101,by kernel_rfl,by kernel_rfl⟩,fun w Z vs hE hz _ hrep=>?_⟩
 refine (row_w m n rs pool vars set lo hi hp hv hf hE hz hrep).mono ?_
 rintro e w' ⟨v,rfl,hb,hown⟩
 have hl:(coefs m pool vars).length=vars:=by
  unfold coefs
  simp
  omega
 refine ⟨_,rfl,hb,.agg rfl fun j hj=>?_⟩
 match j,hj with
 | 0,_=>exact ints_rep hl.symm hown fun g hg o=>.inr (own_zone hown hg)
 | 1,_=>exact .lit rfl
 | 2,_=>exact .lit rfl
section
variable {f:FuncId} {pre post:List AV} (m:PI→Int) (n:Int) (rs:List RuleV) (pool:List PI) (vars:Nat) (set lo hi:Int)
theorem mrows_c (hp:pool.length≤vars) (hv:vars≤1000) (hn:(AV.fn (.func f) pre post).noLimb=true) (hf:∀y∈pool,AT f (pre ++ itA y :: post) (i64 (m y))):AT 201 [.agg [i64 lo,i64 hi,.fn (.func f) pre post],frA n rs pool (vars:Nat) set] (.sl 3 [rwA (coefs m pool vars,lo,hi)]):=by
 have T:=row_c m n rs pool vars set lo hi hp hv hf
 generalize coefs m pool vars=c at *
 refine ACalls.of ⟨5,[],[]⟩ (fn:=Tryz.f201) Tryz.func201 rfl rfl rfl (by kernel_rfl) (by kernel_rfl) (Nat.le_of_ble_eq_true rfl) ?_
 simp (maxSteps:=1000000) -implicitDefEqProofs only [hn,go_sem,awp_seq,Nat.reduceBEq,Nat.reduceAdd,Nat.reduceLT,Nat.reduceEqDiff]
 refine callA_tt T ?_
 simp (maxSteps:=1000000) -implicitDefEqProofs only [go_sem,awp_seq,Nat.reduceBEq,Nat.reduceAdd,Nat.reduceMul,Nat.reduceLeDiff,Nat.reduceLT]
end
theorem irows_c (n:Int) (rs:List RuleV) (pool:List PI) (vars:Nat) (set k:Int) (hp:pool.length≤vars) (hv:vars≤1000):AT 221 [.agg [i64 k],frA n rs pool (vars:Nat) set] (.sl 3 (if hasE pool k then [] else [rwA (coefs (fun _=>0) pool vars,1,1)])):=by
 have H:=fhas_c n rs pool (vars:Nat) set k (by omega)
 have T:=row_c (f:=223) (pre:=[]) (post:=[]) (fun _=>0) n rs pool vars set 1 1 hp hv (fun y _=>inr1_c y)
 generalize coefs (fun _=>0) pool vars=c at *
 cases hb:hasE pool k with
 | true =>
  rw [hb]at H
  rw [if_pos rfl]
  refine ACalls.of ⟨6,[],[]⟩ (fn:=Tryz.f221) Tryz.func221 rfl rfl rfl (by kernel_rfl) (by kernel_rfl) (Nat.le_of_ble_eq_true rfl) ?_
  simp (maxSteps:=1000000) -implicitDefEqProofs only [go_sem,awp_seq,Nat.reduceBEq,Nat.reduceAdd,Nat.reduceLT,Nat.reduceEqDiff]
  refine callA_tt H ?_
  simp (maxSteps:=1000000) -implicitDefEqProofs only [go_sem,awp_seq,Nat.reduceBEq,Nat.reduceLeDiff,Nat.reduceLT]
 | false =>
  rw [hb]at H
  rw [if_neg (by simp)]
  refine ACalls.of ⟨6,[],[]⟩ (fn:=Tryz.f221) Tryz.func221 rfl rfl rfl (by kernel_rfl) (by kernel_rfl) (Nat.le_of_ble_eq_true rfl) ?_
  simp (maxSteps:=1000000) -implicitDefEqProofs only [go_sem,awp_seq,Nat.reduceBEq,Nat.reduceAdd,Nat.reduceLT,Nat.reduceEqDiff]
  refine callA_tt H ?_
  simp (maxSteps:=1000000) -implicitDefEqProofs only [go_sem,awp_seq,Nat.reduceBEq,Nat.reduceAdd,Nat.reduceLeDiff,Nat.reduceLT]
  refine callA_tt T ?_
  simp (maxSteps:=1000000) -implicitDefEqProofs only [go_sem,awp_seq,Nat.reduceBEq,Nat.reduceAdd,Nat.reduceMul,Nat.reduceLeDiff,Nat.reduceLT]
theorem erows_c (n:Int) (rs:List RuleV) (pool:List PI) (vars:Nat) (set k:Int) (hp:pool.length≤vars) (hv:vars≤1000) (hr:rs.length≤1048576):AT 230 [.agg [i64 k],frA n rs pool (vars:Nat) set] (.sl 3 (if hasE pool k && namB rs 7 k then [rwA (coefs (fun y=>oneI (y.1 == k)) pool vars,0,0)] else [])):=by
 have H:=fhas_c n rs pool (vars:Nat) set k (by omega)
 have M:=names_c n rs pool (vars:Nat) set 7 k hr
 have T:=row_c (f:=231) (pre:=[]) (post:=[.ptr [i64 k]]) (fun y=>oneI (y.1 == k)) n rs pool vars set 0 0 hp hv (fun y _=>exr1_c y k)
 generalize coefs (fun y=>oneI (y.1 == k)) pool vars=c at *
 cases hb:hasE pool k with
 | false =>
  rw [hb]at H
  rw [Bool.false_and,if_neg (by simp)]
  refine ACalls.of ⟨6,[(3,2)],[]⟩ (fn:=Tryz.f230) Tryz.func230 rfl rfl rfl (by kernel_rfl) (by kernel_rfl) (Nat.le_of_ble_eq_true rfl) ?_
  simp (maxSteps:=1000000) -implicitDefEqProofs only [go_sem,awp_seq,Nat.reduceBEq,Nat.reduceAdd,Nat.reduceLT,Nat.reduceEqDiff]
  refine callA_tt H ?_
  simp (maxSteps:=1000000) -implicitDefEqProofs only [Bool.not_false,go_sem,awp_seq,Nat.reduceBEq,Nat.reduceLeDiff,Nat.reduceLT]
 | true =>
  rw [hb]at H
  rw [Bool.true_and]
  cases hm:namB rs 7 k with
  | false =>
   rw [hm]at M
   rw [if_neg (by simp)]
   refine ACalls.of ⟨6,[(3,2)],[]⟩ (fn:=Tryz.f230) Tryz.func230 rfl rfl rfl (by kernel_rfl) (by kernel_rfl) (Nat.le_of_ble_eq_true rfl) ?_
   simp (maxSteps:=1000000) -implicitDefEqProofs only [go_sem,awp_seq,Nat.reduceBEq,Nat.reduceAdd,Nat.reduceLT,Nat.reduceEqDiff]
   refine callA_tt H ?_
   simp (maxSteps:=1000000) -implicitDefEqProofs only [Bool.not_true,go_sem,awp_seq,Nat.reduceBEq,Nat.reduceAdd]
   refine callA_tt M ?_
   simp (maxSteps:=1000000) -implicitDefEqProofs only [Bool.not_false,go_sem,awp_seq,Nat.reduceBEq,Nat.reduceLeDiff,Nat.reduceLT]
  | true =>
   rw [hm]at M
   rw [if_pos rfl]
   refine ACalls.of ⟨6,[(3,2)],[]⟩ (fn:=Tryz.f230) Tryz.func230 rfl rfl rfl (by kernel_rfl) (by kernel_rfl) (Nat.le_of_ble_eq_true rfl) ?_
   simp (maxSteps:=1000000) -implicitDefEqProofs only [go_sem,awp_seq,Nat.reduceBEq,Nat.reduceAdd,Nat.reduceLT,Nat.reduceEqDiff]
   refine callA_tt H ?_
   simp (maxSteps:=1000000) -implicitDefEqProofs only [Bool.not_true,go_sem,awp_seq,Nat.reduceBEq,Nat.reduceAdd]
   refine callA_tt M ?_
   simp (maxSteps:=1000000) -implicitDefEqProofs only [Bool.not_true,go_sem,awp_seq,Nat.reduceBEq,Nat.reduceAdd,Nat.reduceLeDiff,Nat.reduceLT]
   refine callA_tt T ?_
   simp (maxSteps:=1000000) -implicitDefEqProofs only [go_sem,awp_seq,Nat.reduceBEq,Nat.reduceAdd,Nat.reduceMul,Nat.reduceLeDiff,Nat.reduceLT]
theorem rep_4 {w:World} {Z:Zone} {a b c d:AV} {x y z u:Value} (h1:Rep w Z a x) (h2:Rep w Z b y) (h3:Rep w Z c z) (h4:Rep w Z d u):Rep w Z (.agg [a,b,c,d]) (.agg #[x,y,z,u]) :=
 .agg rfl fun j hj=>by
  match j,hj with
  | 0,_=>exact h1
  | 1,_=>exact h2
  | 2,_=>exact h3
  | 3,_=>exact h4
theorem frame_rep {w:World} {Z:Zone} {n:Int} {rs:List RuleV} {pool:List PI} {vars set:Int} {x y:Value} (h1:Rep w Z (rulesA rs) x) (h2:Rep w Z (.sl 9 (pool.map itA)) y):Rep w Z (frA n rs pool vars set) (.agg #[.int .i64 n,x,y,.int .i64 vars,.int .i64 set]) :=
 .agg rfl fun j hj=>by
  match j,hj with
  | 0,_=>exact .lit rfl
  | 1,_=>exact h1
  | 2,_=>exact h2
  | 3,_=>exact .lit rfl
  | 4,_=>exact .lit rfl
theorem fn_pre1 {w:World} {Z:Zone} {f:Fn} {a:AV} {x:Value} (h:Rep w Z a x):Rep w Z (.fn f [a] []) (.func f #[x] #[]) :=
 .fn rfl (fun j hj=>by match j,hj with|0,_=>exact h) rfl (fun j hj=>absurd hj (by simp))
theorem set_val {w:World} {Z:Zone} {lo hi k:Int} {v:Value} (h:Rep w Z (.agg [i64 lo,i64 hi,i64 k]) v):v=.agg #[.int .i64 lo,.int .i64 hi,.int .i64 k]:=by
 cases h with
 | @agg cs us hl hr =>
  congr 1
  apply Array.ext
  ·exact hl
  ·intro i hi _
   have:i<3:=by rw [hl]at hi;simpa using hi
   match i,this with
   | 0,_=>exact (hr 0 (by simp)).lit_eq
   | 1,_=>exact (hr 1 (by simp)).lit_eq
   | 2,_=>exact (hr 2 (by simp)).lit_eq
theorem own_cells {w:World} {B:Nat} {e:TypeId} {v:Value} {n:Nat} {xs:List Value} (h:w.ownsRow B e 1 v n xs) (hn:0<n):∃g cap cur,v=.slice (some ⟨g,0,none⟩) n cap∧B≤g∧w.heap[g]? = some (.cells cur e (0,0))∧n≤cap∧cap≤maxLen∧cur.size=cap∧cur.toList.take n=xs:=by
 rcases h.2 with ⟨_,h0⟩|⟨g,cap,cur,rfl,a2,a3,a4,a5,a6,a7⟩
 ·omega
 ·exact ⟨g,cap,cur,rfl,a2,a3,a4,a5,by omega,by rw [Nat.mul_one]at a7;exact a7⟩
theorem own_store {w:World} {B g n cap:Nat} {cur:Array Value} {e:TypeId} {xs:List Value} (hg:w.heap[g]? = some (.cells cur e (0,0))) (hB:B≤g) (h1:n≤cap) (h2:cap≤maxLen) (h3:cur.size=cap) (h4:cur.toList.take n=xs) (s:Nat) (x:Value) :
  (w.setCell ⟨g,s,none⟩ x).ownsRow B e 1 (.slice (some ⟨g,0,none⟩) n cap) n (xs.set s x):=by
 have hl:xs.length=n:=by rw [←h4,List.length_take,Array.length_toList];omega
 refine ⟨by rw [List.length_set,hl];omega,.inr ⟨g,cap,_,rfl,hB,heap_setCell_same _ _ _ _ _ _ hg,h1,h2,by simp;omega,?_⟩⟩
 rw [Nat.mul_one,Array.toList_setIfInBounds,List.take_set,h4]
theorem rows_rep {w:World} {Z:Zone} {b cap:Nat} (l:List RowP) (vv:Nat→Value) (hb:b<w.heap.size) (hc:l.length≤cap) (hZ:∀o,Z b o) (h:∀i (hi:i<l.length),(w.cell? ⟨b,i*3,none⟩=some (vv i)∧w.cell? ⟨b,i*3+1,none⟩=some (.int .i64 (l[i]'hi).2.1)∧w.cell? ⟨b,i*3+2,none⟩=some (.int .i64 (l[i]'hi).2.2))∧Rep w Z (.sl 1 ((l[i]'hi).1.map fun z=>i64 z)) (vv i)):Rep w Z (.sl 3 (l.map rwA)) (.slice (some ⟨b,0,none⟩) l.length cap):=by
 have key:Rep w Z (.sl 3 (l.map rwA)) (.slice (some ⟨b,0,none⟩) (l.map rwA).length cap):=by
  refine .sl (fun i j=>if j=0 then vv i else if j=1 then .int .i64 (l.getD i ([],0,0)).2.1 else .int .i64 (l.getD i ([],0,0)).2.2) hb (by simpa using hc) (fun i hi=>by simp [AV.cells]) (fun i j hi hj=>⟨?_,hZ _⟩) (fun i hi j hj=>?_)
  ·have hi':i<l.length:=by simpa using hi
   obtain ⟨⟨a0,a1,a2⟩,_⟩:=h i hi'
   have e:l.getD i ([],0,0)=l[i]:=by rw [List.getD_eq_getElem?_getD,List.getElem?_eq_getElem hi'];rfl
   match j,hj with
   | 0,_=>rw [if_pos rfl,show 0+i*3+0=i*3 by omega];exact a0
   | 1,_=>rw [if_neg (by decide),if_pos rfl,show 0+i*3+1=i*3+1 by omega,e];exact a1
   | 2,_=>rw [if_neg (by decide),if_neg (by decide),show 0+i*3+2=i*3+2 by omega,e];exact a2
  ·have hi':i<l.length:=by simpa using hi
   have hj':j<3:=by simpa [AV.cells]using hj
   obtain ⟨_,hr⟩:=h i hi'
   have e:l.getD i ([],0,0)=l[i]:=by rw [List.getD_eq_getElem?_getD,List.getElem?_eq_getElem hi'];rfl
   simp only [List.getElem_map,AV.cells]
   match j,hj' with
   | 0,_=>rw [if_pos rfl];exact hr
   | 1,_=>rw [if_neg (by decide),if_pos rfl,e];exact .lit rfl
   | 2,_=>rw [if_neg (by decide),if_neg (by decide),e];exact .lit rfl
 rw [List.length_map]at key
 exact key
theorem srows_c (lo hi k n:Int) (rs:List RuleV) (pool:List PI) (vars s:Nat) (hp:pool.length≤vars) (hv:vars≤1000) (hs:s<vars) (h0:0≤lo∧lo≤9999999) (h1:0≤hi∧hi≤9999999) :
  AT 215 [.agg [i64 lo,i64 hi,i64 k],frA n rs pool (vars:Nat) (s:Nat)] (.sl 3 [rwA ((coefs (setM k) pool vars).set s (-(min hi 1000000)),-1000000,0),rwA ((coefs (setM k) pool vars).set s (-(min lo 1000000)),0,1000000)]):=by
 refine ⟨⟨_,Tryz.func215,by kernel_rfl,by kernel_rfl⟩,fun w Z vs hE hz _ hrep=>?_⟩
 obtain ⟨v1,v2,rfl,q1,q2⟩:=reps2 hrep
 obtain rfl:=set_val q1
 obtain ⟨x,y,rfl,qr,qp⟩:=frame_val q2
 clear hrep q2
 change Calls Tryz.prog _ _ w _
 have hcl:(coefs (setM k) pool vars).length=vars:=by
  unfold coefs
  simp
  omega
 go_enter Tryz.func215,Tryz.ntmps215
 obtain ⟨W1,hW1⟩:∃W1,W1=(w.alloc (.cells #[.int .i64 lo,.int .i64 hi,.int .i64 k] 143)).alloc (.cells #[.int .i64 n,x,y,.int .i64 (vars:Nat),.int .i64 (s:Nat)] 104):=⟨_,rfl⟩
 have hB1:Below w.heap.size w W1:=by rw [hW1];exact ((Below.refl _ _).alloc (Nat.le_refl _) _).alloc (by simp) _
 have hr1:W1.heap[w.heap.size]? = some (.cells #[.int .i64 lo,.int .i64 hi,.int .i64 k] 143 (0,0)):=by
  rw [hW1,Lib.alloc_old _ _ _ (by simp)]
  exact heap_alloc_new w _
 have hf1:W1.heap[w.heap.size+1]? = some (.cells #[.int .i64 n,x,y,.int .i64 (vars:Nat),.int .i64 (s:Nat)] 104 (0,0)):=by
  rw [hW1]
  have:=heap_alloc_new (w.alloc (.cells #[.int .i64 lo,.int .i64 hi,.int .i64 k] 143)) (.cells #[.int .i64 n,x,y,.int .i64 (vars:Nat),.int .i64 (s:Nat)] 104 (0,0))
  rw [show (w.alloc (.cells #[.int .i64 lo,.int .i64 hi,.int .i64 k] 143)).heap.size=w.heap.size+1 by simp]at this
  exact this
 have hs1:w.heap.size+1<W1.heap.size:=(Array.getElem?_eq_some_iff.1 hf1).1
 have ROW:∀(W:World),Below w.heap.size w W→∀a b:Int,Calls Tryz.prog 101 #[.agg #[.int .i64 n,x,y,.int .i64 (vars:Nat),.int .i64 (s:Nat)],.func (.func 216) #[.agg #[.int .i64 lo,.int .i64 hi,.int .i64 k]] #[],.int .i64 a,.int .i64 b] W fun e w'=>∃v,e=.returned (.agg #[v,.int .i64 a,.int .i64 b])∧Below W.heap.size W w'∧w'.ownsRow W.heap.size 3 1 v vars ((coefs (setM k) pool vars).map (Value.int .i64)):=fun W hB a b =>
  row_w (pre:=[.agg [i64 lo,i64 hi,i64 k]]) (post:=[]) (setM k) n rs pool vars (s:Nat) a b hp hv (fun y _=>mset_c lo hi k y) (env_below hE hB) (fun b o h=>Nat.lt_of_lt_of_le (hz b o h) hB.size) (rep_4 (frame_rep (qr.keep (Keeps.ofBelow hB) fun _ _ h=>h) (qp.keep (Keeps.ofBelow hB) fun _ _ h=>h)) (fn_pre1 (q1.keep (Keeps.ofBelow hB) fun _ _ h=>h)) (.lit rfl) (.lit rfl))
 go_wp2_with (go_at_call 101;rw [←hW1];refine (ROW W1 hB1 _ _).mono ?_)
 rintro e w2 ⟨v,rfl,hb2,hown2⟩
 clear hW1
 obtain ⟨g,cap,cur,rfl,hg1,hg2,hg3,hg4,hg5,hg6⟩:=own_cells hown2 (by omega)
 have hB2:Below w.heap.size w w2:=hB1.trans (hb2.mono hB1.size)
 have hr2:w2.heap[w.heap.size]? = _:=(hb2.block _ (by omega)).trans hr1
 have hf2:w2.heap[w.heap.size+1]? = _:=(hb2.block _ (by omega)).trans hf1
 have hgs:g<w2.heap.size:=(Array.getElem?_eq_some_iff.1 hg2).1
 have gs:((s:Nat):Int)<((vars:Nat):Int):=by omega
 have gs0:(0:Int)≤((s:Nat):Int):=by omega
 have wn:IntKind.i64.wrap (-(min hi 1000000)) = -(min hi 1000000):=IntWalk.i64_in _ (by omega)
 have wn2:IntKind.i64.wrap (-(min lo 1000000)) = -(min lo 1000000):=IntWalk.i64_in _ (by omega)
 have cl:∀{W:World},W.heap[w.heap.size]? = some (.cells #[.int .i64 lo,.int .i64 hi,.int .i64 k] 143 (0,0))→W.heap[w.heap.size+1]? = some (.cells #[.int .i64 n,x,y,.int .i64 (vars:Nat),.int .i64 (s:Nat)] 104 (0,0)) →
   (W.cell? ⟨w.heap.size,0,none⟩=some (.int .i64 lo)∧W.cell? ⟨w.heap.size,1,none⟩=some (.int .i64 hi)∧W.cell? ⟨w.heap.size,2,none⟩=some (.int .i64 k))∧W.cell? ⟨w.heap.size+1,0,none⟩=some (.int .i64 n)∧W.cell? ⟨w.heap.size+1,1,none⟩=some x∧W.cell? ⟨w.heap.size+1,2,none⟩=some y∧W.cell? ⟨w.heap.size+1,3,none⟩=some (.int .i64 (vars:Nat))∧W.cell? ⟨w.heap.size+1,4,none⟩=some (.int .i64 (s:Nat)):=fun h1 h2 =>
  ⟨⟨by rw [Lib.cell_of_heap h1];rfl,by rw [Lib.cell_of_heap h1];rfl,by rw [Lib.cell_of_heap h1];rfl⟩,by rw [Lib.cell_of_heap h2];rfl,by rw [Lib.cell_of_heap h2];rfl,by rw [Lib.cell_of_heap h2];rfl,by rw [Lib.cell_of_heap h2];rfl,by rw [Lib.cell_of_heap h2];rfl⟩
 go_upto_region 2 with fail
 obtain ⟨Wu,hWu⟩:∃Wu,Wu=w2.alloc (.cells #[Value.slice (some ⟨g,0,none⟩) vars cap,.int .i64 (-1000000),.int .i64 0] 110):=⟨_,rfl⟩
 rw [←hWu]
 have hBu:Below w.heap.size w Wu:=by rw [hWu];exact hB2.alloc hB2.size _
 have hru:Wu.heap[w.heap.size]? = some (.cells #[.int .i64 lo,.int .i64 hi,.int .i64 k] 143 (0,0)):=by rw [hWu,Lib.alloc_old _ _ _ (by omega)];exact hr2
 have hfu:Wu.heap[w.heap.size+1]? = some (.cells #[.int .i64 n,x,y,.int .i64 (vars:Nat),.int .i64 (s:Nat)] 104 (0,0)):=by rw [hWu,Lib.alloc_old _ _ _ (by omega)];exact hf2
 have hgu:Wu.heap[g]? = some (.cells cur 3 (0,0)):=by rw [hWu,Lib.alloc_old _ _ _ hgs];exact hg2
 have huu:Wu.heap[w2.heap.size]? = some (.cells #[Value.slice (some ⟨g,0,none⟩) vars cap,.int .i64 (-1000000),.int .i64 0] 110 (0,0)):=by rw [hWu];exact heap_alloc_new w2 _
 have hsu:w2.heap.size<Wu.heap.size:=(Array.getElem?_eq_some_iff.1 huu).1
 clear hWu
 obtain ⟨u,hu⟩:∃u,u=w2.heap.size:=⟨_,rfl⟩
 rw [←hu]at huu hsu hgs ⊢
 have hugs:g≠u:=by omega
 have hu1:w.heap.size+1<u:=by have:=hb2.size;omega
 clear hg2 hown2 hr2 hf2 hB2 hb2 hr1 hf1 hu
 obtain ⟨⟨r0,r1,r2⟩,f0,f1,f2,f3,f4⟩:=cl hru hfu
 have u0:Wu.cell? ⟨u,0,none⟩=some (.slice (some ⟨g,0,none⟩) vars cap):=by rw [Lib.cell_of_heap huu];rfl
 obtain ⟨z,hz1⟩:∃z,Wu.cell? ⟨g,s,none⟩=some z:=by
  rw [Lib.cell_of_heap hgu]
  exact ⟨_,Array.getElem?_eq_getElem (by omega)⟩
 have hfz:Wu.frozen? ⟨g,s,none⟩=false:=frozen_of_row _ _ _ _ _ hgu
 go_upto_region 3 with fail
 obtain ⟨W3,hW3⟩:∃W3,W3=Wu.setCell ⟨g,s,none⟩ (.int .i64 (-(min hi 1000000))):=⟨_,rfl⟩
 rw [←hW3]
 have hB3:Below w.heap.size w W3:=by rw [hW3];exact below_setCell hBu (by omega) hgu _
 have hr3:W3.heap[w.heap.size]? = some (.cells #[.int .i64 lo,.int .i64 hi,.int .i64 k] 143 (0,0)):=by rw [hW3,heap_setCell_other _ _ _ _ (by simp;omega)];exact hru
 have hf3:W3.heap[w.heap.size+1]? = some (.cells #[.int .i64 n,x,y,.int .i64 (vars:Nat),.int .i64 (s:Nat)] 104 (0,0)):=by rw [hW3,heap_setCell_other _ _ _ _ (by simp;omega)];exact hfu
 have hu3:W3.heap[u]? = some (.cells #[Value.slice (some ⟨g,0,none⟩) vars cap,.int .i64 (-1000000),.int .i64 0] 110 (0,0)):=by rw [hW3,heap_setCell_other _ _ _ _ (by simp;omega)];exact huu
 have hO3:W3.ownsRow w.heap.size 3 1 (.slice (some ⟨g,0,none⟩) vars cap) vars (((coefs (setM k) pool vars).map (Value.int .i64)).set s (.int .i64 (-(min hi 1000000)))):=by rw [hW3];exact own_store hgu (by omega) hg3 hg4 hg5 hg6 s _
 clear hW3 hgu hru hfu huu r0 r1 r2 f0 f1 f2 f3 f4 u0 hz1 hfz hBu hg6 hg5
 obtain ⟨⟨r0,r1,r2⟩,f0,f1,f2,f3,f4⟩:=cl hr3 hf3
 have hs3:u<W3.heap.size:=(Array.getElem?_eq_some_iff.1 hu3).1
 go_wp2_with (go_at_call 101;refine (ROW W3 hB3 _ _).mono ?_)
 rintro e w4 ⟨v,rfl,hb4,hown4⟩
 obtain ⟨g2,cap2,cur2,rfl,hh1,hh2,hh3,hh4,hh5,hh6⟩:=own_cells hown4 (by omega)
 have hB4:Below w.heap.size w w4:=hB3.trans (hb4.mono hB3.size)
 have hr4:w4.heap[w.heap.size]? = _:=(hb4.block _ (by omega)).trans hr3
 have hf4:w4.heap[w.heap.size+1]? = _:=(hb4.block _ (by omega)).trans hf3
 have hu4:w4.heap[u]? = _:=(hb4.block _ hs3).trans hu3
 have hO4:w4.ownsRow w.heap.size 3 1 _ vars _:=own_at hO3 fun j _ hj=>hb4.block j hj
 have hg4s:g2<w4.heap.size:=(Array.getElem?_eq_some_iff.1 hh2).1
 go_upto_region 4 with fail
 obtain ⟨W5,hW5⟩:∃W5,W5=w4.alloc (.cells #[Value.slice (some ⟨g2,0,none⟩) vars cap2,.int .i64 0,.int .i64 1000000] 110):=⟨_,rfl⟩
 rw [←hW5]
 have hB5:Below w.heap.size w W5:=by rw [hW5];exact hB4.alloc hB4.size _
 have hr5:W5.heap[w.heap.size]? = some (.cells #[.int .i64 lo,.int .i64 hi,.int .i64 k] 143 (0,0)):=by rw [hW5,Lib.alloc_old _ _ _ (by omega)];exact hr4
 have hf5:W5.heap[w.heap.size+1]? = some (.cells #[.int .i64 n,x,y,.int .i64 (vars:Nat),.int .i64 (s:Nat)] 104 (0,0)):=by rw [hW5,Lib.alloc_old _ _ _ (by omega)];exact hf4
 have hu4s:u<w4.heap.size:=(Array.getElem?_eq_some_iff.1 hu4).1
 have hu5:W5.heap[u]? = some (.cells #[Value.slice (some ⟨g,0,none⟩) vars cap,.int .i64 (-1000000),.int .i64 0] 110 (0,0)):=by rw [hW5,Lib.alloc_old _ _ _ (by omega)];exact hu4
 have hg5:W5.heap[g2]? = some (.cells cur2 3 (0,0)):=by rw [hW5,Lib.alloc_old _ _ _ hg4s];exact hh2
 have hl5:W5.heap[w4.heap.size]? = some (.cells #[Value.slice (some ⟨g2,0,none⟩) vars cap2,.int .i64 0,.int .i64 1000000] 110 (0,0)):=by rw [hW5];exact heap_alloc_new w4 _
 have hO5:=hO4.alloc (.cells #[Value.slice (some ⟨g2,0,none⟩) vars cap2,.int .i64 0,.int .i64 1000000] 110)
 rw [←hW5]at hO5
 have hgw3:g<W3.heap.size:=(own_zone hO3 rfl).2
 obtain ⟨b,hb⟩:∃b,b=w4.heap.size:=⟨_,rfl⟩
 rw [←hb]at hl5 hg4s hu4s ⊢
 have hbu:b≠u:=by omega
 have hbg:b≠g2:=by omega
 have hb1:w.heap.size+1<b:=by have:=hb4.size;omega
 have hb5s:b<W5.heap.size:=(Array.getElem?_eq_some_iff.1 hl5).1
 clear hW5 hh2 hown4 hr4 hf4 hu4 hO4 hB4 hb4 hr3 hf3 hu3 hO3 r0 r1 r2 f0 f1 f2 f3 f4 hb
 obtain ⟨⟨r0,r1,r2⟩,f0,f1,f2,f3,f4⟩:=cl hr5 hf5
 have b0:W5.cell? ⟨b,0,none⟩=some (.slice (some ⟨g2,0,none⟩) vars cap2):=by rw [Lib.cell_of_heap hl5];rfl
 obtain ⟨z,hz1⟩:∃z,W5.cell? ⟨g2,s,none⟩=some z:=by
  rw [Lib.cell_of_heap hg5]
  exact ⟨_,Array.getElem?_eq_getElem (by omega)⟩
 have hfz:W5.frozen? ⟨g2,s,none⟩=false:=frozen_of_row _ _ _ _ _ hg5
 go_upto_region 5 with fail
 obtain ⟨W6,hW6⟩:∃W6,W6=W5.setCell ⟨g2,s,none⟩ (.int .i64 (-(min lo 1000000))):=⟨_,rfl⟩
 rw [←hW6]
 have hB6:Below w.heap.size w W6:=by rw [hW6];exact below_setCell hB5 (by have:=hB3.size;omega) hg5 _
 have hu6:W6.heap[u]? = some (.cells #[Value.slice (some ⟨g,0,none⟩) vars cap,.int .i64 (-1000000),.int .i64 0] 110 (0,0)):=by rw [hW6,heap_setCell_other _ _ _ _ (by simp;omega)];exact hu5
 have hl6:W6.heap[b]? = some (.cells #[Value.slice (some ⟨g2,0,none⟩) vars cap2,.int .i64 0,.int .i64 1000000] 110 (0,0)):=by rw [hW6,heap_setCell_other _ _ _ _ (by simp;omega)];exact hl5
 have hO6:W6.ownsRow w.heap.size 3 1 (.slice (some ⟨g2,0,none⟩) vars cap2) vars (((coefs (setM k) pool vars).map (Value.int .i64)).set s (.int .i64 (-(min lo 1000000)))):=by rw [hW6];exact own_store hg5 (by have:=hB3.size;omega) hh3 hh4 hh5 hh6 s _
 have hP6:W6.ownsRow w.heap.size 3 1 (.slice (some ⟨g,0,none⟩) vars cap) vars (((coefs (setM k) pool vars).map (Value.int .i64)).set s (.int .i64 (-(min hi 1000000)))):=by
  refine ⟨hO5.1,.inr ?_⟩
  rcases hO5.2 with ⟨e0,_⟩|⟨g',cap',cur',e1,a2,a3,a4,a5,a6,a7⟩
  ·cases e0
  ·cases e1
   exact ⟨g,cap,cur',rfl,a2,by rw [hW6,heap_setCell_other _ _ _ _ (by simp;omega)];exact a3,a4,a5,a6,a7⟩
 clear hW6 hu5 hl5 hg5 hO5 hB5 hr5 hf5 r0 r1 r2 f0 f1 f2 f3 f4 b0 hz1 hfz
 have u0:W6.cell? ⟨u,0,none⟩=some (.slice (some ⟨g,0,none⟩) vars cap):=by rw [Lib.cell_of_heap hu6];rfl
 have u1:W6.cell? ⟨u,1,none⟩=some (.int .i64 (-1000000)):=by rw [Lib.cell_of_heap hu6];rfl
 have u2:W6.cell? ⟨u,2,none⟩=some (.int .i64 0):=by rw [Lib.cell_of_heap hu6];rfl
 have l0:W6.cell? ⟨b,0,none⟩=some (.slice (some ⟨g2,0,none⟩) vars cap2):=by rw [Lib.cell_of_heap hl6];rfl
 have l1:W6.cell? ⟨b,1,none⟩=some (.int .i64 0):=by rw [Lib.cell_of_heap hl6];rfl
 have l2:W6.cell? ⟨b,2,none⟩=some (.int .i64 1000000):=by rw [Lib.cell_of_heap hl6];rfl
 go_wp2
 go_ret
 obtain ⟨W7,hW7⟩:∃W7,W7=W6.alloc (.cells #[Value.slice (some ⟨g,0,none⟩) vars cap,.int .i64 (-1000000),.int .i64 0,.slice (some ⟨g2,0,none⟩) vars cap2,.int .i64 0,.int .i64 1000000] 110):=⟨_,rfl⟩
 rw [←hW7]
 have hB7:Below w.heap.size w W7:=by rw [hW7];exact hB6.alloc hB6.size _
 have hx7:W7.heap[W6.heap.size]? = some (.cells #[Value.slice (some ⟨g,0,none⟩) vars cap,.int .i64 (-1000000),.int .i64 0,.slice (some ⟨g2,0,none⟩) vars cap2,.int .i64 0,.int .i64 1000000] 110 (0,0)):=by rw [hW7];exact heap_alloc_new W6 _
 have hO7:=hO6.alloc (.cells #[Value.slice (some ⟨g,0,none⟩) vars cap,.int .i64 (-1000000),.int .i64 0,.slice (some ⟨g2,0,none⟩) vars cap2,.int .i64 0,.int .i64 1000000] 110)
 have hP7:=hP6.alloc (.cells #[Value.slice (some ⟨g,0,none⟩) vars cap,.int .i64 (-1000000),.int .i64 0,.slice (some ⟨g2,0,none⟩) vars cap2,.int .i64 0,.int .i64 1000000] 110)
 rw [←hW7]at hO7 hP7
 have hs7:W6.heap.size<W7.heap.size:=(Array.getElem?_eq_some_iff.1 hx7).1
 have z6:w.heap.size≤W6.heap.size:=hB6.size
 clear hW7
 have ms:∀z:Int,((coefs (setM k) pool vars).map (Value.int .i64)).set s (.int .i64 z)=((coefs (setM k) pool vars).set s z).map (Value.int .i64):=fun z=>by rw [List.map_set]
 rw [ms]at hO7 hP7
 have hl7:∀z:Int,((coefs (setM k) pool vars).set s z).length=vars:=fun z=>by rw [List.length_set,hcl]
 refine ⟨_,rfl,hB7,rows_rep [_,_] (fun i=>if i=0 then .slice (some ⟨g,0,none⟩) vars cap else .slice (some ⟨g2,0,none⟩) vars cap2) hs7 (Nat.le_refl _) (fun o=>.inr ⟨z6,hs7⟩) fun i hi=>?_⟩
 match i,hi with
 | 0,_=>exact ⟨⟨by rw [Lib.cell_of_heap hx7];rfl,by rw [Lib.cell_of_heap hx7];rfl,by rw [Lib.cell_of_heap hx7];rfl⟩,ints_rep (hl7 _).symm hP7 fun g hg o=>.inr (own_zone hP7 hg)⟩
 | 1,_=>exact ⟨⟨by rw [Lib.cell_of_heap hx7];rfl,by rw [Lib.cell_of_heap hx7];rfl,by rw [Lib.cell_of_heap hx7];rfl⟩,ints_rep (hl7 _).symm hO7 fun g hg o=>.inr (own_zone hO7 hg)⟩
def famR (pool:List PI) (vars:Nat) (f:Int):RowP:=(coefs (fun y=>oneI (y.2.2.1 == f)) pool vars,0,1)
theorem frows_c (n:Int) (rs:List RuleV) (pool:List PI) (vars:Nat) (set:Int) (hp:pool.length≤vars) (hv:vars≤1000):AT 236 [.agg [],frA n rs pool (vars:Nat) set] (.sl 3 (((repE pool).map (famR pool vars)).map rwA)):=by
 have RP:=rep_c pool (by omega)
 have T:∀f:Int,AT 101 [frA n rs pool (vars:Nat) set,.fn (.func 238) [] [.ptr [i64 f]],i64 0,i64 1] (rwA (famR pool vars f)):=fun f=>row_c (f:=238) (pre:=[]) (post:=[.ptr [i64 f]]) (fun y=>oneI (y.2.2.1 == f)) n rs pool vars set 0 1 hp hv (fun y _=>far1_c y f)
 have hfl:(repE pool).length≤1000:=by
  unfold repE
  rw [List.length_mergeSort]
  have h1:∀(l seen:List Int),(dupA seen l).length≤l.length:=by
   intro l
   induction l with
   | nil=>intro seen;simp [dupA]
   | cons x l ih =>
    intro seen
    unfold dupA
    have:=ih (x :: seen)
    split
    ·simp;omega
    ·simp;omega
  have h2:=h1 (famL pool) []
  have h3:(famL pool).length≤pool.length:=by
   unfold famL
   refine Nat.le_trans (List.length_filter_le _ _) ?_
   simp
  omega
 generalize repE pool=fams at *
 obtain ⟨rf,hrf⟩:∃rf,rf=famR pool vars:=⟨_,rfl⟩
 rw [←hrf]at T ⊢
 clear hrf
 obtain ⟨R,hR⟩:∃R,R=fams.map rf:=⟨_,rfl⟩
 rw [←hR]
 refine ACalls.of ⟨15,[(5,7)],[]⟩ (fn:=Tryz.f236) Tryz.func236 rfl rfl rfl (by kernel_rfl) (by kernel_rfl) (Nat.le_of_ble_eq_true rfl) ?_
 simp (maxSteps:=1000000) -implicitDefEqProofs only [go_sem,awp_seq,Nat.reduceBEq,Nat.reduceAdd,Nat.reduceLT,Nat.reduceEqDiff]
 refine callA_tt RP ?_
 simp (maxSteps:=1000000) -implicitDefEqProofs only [List.length_map,go_sem,awp_seq,Nat.reduceBEq]
 refine loop_mk (α:={x:Nat × List RowP // x.1≤fams.length∧R=x.2 ++ (fams.drop x.1).map rf∧x.2.length≤x.1}) (fun x=>[(0,some (.av (.agg []))),(1,some (.av (frA n rs pool (vars:Nat) set))),(2,some (.ref 2 0)),(3,some (.ref 3 0)),(4,some (.av (.lit (.slice none 0 0)))),(5,some (bif x.1.2.isEmpty then .av (.lit (.slice none 0 0)) else .osl 24 3 0 x.1.2.length)),(12,some (.av (.sl 1 (fams.map fun z=>i64 z)))),(13,some (.av (i64 (fams.length:Nat)))),(14,some (.av (i64 (x.1.1:Nat))))]) (fun _=>[(2,[]),(3,frC n rs pool (vars:Nat) set)]) (fun x=>bif x.1.2.isEmpty then [] else [(24,.row 110 3 (x.1.2.map rwA))]) (fun x=>fams.length-x.1.1) ⟨(0,[]),Nat.zero_le _,hR,Nat.le_refl _⟩ ?_ ?_
 ·simp (maxSteps:=1000000) -implicitDefEqProofs only [List.isEmpty_nil,cond_true,go_sem,awp_seq,Nat.reduceBEq,Int.cast_ofNat_Int]
 clear hR
 rintro ⟨⟨k,acc⟩,hk,hR,hacc⟩
 dsimp only at hk hR hacc
 by_cases hlt:k<fams.length
 ·have g1:decide (((k:Nat):Int)<(fams.length:Nat))=true:=by simp;omega
  have e1:=map_get (fun z=>i64 z) fams hlt
  have w1:IntKind.i64.wrap ((k:Int)+1)=((k+1:Nat):Int):=by rw [IntWalk.i64_in _ (by omega)];omega
  rw [List.drop_eq_getElem_cons hlt,List.map_cons]at hR
  generalize fams[k]=f at *
  have T:=T f
  generalize rf f=r at *
  obtain ⟨c,lo,hi⟩:=r
  have T:AT 101 [frA n rs pool (vars:Nat) set,.fn (.func 238) [] [.ptr [i64 f]],i64 0,i64 1] (.agg [.sl 1 (c.map fun z=>i64 z),i64 lo,i64 hi]):=T
  have hR:R=(acc ++ [(c,lo,hi)]) ++ (fams.drop (k+1)).map rf:=by rw [hR,List.append_assoc];rfl
  cases acc with
  | nil =>
   simp (maxSteps:=1000000) -implicitDefEqProofs only [g1,e1,List.isEmpty_nil,cond_true,Int.toNat_natCast,Int.natCast_nonneg,go_sem,awp_seq,Nat.reduceBEq,Nat.reduceAdd,Nat.reduceLeDiff,Nat.reduceLT,Nat.reduceEqDiff]
   refine callA_tt T ?_
   simp (maxSteps:=1000000) -implicitDefEqProofs only [w1,List.length_cons,List.length_map,go_sem,awp_seq,Nat.reduceBEq,Nat.reduceAdd,Nat.reduceMul,Nat.reduceLeDiff,Nat.reduceLT]
   refine roundK_mk ⟨(k+1,[(c,lo,hi)]),by show k+1≤_;omega,hR,by show 1≤k+1;omega⟩ ?_ (by show fams.length-(k+1)<fams.length-k;omega)
   simp (maxSteps:=1000000) -implicitDefEqProofs only [List.isEmpty_cons,cond_false,List.map_cons,List.map_nil,List.length_cons,List.length_nil,go_sem,awp_seq,Nat.reduceBEq]
  | cons z zs =>
   simp (maxSteps:=1000000) -implicitDefEqProofs only [g1,e1,List.isEmpty_cons,cond_false,Int.toNat_natCast,Int.natCast_nonneg,go_sem,awp_seq,Nat.reduceBEq,Nat.reduceAdd,Nat.reduceLeDiff,Nat.reduceLT,Nat.reduceEqDiff]
   refine callA_tt T ?_
   simp (maxSteps:=1000000) -implicitDefEqProofs only [w1,List.length_cons,List.length_map,go_sem,awp_seq,Nat.reduceBEq,Nat.reduceAdd,Nat.reduceMul,Nat.reduceLeDiff,Nat.reduceLT]
   simp only [List.length_cons,List.length_map]at hacc ⊢
   refine ⟨by omega,by omega,?_⟩
   refine roundK_mk ⟨(k+1,z :: zs ++ [(c,lo,hi)]),by show k+1≤_;omega,hR,by show (z :: zs ++ [(c,lo,hi)]).length≤k+1;simp;omega⟩ ?_ (by show fams.length-(k+1)<fams.length-k;omega)
   simp (maxSteps:=1000000) -implicitDefEqProofs only [List.isEmpty_cons,List.cons_append,cond_false,List.map_append,List.map_cons,List.map_nil,List.length_cons,List.length_append,List.length_nil,go_sem,awp_seq,Nat.reduceBEq]
 ·have g1:decide (((k:Nat):Int)<(fams.length:Nat))=false:=by simp;omega
  rw [List.drop_of_length_le (by omega)]at hR
  have hR:R=acc:=by rw [hR];simp
  subst hR
  cases R with
  | nil=>simp (maxSteps:=1000000) -implicitDefEqProofs only [g1,List.isEmpty_nil,cond_true,List.map_nil,go_sem,awp_seq,Nat.reduceBEq,Nat.reduceLT]
  | cons z zs =>
   simp (maxSteps:=1000000) -implicitDefEqProofs only [g1,List.isEmpty_cons,cond_false,List.length_cons,List.map_cons,go_sem,awp_seq,Nat.reduceBEq,Nat.reduceLeDiff,Nat.reduceLT]
   exact ⟨by simp,by rw [List.take_of_length_le (by simp)]⟩
def rowE1 (r:RuleV) (rs:List RuleV) (pool:List PI) (vars s:Nat):List RowP :=
 if r.k=6 then [((coefs (setM r.n) pool vars).set s (-(min r.hi 1000000)),-1000000,0),((coefs (setM r.n) pool vars).set s (-(min r.lo 1000000)),0,1000000)] else
 if r.k=7 then (if hasE pool r.n then [] else [(coefs (fun _=>0) pool vars,1,1)]) else
 if r.k=8 then (if hasE pool r.n && namB rs 7 r.n then [(coefs (fun y=>oneI (y.1 == r.n)) pool vars,0,0)] else []) else
 if r.k=9 then (repE pool).map (famR pool vars) else [(coefs (msr r) pool vars,r.lo,r.hi)]
abbrev rwn : String := "examboard/blueprint.rows"
section
variable {a b c d:AV}
theorem rm_content:Meth Tryz.prog 135 rwn (.agg [a,b,c,d]) 201 (.agg [a,b,c]):=fun w Z v h=>by
 obtain ⟨x,y,z,u,rfl,h1⟩:=agg4 h
 exact ⟨.agg #[x,y,z],by kernel_rfl,h1⟩
theorem rm_key:Meth Tryz.prog 141 rwn (.agg [a,b,c,d]) 201 (.agg [a,b,c]):=fun w Z v h=>by
 obtain ⟨x,y,z,u,rfl,h1⟩:=agg4 h
 exact ⟨.agg #[x,y,z],by kernel_rfl,h1⟩
theorem rm_words:Meth Tryz.prog 137 rwn (.agg [a,b,c]) 201 (.agg [a,b,c]):=fun w Z v h=>by
 obtain ⟨x,y,z,rfl,_,_,_⟩:=agg3 h
 exact ⟨.agg #[x,y,z],by kernel_rfl,h⟩
theorem rm_seconds:Meth Tryz.prog 138 rwn (.agg [a,b,c]) 201 (.agg [a,b,c]):=fun w Z v h=>by
 obtain ⟨x,y,z,rfl,_,_,_⟩:=agg3 h
 exact ⟨.agg #[x,y,z],by kernel_rfl,h⟩
theorem rm_points:Meth Tryz.prog 139 rwn (.agg [a,b,c]) 201 (.agg [a,b,c]):=fun w Z v h=>by
 obtain ⟨x,y,z,rfl,_,_,_⟩:=agg3 h
 exact ⟨.agg #[x,y,z],by kernel_rfl,h⟩
theorem rm_set:Meth Tryz.prog 143 rwn (.agg [a,b,c]) 215 (.agg [a,b,c]):=fun w Z v h=>⟨v,by kernel_rfl,h⟩
theorem rm_inc:Meth Tryz.prog 145 rwn (.agg [a]) 221 (.agg [a]):=fun w Z v h=>⟨v,by kernel_rfl,h⟩
theorem rm_exc:Meth Tryz.prog 146 rwn (.agg [a]) 230 (.agg [a]):=fun w Z v h=>⟨v,by kernel_rfl,h⟩
theorem rm_fam:Meth Tryz.prog 148 rwn (.agg []) 236 (.agg []):=fun w Z v h=>⟨v,by kernel_rfl,h⟩
end
theorem rowsR_c (r:RuleV) (n0:Int) (rs:List RuleV) (pool:List PI) (vars s:Nat) (hp:pool.length≤vars) (hv:vars≤1000) (hrs:rs.length≤1048576) (hr:RIn r) (hk:demOk r=true) (hch:chkE r=0) (hs:r.k=6→s<vars):∃t a f a',demV r=.ifc t a∧Meth Tryz.prog t rwn a f a'∧AT f [a',frA n0 rs pool (vars:Nat) (s:Nat)] (.sl 3 ((rowE1 r rs pool vars s).map rwA)):=by
 have hc:=hr.code
 obtain ⟨k,n,lo,hi,code⟩:=r
 rcases dem_kind hk with h|h|h|h|h|h|h|h|h <;> (have h:k=_:=h) <;> subst h
 ·have M:=mrows_c (f:=89) (pre:=[]) (post:=[.ptr (ruleC ⟨1,n,lo,hi,code⟩)]) (fun y=>oneI (underB y.2.1 code)) n0 rs pool vars (s:Nat) lo hi hp hv rfl (fun y _=>ms1_c y ⟨1,n,lo,hi,code⟩ hc)
  exact ⟨_,_,_,_,rfl,rm_content,M⟩
 ·have M:=mrows_c (f:=91) (pre:=[]) (post:=[]) (fun y=>y.2.2.2.2.1) n0 rs pool vars (s:Nat) lo hi hp hv rfl (fun y _=>ms2_c y)
  exact ⟨_,_,_,_,rfl,rm_words,M⟩
 ·have M:=mrows_c (f:=92) (pre:=[]) (post:=[]) (fun y=>y.2.2.2.2.2.1) n0 rs pool vars (s:Nat) lo hi hp hv rfl (fun y _=>ms3_c y)
  exact ⟨_,_,_,_,rfl,rm_seconds,M⟩
 ·have M:=mrows_c (f:=93) (pre:=[]) (post:=[]) (fun y=>y.2.2.2.2.2.2.1) n0 rs pool vars (s:Nat) lo hi hp hv rfl (fun y _=>ms4_c y)
  exact ⟨_,_,_,_,rfl,rm_points,M⟩
 ·have M:=mrows_c (f:=94) (pre:=[]) (post:=[.ptr (ruleC ⟨5,n,lo,hi,code⟩)]) (fun y=>oneI (y.2.2.2.2.2.2.2.1 == n)) n0 rs pool vars (s:Nat) lo hi hp hv rfl (fun y _=>ms5_c y ⟨5,n,lo,hi,code⟩)
  exact ⟨_,_,_,_,rfl,rm_key,M⟩
 ·have hb:=bnds_ok (set_ok (show setE lo hi n=0 from hch)).2
  exact ⟨_,_,_,_,rfl,rm_set,srows_c lo hi n n0 rs pool vars s hp hv (hs rfl) hb.1 hb.2⟩
 ·have M:=irows_c n0 rs pool vars (s:Nat) n hp hv
  refine ⟨_,_,_,_,rfl,rm_inc,?_⟩
  have e:(rowE1 ⟨7,n,lo,hi,code⟩ rs pool vars s).map rwA=if hasE pool n then [] else [rwA (coefs (fun _=>0) pool vars,1,1)]:=by
   show ((if hasE pool n then [] else [(coefs (fun _=>0) pool vars,1,1)]):List RowP).map rwA=_
   split <;> rfl
  rw [e]
  exact M
 ·have M:=erows_c n0 rs pool vars (s:Nat) n hp hv hrs
  refine ⟨_,_,_,_,rfl,rm_exc,?_⟩
  have e:(rowE1 ⟨8,n,lo,hi,code⟩ rs pool vars s).map rwA=if hasE pool n && namB rs 7 n then [rwA (coefs (fun y=>oneI (y.1 == n)) pool vars,0,0)] else []:=by
   show ((if hasE pool n && namB rs 7 n then [(coefs (fun y=>oneI (y.1 == n)) pool vars,0,0)] else []):List RowP).map rwA=_
   split <;> rfl
  rw [e]
  exact M
 ·exact ⟨_,_,_,_,rfl,rm_fam,frows_c n0 rs pool vars (s:Nat) hp hv⟩
def RowsAt (B:Nat) (w:World) (Z:Zone) (v:Value) (L:List RowP) (E:Nat→Prop):Prop :=
 ∃xs,w.ownsRow B 110 3 v L.length xs∧(∀b,E b→B≤b∧b<w.heap.size∧v.ownBlock≠some b)∧∀i (hi:i<L.length),∃vi,xs[i*3]? = some vi∧xs[i*3+1]? = some (.int .i64 (L[i]'hi).2.1)∧xs[i*3+2]? = some (.int .i64 (L[i]'hi).2.2)∧Rep w (fun b o=>Z b o∨E b) (.sl 1 ((L[i]'hi).1.map fun z=>i64 z)) vi
theorem RowsAt.own {B:Nat} {w:World} {Z:Zone} {v:Value} {L:List RowP} {E:Nat→Prop} (h:RowsAt B w Z v L E) {g:Nat} (hg:v.ownBlock=some g):B≤g∧g<w.heap.size:=by
 obtain ⟨xs,q1,_⟩:=h
 exact own_zone q1 hg
theorem RowsAt.blk {B:Nat} {w:World} {Z:Zone} {v:Value} {L:List RowP} {E:Nat→Prop} (h:RowsAt B w Z v L E) {b:Nat} (hb:E b):B≤b∧b<w.heap.size∧v.ownBlock≠some b:=by
 obtain ⟨xs,_,q2,_⟩:=h
 exact q2 b hb
theorem RowsAt.keep {B:Nat} {w w':World} {Z Z':Zone} {v:Value} {L:List RowP} {E:Nat→Prop} (h:RowsAt B w Z v L E) (hs:w.heap.size≤w'.heap.size) (hZ:∀b o,Z b o→Z' b o) (h1:∀b o,Z b o→b<w.heap.size→w'.heap[b]? = w.heap[b]?) (h2:∀b,E b→w'.heap[b]? = w.heap[b]?) (h3:∀b,v.ownBlock=some b→w'.heap[b]? = w.heap[b]?):RowsAt B w' Z' v L E:=by
 obtain ⟨xs,q1,q2,q3⟩:=h
 refine ⟨xs,⟨q1.1,?_⟩,fun b hb=>⟨(q2 b hb).1,Nat.lt_of_lt_of_le (q2 b hb).2.1 hs,(q2 b hb).2.2⟩,fun i hi=>?_⟩
 ·rcases q1.2 with h0|⟨g,cap,cur,e,a2,a3,rest⟩
  ·exact .inl h0
  ·subst e
   exact .inr ⟨g,cap,cur,rfl,a2,(h3 g rfl).trans a3,rest⟩
 ·obtain ⟨vi,p1,p3,p4,p5⟩:=q3 i hi
  refine ⟨vi,p1,p3,p4,p5.keep ⟨hs,fun b o x hb hc=>?_⟩ fun b o h=>h.imp (hZ b o) id⟩
  have hlt:b<w.heap.size:=World.block_lt_of_cell? w _ hc
  have e:w'.heap[b]? = w.heap[b]?:=by
   rcases hb with hb|hb
   ·exact h1 b o hb hlt
   ·exact h2 b hb
  rw [World.cell?_of_block (a:=⟨b,o,none⟩) e]
  exact hc
theorem RowsAt.below {B:Nat} {w w':World} {Z:Zone} {v:Value} {L:List RowP} {E:Nat→Prop} (h:RowsAt B w Z v L E) (hb:Below w.heap.size w w'):RowsAt B w' Z v L E :=
 h.keep hb.size (fun _ _ h=>h) (fun b _ _ h'=>hb.block b h') (fun b h'=>hb.block b (h.blk h').2.1) (fun b h'=>hb.block b (h.own h').2)
theorem RowsAt.store {B:Nat} {w:World} {Z:Zone} {v:Value} {L:List RowP} {E:Nat→Prop} (h:RowsAt B w Z v L E) {g i:Nat} {x:Value} (h1:∀o,¬Z g o) (h2:¬E g) (h3:v.ownBlock≠some g):RowsAt B (w.setCell ⟨g,i,none⟩ x) Z v L E:=by
 refine h.keep (by simp) (fun _ _ h=>h) (fun b o hb _=>?_) (fun b hb=>?_) (fun b hb=>?_)
 ·exact heap_setCell_other _ _ _ _ (by simp;rintro rfl;exact h1 o hb)
 ·exact heap_setCell_other _ _ _ _ (by simp;rintro rfl;exact h2 hb)
 ·exact heap_setCell_other _ _ _ _ (by simp;rintro rfl;exact h3 hb)
theorem RowsAt.rep {B:Nat} {w:World} {Z Z':Zone} {v:Value} {L:List RowP} {E:Nat→Prop} (h:RowsAt B w Z v L E) (hZ:∀b o,Z b o→Z' b o) (hB:∀b o,B≤b→b<w.heap.size→Z' b o):Rep w Z' (.sl 3 (L.map rwA)) v:=by
 obtain ⟨xs,q1,q2,q3⟩:=h
 rcases q1.2 with ⟨rfl,h0⟩|⟨g,cap,cur,rfl,a2,a3,a4,a5,a6,a7⟩
 ·obtain rfl:=List.length_eq_zero_iff.1 h0
  exact .nil
 ·have hg:g<w.heap.size:=(Array.getElem?_eq_some_iff.1 a3).1
  have cell:∀j x,xs[j]? = some x→w.cell? ⟨g,j,none⟩=some x:=fun j x hx=>by
   rw [Lib.cell_of_heap a3]
   have:cur.toList[j]? = some x:=by
    have hj:j<L.length*3:=by
     rw [←q1.1]
     exact (List.getElem?_eq_some_iff.1 hx).1
    rw [←a7,List.getElem?_take,if_pos hj]at hx
    exact hx
   simpa using this
  refine rows_rep L (fun i=>(xs[i*3]?).getD undef) hg a4 (fun o=>hB _ _ a2 hg) fun i hi=>?_
  obtain ⟨vi,p1,p3,p4,p5⟩:=q3 i hi
  rw [p1]
  exact ⟨⟨cell _ _ p1,cell _ _ p3,cell _ _ p4⟩,p5.keep (Keeps.refl _ _) fun b o hb=>by
   rcases hb with hb|hb
   ·exact hZ b o hb
   ·exact hB _ _ (q2 b hb).1 (q2 b hb).2.1⟩
theorem RowsAt.lit {B:Nat} {w:World} (Z:Zone) {v0:Value} {c:List Int} {lo hi:Int} {B0 vars:Nat} (h:w.ownsRow B0 3 1 v0 vars (c.map (Value.int .i64))) (hl:vars=c.length) (hB0:B≤B0) (hB:B≤w.heap.size):RowsAt B (w.alloc (.cells #[v0,.int .i64 lo,.int .i64 hi] 110)) Z (.slice (some ⟨w.heap.size,0,none⟩) 1 1) [(c,lo,hi)] (fun b=>v0.ownBlock=some b):=by
 refine ⟨[v0,.int .i64 lo,.int .i64 hi],World.ownsRow_lit w #[v0,.int .i64 lo,.int .i64 hi] 1 hB (by decide) rfl,fun b hb=>?_,fun i hi'=>?_⟩
 ·obtain ⟨h1,h2⟩:=own_zone h hb
  refine ⟨by omega,by simp;omega,fun e=>?_⟩
  simp only [Value.ownBlock,Option.some.injEq]at e
  omega
 ·have:i=0:=by simpa using hi'
  subst this
  refine ⟨v0,rfl,rfl,rfl,ints_rep hl (h.alloc _) fun g hg o=>.inr hg⟩
section
variable {P:Program}
theorem wpList_app_rows {ops:Array Oper} {rest:List Oper} {o:Oper} {a:Act} {Q:Exit→Act→World→Prop} (hgd:o.guard=none) (s x:Operand) (t:TypeId)
  (ho:o.op=.call { callee:=.builtin .append,args:=#[s,x],argTypes:=#[t,t] }) (i:TypeInfo) (z:Value) (bytes:Nat) (ht:P.underlying t=some (.slice 110)) (hi:P.info? 110=some i) (hz:i.zero=some z)
  (hsize:i.size=3) (hby:i.bytes=bytes) (hzs:z.cells.size=3) (hbb:bytes≤1000)
  {B:Nat} {w:World} {Z:Zone} {v u:Value} {L M:List RowP} {E E':Nat→Prop} (hs:a.eval s=v) (hx:a.eval x=u) (h:RowsAt B w Z v L E) (hu:Rep w (fun b o=>Z b o∨E' b) (.sl 3 (M.map rwA)) u) (hE':∀b,E' b→B≤b∧b<w.heap.size∧v.ownBlock≠some b)
  (hZ:∀b o,Z b o→b<w.heap.size∧v.ownBlock≠some b) (hB:B≤w.heap.size) (hlen:L.length+M.length≤100000)
  (hK:∀v' w',RowsAt B w' Z v' (L ++ M) (fun b=>E b∨E' b)→w.grownBy w' v.ownBlock→(v'.ownBlock=v.ownBlock∨v'.ownBlock=some w.heap.size)→wpList P ops Q rest (a.put o.dst v') w'):wpList P ops Q (o :: rest) a w:=by
 generalize hm:M.map rwA=es at hu
 have hml:es.length=M.length:=by rw [←hm,List.length_map]
 cases hu with
 | nil =>
  obtain rfl:M=[]:=List.length_eq_zero_iff.1 (by rw [←hml];rfl)
  obtain ⟨A,n,c,hv,hn⟩:∃A n c,v=.slice A n c∧n≤c:=by
   obtain ⟨xs,q1,_⟩:=h
   rcases q1.2 with ⟨e,_⟩|⟨g,cap,cur,e,_,_,a4,_⟩
   ·exact ⟨_,_,_,e,Nat.le_refl _⟩
   ·exact ⟨_,_,_,e,a4⟩
  refine wpList_plain hgd fun K hK'=>?_
  rw [hv]at hs
  have hr:=run_append_zero (P:=P) w t o.type _ i ht hi A
  unfold Oper.wp execOp
  simp only [ho,resolve,invoke,builtin,Sem.run_bind,Sem.run_pure,Result.andThen_ok,List.map_toArray,List.map_cons,List.map_nil,hs,hx,hr _ _ _ _ hn]
  refine hK' _ _ ?_
  rw [←hv]
  refine hK v w ?_ ⟨rfl,rfl,rfl,Nat.le_refl _,fun _ _ _=>rfl⟩ (.inl rfl)
  rw [List.append_nil]
  obtain ⟨xs,q1,q2,q3⟩:=h
  refine ⟨xs,q1,fun b hb=>hb.elim (q2 b) (hE' b),fun i hi=>?_⟩
  obtain ⟨vi,p1,p3,p4,p5⟩:=q3 i hi
  exact ⟨vi,p1,p3,p4,p5.keep (Keeps.refl _ _) fun b o h=>h.imp id .inl⟩
 | @sl _ _ b off c vs hb hc hk hmm hr =>
  rw [hml]at *
  obtain ⟨xs,q1,q2,q3⟩:=h
  obtain ⟨news,hnews⟩:∃news,news=(List.range (M.length*3)).map fun j=>vs (j / 3) (j % 3):=⟨_,rfl⟩
  have nl:news.length=M.length*3:=by rw [hnews];simp
  have ng:∀k j,k<M.length→j<3→news[k*3+j]? = some (vs k j):=fun k j h1 h2=>by
   rw [hnews,List.getElem?_map,List.getElem?_range (by omega)]
   show some (vs ((k*3+j) / 3) ((k*3+j) % 3))=_
   rw [show (k*3+j) / 3=k by omega,show (k*3+j) % 3=j by omega]
  have cel:∀k (hkm:k<M.length),Rep w (fun b o=>Z b o∨E' b) (.sl 1 ((M[k]'hkm).1.map fun z=>i64 z)) (vs k 0)∧vs k 1=.int .i64 (M[k]'hkm).2.1∧vs k 2=.int .i64 (M[k]'hkm).2.2:=fun k hkm=>by
   subst hm
   have h5:=fun j hj=>hr k (by rw [List.length_map];exact hkm) j hj
   simp only [List.getElem_map,AV.cells]at h5
   exact ⟨h5 0 (by simp),(h5 1 (by simp)).lit_eq,(h5 2 (by simp)).lit_eq⟩
  refine wpList_append_own_at w hgd s x t ho B 110 i z 3 bytes ht hi hz hsize hby hzs (by decide) v L.length xs hs q1 ⟨b,off,none⟩ M.length c news hx nl (fun j u hu=>?_) (fun u hu=>?_) (by unfold maxLen;omega) (by
   have:(L.length+M.length)*bytes≤100000*1000:=Nat.mul_le_mul hlen hbb
   omega) hB fun v' w' p1 p2 _ p4=>hK v' w' ?_ p2 p4
  ·have hj:j<M.length*3:=by
    rw [←nl]
    exact (List.getElem?_eq_some_iff.1 hu).1
   rw [hnews,List.getElem?_map,List.getElem?_range hj]at hu
   cases hu
   rw [Addr.add_lit]
   have:=(hmm (j / 3) (j % 3) (by omega) (by omega)).1
   rw [show off+j / 3*3+j % 3=off+j by omega]at this
   exact this
  ·rw [hnews]at hu
   obtain ⟨j,hj,rfl⟩:=List.mem_map.1 hu
   have hj:=List.mem_range.1 hj
   obtain ⟨c1,c2,c3⟩:=cel (j / 3) (by omega)
   have:j % 3=0∨j % 3=1∨j % 3=2:=by omega
   rcases this with e|e|e
   ·rw [e]
    obtain ⟨_,_,_,e2⟩:=sl_slice c1
    rw [e2]
    rfl
   ·rw [e,c2];rfl
   ·rw [e,c3];rfl
  have same:∀g,g<w.heap.size→v.ownBlock≠some g→w'.heap[g]? = w.heap[g]?:=fun g h1 h2=>p2.block g h1 fun e=>h2 e.symm
  refine ⟨xs ++ news,by rw [List.length_append];exact p1,fun g hg=>?_,fun k hk'=>?_⟩
  ·obtain ⟨h1,h2,h3⟩:=hg.elim (q2 g) (hE' g)
   refine ⟨h1,Nat.lt_of_lt_of_le h2 p2.size,fun e=>?_⟩
   rcases p4 with p4|p4
   ·exact h3 (p4 ▸ e)
   ·rw [p4]at e
    cases e
    omega
  ·have xl:=q1.1
   by_cases h1:k<L.length
   ·obtain ⟨vi,r1,r3,r4,r5⟩:=q3 k h1
    rw [List.getElem_append_left h1,List.getElem?_append_left (by omega),List.getElem?_append_left (by omega),List.getElem?_append_left (by omega)]
    refine ⟨vi,r1,r3,r4,r5.keep ⟨p2.size,fun g o y hg hc=>?_⟩ fun g o hg=>hg.imp id .inl⟩
    have e:=same g (World.block_lt_of_cell? w _ hc) (hg.elim (fun h=>(hZ g o h).2) (fun h=>(q2 g h).2.2))
    rw [World.cell?_of_block (a:=⟨g,o,none⟩) e]
    exact hc
   ·have h2:k-L.length<M.length:=by simp at hk';omega
    obtain ⟨c1,c2,c3⟩:=cel (k-L.length) h2
    rw [List.getElem_append_right (by omega),List.getElem?_append_right (by omega),List.getElem?_append_right (by omega),List.getElem?_append_right (by omega),xl,show k*3-L.length*3=(k-L.length)*3+0 by omega,show k*3+1-L.length*3=(k-L.length)*3+1 by omega,show k*3+2-L.length*3=(k-L.length)*3+2 by omega,ng _ 0 h2 (by decide),ng _ 1 h2 (by decide),ng _ 2 h2 (by decide),c2,c3]
    refine ⟨_,rfl,rfl,rfl,c1.keep ⟨p2.size,fun g o y hg hc=>?_⟩ fun g o hg=>hg.imp id .inr⟩
    have e:=same g (World.block_lt_of_cell? w _ hc) (hg.elim (fun h=>(hZ g o h).2) (fun h=>(hE' g h).2.2))
    rw [World.cell?_of_block (a:=⟨g,o,none⟩) e]
    exact hc
end
def rulesRows (rs0:List RuleV) (pool:List PI) (vars:Nat):List RuleV→Nat→List RowP
 | [],_=>[]
 | r :: l,s=>rowE1 r rs0 pool vars s ++ rulesRows rs0 pool vars l (s+if r.k=6 then 1 else 0)
def setsN:List RuleV→Nat
 | []=>0
 | r :: l=>(if r.k=6 then 1 else 0)+setsN l
def enmR (pool:List PI) (vars:Nat) (p:Int × Int):RowP:=(coefs (fun y=>oneI (y.1 == p.1 || y.1 == p.2)) pool vars,0,1)
def consE (n:Int) (rs:List RuleV) (pool:List PI) (vars s:Nat) (l:List (Int × Int)):List RowP :=
 (coefs (fun _=>1) pool vars,n,n) :: (rulesRows rs pool vars rs s ++ (conflE l (pool.map (·.1))).map (enmR pool vars))
theorem rulesRows_app (rs0:List RuleV) (pool:List PI) (vars:Nat):∀(l:List RuleV) (r:RuleV) (s:Nat),rulesRows rs0 pool vars (l ++ [r]) s=rulesRows rs0 pool vars l s ++ rowE1 r rs0 pool vars (s+setsN l)
 | [],r,s=>by simp [rulesRows,setsN]
 | q :: l,r,s=>by
  show rowE1 q rs0 pool vars s ++ rulesRows rs0 pool vars (l ++ [r]) _=_
  rw [rulesRows_app rs0 pool vars l r _]
  show _=(rowE1 q rs0 pool vars s ++ rulesRows rs0 pool vars l _) ++ rowE1 r rs0 pool vars (s+((if q.k=6 then 1 else 0)+setsN l))
  rw [List.append_assoc,Nat.add_assoc]
theorem setsN_app:∀(l:List RuleV) (r:RuleV),setsN (l ++ [r])=setsN l+if r.k=6 then 1 else 0
 | [],r=>by simp [setsN]
 | q :: l,r=>by
  show (if q.k=6 then 1 else 0)+setsN (l ++ [r])=(if q.k=6 then 1 else 0)+setsN l+_
  rw [setsN_app l r,Nat.add_assoc]
theorem setsN_le:∀l:List RuleV,setsN l≤l.length
 | []=>Nat.le_refl _
 | q :: l=>by
  have:=setsN_le l
  unfold setsN
  split <;> simp <;> omega
theorem setsN_drop (l:List RuleV) (k:Nat):setsN (l.take k)+setsN (l.drop k)=setsN l:=by
 have key:∀a b:List RuleV,setsN (a ++ b)=setsN a+setsN b:=by
  intro a
  induction a with
  | nil=>intro b;simp [setsN]
  | cons q a ih=>intro b;show (if q.k=6 then 1 else 0)+setsN (a ++ b)=(if q.k=6 then 1 else 0)+setsN a+setsN b;rw [ih,Nat.add_assoc]
 rw [←key,List.take_append_drop]
theorem rep_len (pool:List PI):(repE pool).length≤pool.length:=by
 unfold repE
 rw [List.length_mergeSort]
 have h1:∀(l seen:List Int),(dupA seen l).length≤l.length:=by
  intro l
  induction l with
  | nil=>intro seen;simp [dupA]
  | cons x l ih =>
   intro seen
   unfold dupA
   have:=ih (x :: seen)
   split
   ·simp;omega
   ·simp;omega
 have h2:=h1 (famL pool) []
 have h3:(famL pool).length≤pool.length:=by
  unfold famL
  refine Nat.le_trans (List.length_filter_le _ _) ?_
  simp
 omega
theorem rowE1_len (r:RuleV) (rs:List RuleV) (pool:List PI) (vars s:Nat):(rowE1 r rs pool vars s).length≤pool.length+2:=by
 have:=rep_len pool
 unfold rowE1
 split
 ·simp
 split
 ·split <;> simp
 split
 ·split <;> simp
 split
 ·simp;omega
 ·simp
theorem rulesRows_len (rs0:List RuleV) (pool:List PI) (vars:Nat):∀(l:List RuleV) (s:Nat),(rulesRows rs0 pool vars l s).length≤l.length*(pool.length+2)
 | [],_=>by simp [rulesRows]
 | r :: l,s=>by
  have h1:=rowE1_len r rs0 pool vars s
  have h2:=rulesRows_len rs0 pool vars l (s+if r.k=6 then 1 else 0)
  unfold rulesRows
  rw [List.length_append,List.length_cons,Nat.add_mul,Nat.one_mul]
  omega
theorem one_w (b:Bool) {w w':World} (hE:Env w) (hb:Below w.heap.size w w'):Calls Tryz.prog 62 #[.bool b] w' fun e w2=>e=.returned (.int .i64 (oneI b))∧Below w'.heap.size w' w2:=by
 refine (at_call hE (one_c b) w' (fun _ _=>False) _ hb (fun _ _ h=>h.elim) (rep_1 (.lit rfl))).mono ?_
 rintro e w2 ⟨v,rfl,h1,h2⟩
 obtain rfl:=h2.lit_eq
 exact ⟨rfl,h1⟩
theorem spec2_of {w:World} {Z:Zone} {n:Int} {rs:List RuleV} {x:Value} (h:Rep w Z (rulesA rs) x):Rep w Z (.agg [i64 n,rulesA rs]) (.agg #[.int .i64 n,x]) :=
 .agg rfl fun j hj=>by
  match j,hj with
  | 0,_=>exact .lit rfl
  | 1,_=>exact h
theorem cons_c (n:Int) (rs:List RuleV) (pool:List PI) (vars s:Nat) (l:List (Int × Int)) (hp:pool.length≤vars) (hv:vars≤1000) (h20:rs.length≤20) (hr:∀r∈rs,RIn r) (hok:∀r∈rs,demOk r=true∧chkE r=0) (hs:s+setsN rs≤vars) (hll:l.length≤400) :
  AT 63 [frA n rs pool (vars:Nat) (s:Nat),.sl 2 (l.map prA)] (.sl 3 ((consE n rs pool vars s l).map rwA)):=by
 refine ⟨⟨_,Tryz.func63,by kernel_rfl,by kernel_rfl⟩,fun w Z vs hE hz _ hrep=>?_⟩
 obtain ⟨v1,v2,rfl,q1,q2⟩:=reps2 hrep
 obtain ⟨x,y,rfl,qr,qp⟩:=frame_val q1
 have hrul:=rules_row qr
 have hpl:=items_row3 qp
 clear hrep q1
 change Calls Tryz.prog _ _ w _
 have hinf:(Tryz.prog.info? 110).map (fun i=>(i.zero,i.size,i.bytes))=some (some (.agg #[.slice none 0 0,.int .i64 0,.int .i64 0]),3,40):=by kernel_rfl
 obtain ⟨i0,hi0,hz0,hz1,hz2⟩:=info_parts hinf
 obtain ⟨W1,hW1⟩:∃W1,W1=w.alloc (.cells #[Value.int .i64 n,x,y,.int .i64 (vars:Nat),.int .i64 (s:Nat)] 104):=⟨_,rfl⟩
 have hB1:Below w.heap.size w W1:=by rw [hW1];exact (Below.refl _ _).alloc (Nat.le_refl _) _
 have hf1:W1.heap[w.heap.size]? = some (.cells #[Value.int .i64 n,x,y,.int .i64 (vars:Nat),.int .i64 (s:Nat)] 104 (0,0)):=by rw [hW1];exact heap_alloc_new w _
 have hs1:w.heap.size<W1.heap.size:=(Array.getElem?_eq_some_iff.1 hf1).1
 have ROW:∀{f:FuncId} {pre post:List AV} {us ws:Array Value} (m:PI→Int) (W:World) (sv:Nat) (a b:Int) (Z':Zone),Below w.heap.size w W→(∀b o,Z b o→Z' b o)→(∀b o,Z' b o→b<W.heap.size)→(∀y∈pool,AT f (pre ++ itA y :: post) (i64 (m y)))→Rep W Z' (.fn (.func f) pre post) (.func (.func f) us ws)→Calls Tryz.prog 101 #[.agg #[Value.int .i64 n,x,y,.int .i64 (vars:Nat),.int .i64 (sv:Nat)],.func (.func f) us ws,.int .i64 a,.int .i64 b] W fun e w'=>∃v,e=.returned (.agg #[v,.int .i64 a,.int .i64 b])∧Below W.heap.size W w'∧w'.ownsRow W.heap.size 3 1 v vars ((coefs m pool vars).map (Value.int .i64)):=fun m W sv a b Z' hB hZ hz' hf hfn =>
  row_w m n rs pool vars (sv:Nat) a b hp hv hf (env_below hE hB) hz' (rep_4 (frame_rep (qr.keep (Keeps.ofBelow hB) hZ) (qp.keep (Keeps.ofBelow hB) hZ)) hfn (.lit rfl) (.lit rfl))
 obtain ⟨RS,hRS⟩:∃RS,consE n rs pool vars s l=RS:=⟨_,rfl⟩
 rw [hRS]
 unfold consE at hRS
 have hzW:∀{W:World},Below w.heap.size w W→∀b o,Z b o→b<W.heap.size:=fun hB b o h=>Nat.lt_of_lt_of_le (hz b o h) hB.size
 go_enter Tryz.func63,Tryz.ntmps63
 go_wp2_with (go_at_call 101;rw [←hW1];refine (ROW (f:=100) (pre:=[]) (post:=[]) (fun _=>1) W1 s n n Z hB1 (fun _ _ h=>h) (hzW hB1) (fun y _=>each1_c y) (.fn rfl (fun j hj=>absurd hj (by simp)) rfl (fun j hj=>absurd hj (by simp)))).mono ?_)
 rintro e w2 ⟨v0,rfl,hb2,hown2⟩
 clear hW1
 have hB2:Below w.heap.size w w2:=hB1.trans (hb2.mono hB1.size)
 have hf2:w2.heap[w.heap.size]? = some (.cells #[Value.int .i64 n,x,y,.int .i64 (vars:Nat),.int .i64 (s:Nat)] 104 (0,0)):=(hb2.block _ hs1).trans hf1
 have hv0:v0.oneCell'=true:=own_one hown2
 have hcl:∀m:PI→Int,(coefs m pool vars).length=vars:=fun m=>by
  unfold coefs
  simp
  omega
 have hR3:=RowsAt.lit (B:=w.heap.size+1) Z (lo:=n) (hi:=n) hown2 (hcl _).symm (by omega) (by have:=hb2.size;omega)
 go_upto_region 3 with fail
 obtain ⟨W3,hW3⟩:∃W3,W3=w2.alloc (.cells #[v0,.int .i64 n,.int .i64 n] 110):=⟨_,rfl⟩
 rw [←hW3]at hR3 ⊢
 have hB3:Below w.heap.size w W3:=by rw [hW3];exact hB2.alloc hB2.size _
 have hf3:W3.heap[w.heap.size]? = some (.cells #[Value.int .i64 n,x,y,.int .i64 (vars:Nat),.int .i64 (s:Nat)] 104 (0,0)):=by rw [hW3,Lib.alloc_old _ _ _ (by have:=hb2.size;omega)];exact hf2
 have hs3:w2.heap.size<W3.heap.size:=by rw [hW3];simp
 clear hW3 hown2 hf1 hf2 hb2
 obtain ⟨R0,hR0⟩:∃R0,R0=w2.heap.size:=⟨_,rfl⟩
 rw [←hR0]at hR3 hs3 ⊢
 have hR0':w.heap.size+1≤R0:=(hR3.own rfl).1
 clear hR0 hB2 hB1 hs1
 have c0:W3.cell? ⟨w.heap.size,0,none⟩=some (.int .i64 n):=by rw [Lib.cell_of_heap hf3];rfl
 have c1:W3.cell? ⟨w.heap.size,1,none⟩=some x:=by rw [Lib.cell_of_heap hf3];rfl
 go_wp2_with (go_at_call 61;refine (at_call hE (demands_c n rs h20 fun r h=>(hok r h).1) W3 Z _ hB3 (hzW hB3) (rep_1 (spec2_of (qr.keep (Keeps.ofBelow hB3) fun _ _ h=>h)))).mono ?_)
 rintro e w4 ⟨u,rfl,hb4,hr4⟩
 obtain ⟨A,c,rfl,hget⟩:=hr4.row1 (fun d hd=>by obtain ⟨r,_,rfl⟩:=List.mem_map.1 hd;exact demV_one r)
 rw [List.length_map]at *
 have hB4:Below w.heap.size w w4:=hB3.trans (hb4.mono hB3.size)
 have hf4:w4.heap[w.heap.size]? = some (.cells #[Value.int .i64 n,x,y,.int .i64 (vars:Nat),.int .i64 (s:Nat)] 104 (0,0)):=(hb4.block _ (by omega)).trans hf3
 have hR4:=hR3.below hb4
 have hlen:((rs.length:Nat):Int)≤20:=by omega
 clear c0 c1 hR3 hf3
 go_wp2
 have hz4:∀b o,grown Z W3 w4 b o→b<w4.heap.size∧b≠w.heap.size:=fun b o h=>by
  rcases h with h|h
  ·have:=hz b o h;have:=hB4.size;omega
  ·have:=hB3.size;omega
 have hZ4:∀b o,Z b o→grown Z W3 w4 b o:=fun _ _ h=>.inl h
 have hv4:∀o,¬grown Z W3 w4 R0 o:=fun o h=>by
  rcases h with h|h
  ·have:=hz _ o h;omega
  ·omega
 have hR4:RowsAt (w.heap.size+1) w4 (grown Z W3 w4) (.slice (some ⟨R0,0,none⟩) 1 1) [(coefs (fun _=>1) pool vars,n,n)] (fun b=>v0.ownBlock=some b):=hR4.keep (Nat.le_refl _) hZ4 (fun _ _ _ _=>rfl) (fun _ _=>rfl) (fun _ _=>rfl)
 have hG4:∀b o,grown Z W3 w4 b o→Z b o∨W3.heap.size≤b:=fun b o h=>h.imp id And.left
 generalize grown Z W3 w4=Zd at *
 go_loopw [6,29] (fun v i wl=>∃(k:Nat) (E:Nat→Prop),i=.int .i64 k∧k≤rs.length∧Below w.heap.size w wl∧wl.heap[w.heap.size]? = some (.cells #[Value.int .i64 n,x,y,.int .i64 (vars:Nat),.int .i64 ((s+setsN (rs.take k):Nat):Int)] 104 (0,0))∧RowsAt (w.heap.size+1) wl Zd v ((coefs (fun _=>1) pool vars,n,n) :: rulesRows rs pool vars (rs.take k) s) E∧(∀g,v.ownBlock=some g→∀o,¬Zd g o)∧Keeps Zd w4 wl) (fun _ i _=>rs.length-(intOf i).toNat)
 case atStart=>exact ⟨0,_,rfl,Nat.zero_le _,hB4,hf4,hR4,fun g hg=>by cases hg;exact hv4,Keeps.refl _ _⟩
 case round =>
  obtain ⟨k,E,rfl,hk,hbw,hfr,hR,hvz,hkp⟩:=hrel
  have c0:wr.cell? ⟨w.heap.size,0,none⟩=some (.int .i64 n):=by rw [Lib.cell_of_heap hfr];rfl
  have c1:wr.cell? ⟨w.heap.size,1,none⟩=some x:=by rw [Lib.cell_of_heap hfr];rfl
  have c2:wr.cell? ⟨w.heap.size,2,none⟩=some y:=by rw [Lib.cell_of_heap hfr];rfl
  have c3:wr.cell? ⟨w.heap.size,3,none⟩=some (.int .i64 (vars:Nat)):=by rw [Lib.cell_of_heap hfr];rfl
  have c4:wr.cell? ⟨w.heap.size,4,none⟩=some (.int .i64 ((s+setsN (rs.take k):Nat):Int)):=by rw [Lib.cell_of_heap hfr];rfl
  by_cases hlt:k<rs.length
  ·obtain ⟨b,off,u,rfl,hcl',hzc,hrp⟩:=hget k (by rw [List.length_map];exact hlt)
   rw [List.getElem_map]at hrp
   have hmem:=List.getElem_mem hlt
   have hsd:=setsN_drop rs k
   rw [List.drop_eq_getElem_cons hlt]at hsd
   have htk:=setsN_app (rs.take k) rs[k]
   have hrr:=rulesRows_app rs pool vars (rs.take k) rs[k] s
   rw [←List.take_succ_eq_append_getElem hlt]at htk hrr
   have hKr:∃bR oR cr,x=.slice (some ⟨bR,oR,none⟩) rs.length cr∧w.cell? ⟨bR,oR+k*5,none⟩=some (.int .i64 (rs[k]).k):=by
    obtain ⟨Ar,cr,hxe,_,hrul⟩:=hrul
    obtain ⟨bR,oR,hAr,hrc⟩:=hrul k hlt
    subst hAr
    have hKc:=hrc 0 _ rfl
    rw [Nat.add_zero]at hKc
    exact ⟨bR,oR,cr,hxe,hKc⟩
   obtain ⟨ty,a,f,a',e1,hme,hat⟩:=rowsR_c rs[k] n rs pool vars (s+setsN (rs.take k)) hp hv (by omega) (hr _ hmem) (hok _ hmem).1 (hok _ hmem).2 (fun h6=>by
    have e:setsN (rs[k] :: rs.drop (k+1))=(if (rs[k]).k=6 then 1 else 0)+setsN (rs.drop (k+1)):=rfl
    rw [e,if_pos h6]at hsd
    omega)
   rw [e1]at hrp
   obtain ⟨u',rfl,hru⟩:∃u',u=.iface ty u'∧Rep w4 Zd a u':=by
    cases hrp with|ifc hr=>exact ⟨_,rfl,hr⟩
   have hcw:wr.cell? ⟨b,off+k,none⟩=some (.iface ty u'):=hkp.zone _ _ _ hzc hcl'
   obtain ⟨v',hm,hr'⟩:=hme wr Zd u' (hru.keep hkp fun _ _ h=>h)
   rw [show Tryz.prog.types.size+Made.depth=340 by kernel_rfl]at hm
   have hlen1:=rowE1_len rs[k] rs pool vars (s+setsN (rs.take k))
   have hlen2:=rulesRows_len rs pool vars (rs.take k) s
   rw [List.length_take,Nat.min_eq_left hk]at hlen2
   generalize rs[k]=r at *
   generalize rowE1 r rs pool vars (s+setsN (rs.take k))=M at *
   generalize rulesRows rs pool vars (rs.take k) s=L at *
   go_wp2_with fail
   rw [run_enter (P:=Tryz.prog) hat.1,Oper.upon_enter]
   refine (at_call hE hat wr Zd _ hbw (fun b o h=>Nat.lt_of_lt_of_le (hz4 b o h).1 hkp.size) (rep_2 hr' (frame_rep (qr.keep (Keeps.ofBelow hbw) hZ4) (qp.keep (Keeps.ofBelow hbw) hZ4)))).mono ?_
   rintro e w5 ⟨u2,rfl,hb5,hr5⟩
   have hB5:Below w.heap.size w w5:=hbw.trans (hb5.mono hbw.size)
   have hR5:=hR.below hb5
   have hmul:k*(pool.length+2)≤20*1002:=Nat.mul_le_mul (by omega) (by omega)
   clear hm
   go_wp2_with (at_builtin;go_loud (refine wpList_app_rows rfl _ _ 51 rfl i0 _ 40 Tryz.underlying51 hi0 hz0 hz1 hz2 rfl (by decide) (B:=w.heap.size+1) (w:=w5) (Z:=Zd) (v:=u6) (u:=u2) (M:=M) (E:=E) (E':=fun b=>wr.heap.size≤b∧b<w5.heap.size) rfl rfl hR5 hr5 ?d1 ?d2 ?d3 ?d4 ?_))
   case d1 =>
    intro g hg
    refine ⟨by have:=(Array.getElem?_eq_some_iff.1 hfr).1;omega,hg.2,fun e=>?_⟩
    have:=(hR.own e).2
    omega
   case d2 =>
    intro g o hg
    exact ⟨Nat.lt_of_lt_of_le (Nat.lt_of_lt_of_le (hz4 g o hg).1 hkp.size) hb5.size,fun e=>hvz g e o hg⟩
   case d3=>have:=(Array.getElem?_eq_some_iff.1 hfr).1;have:=hb5.size;omega
   case d4=>simp only [List.length_cons];omega
   intro v6 w6 hR6 hg6 hat6
   have hvo:∀q,u6.ownBlock=some q→w.heap.size+1≤q∧q<w5.heap.size:=fun q hq=>hR5.own hq
   have hB6:Below w.heap.size w w6:=hB5.grown hg6 hB5.size fun q hq=>by have:=hvo q hq;omega
   have hfs:w.heap.size<w5.heap.size:=by have:=hb5.size;have:=(Array.getElem?_eq_some_iff.1 hfr).1;omega
   have hf6:w6.heap[w.heap.size]? = some (.cells #[Value.int .i64 n,x,y,.int .i64 (vars:Nat),.int .i64 ((s+setsN (rs.take k):Nat):Int)] 104 (0,0)):=(hg6.block _ hfs fun e=>by have:=hvo _ e.symm;omega).trans ((hb5.block _ (Array.getElem?_eq_some_iff.1 hfr).1).trans hfr)
   have hv6:∀g,v6.ownBlock=some g→∀o,¬Zd g o:=fun g hg o h=>by
    rcases hat6 with h6|h6
    ·exact hvz g (h6 ▸ hg) o h
    ·rw [h6]at hg
     cases hg
     have:=(hz4 _ o h).1
     have:=hkp.size
     have:=hb5.size
     omega
   have hk6:Keeps Zd w4 w6:=by
    have q1:Keeps Zd wr w5:=Keeps.ofBelow hb5
    refine ⟨Nat.le_trans hkp.size (Nat.le_trans q1.size hg6.size),fun b o x h1 h2=>?_⟩
    have h3:=q1.zone b o x h1 (hkp.zone b o x h1 h2)
    exact (World.cell?_of_block (a:=⟨b,o,none⟩) (hg6.block b (World.block_lt_of_cell? w5 _ h3) fun e=>hvz b e.symm o h1)).trans h3
   clear c0 c1 c2 c3 c4 hfr hR hR5 hr5 hg6 hat6 hvz hkp hb5 hbw hget hr4 hR4 hf4 hru hrp hcl' hcw hr' hme hat hzc
   obtain ⟨bR,oR,cr,rfl,hKc⟩:=hKr
   have c1:w6.cell? ⟨w.heap.size,1,none⟩=some (.slice (some ⟨bR,oR,none⟩) rs.length cr):=by rw [Lib.cell_of_heap hf6];rfl
   obtain ⟨sk,hsk⟩:∃sk,sk=s+setsN (rs.take k):=⟨_,rfl⟩
   have hskl:sk≤1000:=by omega
   have hsk2:s+setsN (rs.take (k+1))=sk+if r.k=6 then 1 else 0:=by rw [htk,hsk,Nat.add_assoc]
   have wq:IntKind.i64.wrap ((sk:Int)+oneI (r.k == 6))=((s+setsN (rs.take (k+1)):Nat):Int):=by
    rw [hsk2]
    by_cases h6:r.k=6
    ·rw [if_pos h6,show (r.k == 6)=true by simpa using h6]
     show IntKind.i64.wrap ((sk:Int)+1)=_
     rw [IntWalk.i64_in _ (by omega)]
     omega
    ·rw [if_neg h6,show (r.k == 6)=false by simpa using h6]
     show IntKind.i64.wrap ((sk:Int)+0)=_
     rw [IntWalk.i64_in _ (by omega)]
     omega
   rw [←hsk]at hf6
   have c4:w6.cell? ⟨w.heap.size,4,none⟩=some (.int .i64 (sk:Int)):=by rw [Lib.cell_of_heap hf6];rfl
   have hKw:w6.cell? ⟨bR,oR+k*5,none⟩=some (.int .i64 r.k):=(hB6.cell (p:=⟨bR,oR+k*5,none⟩) (World.block_lt_of_cell? w _ hKc)).trans hKc
   have gk:((k:Nat):Int)<((rs.length:Nat):Int):=by omega
   have gk0:(0:Int)≤((k:Nat):Int):=by omega
   have hfs6:w.heap.size<w6.heap.size:=(Array.getElem?_eq_some_iff.1 hf6).1
   clear hsk hsd htk hmem hKc
   go_wp2
   go_region_with (go_at_call 62;refine (one_w (r.k == 6) hE (below_drewN hB6 1)).mono ?_;rintro e w7 ⟨rfl,hb7⟩;have hf7:=(hb7.block w.heap.size hfs6).trans hf6;have c7:w7.cell? ⟨w.heap.size,4,none⟩=some (.int .i64 (sk:Int)):=(Lib.cell_of_heap hf7 4).trans rfl;have f7:w7.frozen? ⟨w.heap.size,4,none⟩=false:=frozen_of_row _ _ _ _ _ hf7)
   all_goals
    have hb7':Below w6.heap.size w6 w7:=⟨hb7.os,hb7.tape,hb7.output,hb7.size,hb7.block⟩
    have hB7:Below w.heap.size w w7:=hB6.trans (hb7'.mono hB6.size)
    have hR7:=hR6.below hb7'
    have hk7:Keeps Zd w6 w7:=Keeps.ofBelow hb7'
    clear hb7 c1 c4 hKw c7 f7 hf6 hR6
    go_wp2
    refine ⟨⟨k+1,fun b=>E b∨wr.heap.size≤b∧b<w5.heap.size,by simp,by omega,below_setCell hB7 (Nat.le_refl _) hf7 _,?_,?_,hv6,?_⟩,?_⟩
    ·rw [heap_setCell_same _ _ _ _ _ _ hf7,hsk2]
     simp
    ·rw [hrr]
     exact hR7.store (fun o h=>(hz4 _ o h).2 rfl) (fun h=>by have:=(hR7.blk h).1;omega) (fun h=>by have:=(hR7.own h).1;omega)
    ·refine ⟨Nat.le_trans hk6.size (Nat.le_trans hk7.size (by simp)),fun b o z h1 h2=>?_⟩
     have h3:=hk7.zone b o z h1 (hk6.zone b o z h1 h2)
     exact (World.cell?_of_block (a:=⟨b,o,none⟩) (heap_setCell_other _ _ _ _ (by simp;exact (hz4 b o h1).2))).trans h3
    ·simp only [intOf]
     omega
  ·obtain rfl:k=rs.length:=by omega
   rw [List.take_length]at hR
   have g1:¬((rs.length:Nat):Int)<((rs.length:Nat):Int):=by omega
   clear hget hr4 hR4 hf4 hrul c0 c1 c3 c4
   obtain ⟨wa,rfl⟩:∃wa,wa=wr:=⟨_,rfl⟩
   obtain ⟨Ap,cp,rfl,hpg⟩:=hpl
   have hplen:((pool.length:Nat):Int)≤1000:=by omega
   have hinf2:(Tryz.prog.info? 3).map (fun i=>(i.zero,i.size,i.bytes))=some (some (.int .i64 0),1,8):=by kernel_rfl
   obtain ⟨i1,hj0,hj1,hj2,hj3⟩:=info_parts hinf2
   go_wp2
   go_loopw [9,56] (fun v i wl=>∃k:Nat,i=.int .i64 k∧k≤pool.length∧Below wa.heap.size wa wl∧wl.ownsRow wa.heap.size 3 1 v k ((pool.take k).map fun z=>Value.int .i64 z.1)) (fun _ i _=>pool.length-(intOf i).toNat)
   case atStart=>exact ⟨0,rfl,Nat.zero_le _,Below.refl _ _,World.ownsRow_nil _ _ _ _⟩
   case round =>
    obtain ⟨k,rfl,hk,hbl,hown⟩:=hrel
    by_cases hlt2:k<pool.length
    ·obtain ⟨b,off,v8,rfl,hcell,_,A8,n8,c8,rfl⟩:=hpg k hlt2
     have stepk:(pool.take (k+1)).map (fun z=>Value.int .i64 z.1)=(pool.take k).map (fun z=>Value.int .i64 z.1) ++ [Value.int .i64 (pool[k]).1]:=by rw [List.take_succ_eq_append_getElem hlt2,List.map_append];rfl
     clear hpg
     generalize (pool.take k).map (fun z=>Value.int .i64 z.1)=P at *
     generalize pool[k]=t at *
     obtain ⟨y1,y2,y3,y4,y5,y6,y7,y8,y9⟩:=t
     have hbw2:Below w.heap.size w wr:=hbw.trans (hbl.mono hbw.size)
     have cf:∀j u,(itVs (y1,y2,y3,y4,y5,y6,y7,y8,y9) ++ [.slice A8 n8 c8])[j]? = some u→wr.cell? ⟨b,off+k*9+j,none⟩=some u:=fun j u h=>(hbw2.cell (p:=⟨b,off+k*9+j,none⟩) (World.block_lt_of_cell? w _ (hcell j u h))).trans (hcell j u h)
     have d0:=cf 0 _ rfl
     have d1:=cf 1 _ rfl
     have d2:=cf 2 _ rfl
     have d3:=cf 3 _ rfl
     have d4:=cf 4 _ rfl
     have d5:=cf 5 _ rfl
     have d6:=cf 6 _ rfl
     have d7:=cf 7 _ rfl
     have d8:=cf 8 _ rfl
     rw [Nat.add_zero]at d0
     clear cf hcell
     have g2:((k:Nat):Int)<((pool.length:Nat):Int):=by omega
     go_wp2_with (at_builtin;(refine wpList_append_own _ rfl _ _ 27 rfl wa.heap.size 3 i1 (.int .i64 0) 1 8 Tryz.underlying27 hj0 hj1 hj2 hj3 rfl (by decide) _ _ _ rfl ((hown.alloc _).alloc _) _ _ _ [.int .i64 y1] rfl rfl ?e1 ?e2 ?e3 ?e4 ?e5 ?_))
     case e3=>unfold maxLen;omega
     case e4=>omega
     case e5=>have:=hbl.size;simp;omega
     intro v' w3 hown3 hgrow _
     rw [←stepk]at hown3
     have hB3':Below wa.heap.size wa w3:=((hbl.alloc hbl.size _).alloc (by have:=hbl.size;simp;omega) _).grown hgrow (by have:=hbl.size;simp;omega) fun q hq=>(own_zone hown hq).1
     go_wp2
     refine ⟨⟨k+1,by simp,by omega,hB3',hown3⟩,?_⟩
     simp only [intOf]
     omega
    ·obtain rfl:k=pool.length:=by omega
     rw [List.take_length]at hown
     have g2:¬((pool.length:Nat):Int)<((pool.length:Nat):Int):=by omega
     clear hpg
     have hBl:Below w.heap.size w wr:=hbw.trans (hbl.mono hbw.size)
     have hzc:∀b o,grown Z wa wr b o→b<wr.heap.size:=fun b o h=>by
      rcases h with h|h
      ·exact hzW hBl b o h
      ·exact h.2
     have hids:Rep wr (grown Z wa wr) (.sl 1 ((pool.map (·.1)).map fun z=>i64 z)) u9:=ints_rep (n:=pool.length) (by simp) (by rw [List.map_map];exact hown) fun g hg o=>.inr (own_zone hown hg)
     go_wp2_with (go_at_call 60;refine (at_call hE (confl_c l (pool.map (·.1)) (by omega) (by simp;omega)) wr (grown Z wa wr) _ hBl hzc (rep_2 (q2.keep (Keeps.ofBelow hBl) fun _ _ h=>.inl h) hids)).mono ?_)
     rintro e w9 v9 rfl hb9 hr9
     obtain ⟨A9,c9,rfl,hc9,_⟩:=row_cells prVs_len prA_cells hr9
     have hB9:Below w.heap.size w w9:=hBl.trans (hb9.mono hBl.size)
     have hR9:=(hR.below hbl).below hb9
     have hfw:w.heap.size<wa.heap.size:=(Array.getElem?_eq_some_iff.1 hfr).1
     have hf9:=(hb9.block _ (Nat.lt_of_lt_of_le hfw hbl.size)).trans ((hbl.block _ hfw).trans hfr)
     have hcl9:(conflE l (pool.map (·.1))).length≤400:=by
      unfold conflE normE uniqP
      refine Nat.le_trans (List.length_filter_le _ _) ?_
      have h1:=uniq_le (sortP (normPre l)) none
      rw [sortP_len]at h1
      have h2:=normPre_len l
      omega
     have hlen9:=rulesRows_len rs pool vars rs s
     generalize conflE l (pool.map (·.1))=prs at *
     have hmul2:rs.length*(pool.length+2)≤20*1002:=Nat.mul_le_mul (by omega) (by omega)
     have hprl:((prs.length:Nat):Int)≤400:=by omega
     obtain ⟨Zp,hZp⟩:∃Zp:Zone,Zp=fun b o=>Zd b o∨grown (grown Z wa wr) wr w9 b o:=⟨_,rfl⟩
     have hR9:RowsAt (w.heap.size+1) w9 Zp u6 ((coefs (fun _=>1) pool vars,n,n) :: rulesRows rs pool vars rs s) E:=hR9.keep (Nat.le_refl _) (fun b o h=>by rw [hZp];exact .inl h) (fun _ _ _ _=>rfl) (fun _ _=>rfl) (fun _ _=>rfl)
     have hr9:Rep w9 Zp (.sl 2 (prs.map prA)) (.slice A9 prs.length c9):=hr9.keep (Keeps.refl _ _) fun b o h=>by rw [hZp];exact .inr h
     have hzp:∀b o,Zp b o→b<w9.heap.size∧b≠w.heap.size:=fun b o h=>by
      rw [hZp]at h
      have q1:=hbl.size
      have q2:=hb9.size
      rcases h with h|(h|h)|h
      ·have:=hz4 b o h
       have:=hkp.size
       omega
      ·have:=hz b o h
       omega
      ·omega
      ·omega
     have hvp:∀g,u6.ownBlock=some g→∀o,¬Zp g o:=fun g hg o h=>by
      rw [hZp]at h
      have q1:=hR.own hg
      have q2:=hbl.size
      rcases h with h|(h|h)|h
      ·exact hvz g hg o h
      ·have:=hz g o h
       omega
      ·omega
      ·omega
     have hZp2:∀b o,Z b o→Zp b o:=fun b o h=>by rw [hZp];exact .inl (hZ4 b o h)
     have hZp3:∀b o,Zp b o→Z b o∨w.heap.size≤b:=fun b o h=>by
      rw [hZp]at h
      have q1:=hbl.size
      rcases h with h|(h|h)|h
      ·rcases hG4 b o h with h|h
       ·exact .inl h
       ·exact .inr (Nat.le_trans hB3.size h)
      ·exact .inl h
      ·exact .inr (by omega)
      ·exact .inr (by omega)
     clear hZp hids hown hR hvz hkp hb4 hbl hb9 hBl hzc hfr hbw hz4 hZ4 hv4 hG4
     obtain ⟨sT,hsT⟩:∃sT,sT=s+setsN (rs.take rs.length):=⟨_,rfl⟩
     rw [←hsT]at hf9
     clear hsT
     obtain ⟨HD,hHD⟩:∃HD,HD=(coefs (fun _=>1) pool vars,n,n) :: rulesRows rs pool vars rs s:=⟨_,rfl⟩
     rw [←hHD]at hR9
     have hHl:HD.length≤30000:=by rw [hHD,List.length_cons];omega
     have hRS:HD ++ prs.map (enmR pool vars)=RS:=by rw [hHD];exact hRS
     clear hHD
     have hr9':∃A c,Value.slice A9 prs.length c9=.slice A prs.length c:=⟨_,_,rfl⟩
     go_wp2
     go_loopw [6,70] (fun v i wl=>∃(k:Nat) (E:Nat→Prop),i=.int .i64 k∧k≤prs.length∧Below w.heap.size w wl∧wl.heap[w.heap.size]? = some (.cells #[Value.int .i64 n,x,Value.slice Ap pool.length cp,.int .i64 (vars:Nat),.int .i64 (sT:Nat)] 104 (0,0))∧RowsAt (w.heap.size+1) wl Zp v (HD ++ (prs.take k).map (enmR pool vars)) E∧(∀g,v.ownBlock=some g→∀o,¬Zp g o)∧Keeps Zp w9 wl) (fun _ i _=>prs.length-(intOf i).toNat)
     case atStart=>exact ⟨0,E,rfl,Nat.zero_le _,hB9,hf9,by simpa using hR9,hvp,Keeps.refl _ _⟩
     case round =>
      obtain ⟨k,E2,rfl,hk2,hbx,hfx,hRx,hvx,hkx⟩:=hrel
      by_cases hlt3:k<prs.length
      ·obtain ⟨A',c',e',_,hget⟩:=row_cells prVs_len prA_cells (hr9.keep hkx fun _ _ h=>h)
       cases e'
       obtain ⟨b,off,rfl,hcell⟩:=hget k hlt3
       have stepk:(prs.take (k+1)).map (enmR pool vars)=(prs.take k).map (enmR pool vars) ++ [enmR pool vars prs[k]]:=by rw [List.take_succ_eq_append_getElem hlt3,List.map_append];rfl
       have hlk:((prs.take k).map (enmR pool vars)).length≤400:=by rw [List.length_map,List.length_take];omega
       clear hget
       generalize (prs.take k).map (enmR pool vars)=P at *
       generalize prs[k]=q at *
       obtain ⟨a1,a2⟩:=q
       have d0:wr.cell? ⟨b,off+k*2,none⟩=some (.int .i64 a1):=hcell 0 _ rfl
       have d1:wr.cell? ⟨b,off+k*2+1,none⟩=some (.int .i64 a2):=hcell 1 _ rfl
       clear hcell
       have g3:((k:Nat):Int)<((prs.length:Nat):Int):=by omega
       go_upto_region 19 with fail
       obtain ⟨W10,hW10⟩:∃W10,W10=wr.alloc (.cells #[.int .i64 a1,.int .i64 a2] 50):=⟨_,rfl⟩
       have hBX:Below w.heap.size w W10:=by rw [hW10];exact hbx.alloc hbx.size _
       have hp10:W10.heap[wr.heap.size]? = some (.cells #[.int .i64 a1,.int .i64 a2] 50 (0,0)):=by rw [hW10];exact heap_alloc_new wr _
       have hbA:Below wr.heap.size wr W10:=by rw [hW10];exact (Below.refl _ _).alloc (Nat.le_refl _) _
       have hs10:wr.heap.size<W10.heap.size:=(Array.getElem?_eq_some_iff.1 hp10).1
       have hfw2:=(Array.getElem?_eq_some_iff.1 hfx).1
       have hf10:=(hbA.block _ hfw2).trans hfx
       have hR10:=hRx.below hbA
       have hvr:∀q,u6.ownBlock=some q→q<wr.heap.size:=fun q hq=>(hRx.own hq).2
       have hk10:Keeps Zp w9 W10:=⟨Nat.le_trans hkx.size hbA.size,fun b o z h1 h2=>(Keeps.ofBelow (Z:=Zp) hbA).zone b o z h1 (hkx.zone b o z h1 h2)⟩
       rw [←hW10]
       clear hW10 hRx d0 d1 hfx hr9'
       have c0:W10.cell? ⟨w.heap.size,0,none⟩=some (.int .i64 n):=by rw [Lib.cell_of_heap hf10];rfl
       have c1:W10.cell? ⟨w.heap.size,1,none⟩=some x:=by rw [Lib.cell_of_heap hf10];rfl
       have c2:W10.cell? ⟨w.heap.size,2,none⟩=some (.slice Ap pool.length cp):=by rw [Lib.cell_of_heap hf10];rfl
       have c3:W10.cell? ⟨w.heap.size,3,none⟩=some (.int .i64 (vars:Nat)):=by rw [Lib.cell_of_heap hf10];rfl
       have c4:W10.cell? ⟨w.heap.size,4,none⟩=some (.int .i64 (sT:Nat)):=by rw [Lib.cell_of_heap hf10];rfl
       have p0:W10.cell? ⟨wr.heap.size,0,none⟩=some (.int .i64 a1):=by rw [Lib.cell_of_heap hp10];rfl
       have p1:W10.cell? ⟨wr.heap.size,0+1,none⟩=some (.int .i64 a2):=by rw [Lib.cell_of_heap hp10];rfl
       have hfn:Rep W10 (fun b o=>Z b o∨b=wr.heap.size) (.fn (.func 102) [] [.ptr [i64 a1,i64 a2]]) (.func (.func 102) #[] #[.pointer (some ⟨wr.heap.size,0,none⟩)]):=.fn rfl (fun j hj=>absurd hj (by simp)) rfl (fun j hj=>by
        match j,hj with
        | 0,_ =>
         refine .ptr (cs:=[i64 a1,i64 a2]) (fun q=>if q=0 then .int .i64 a1 else .int .i64 a2) (fun q hq=>?_) (fun q hq=>?_)
         ·match q,hq with
          | 0,_=>exact ⟨p0,.inr rfl⟩
          | 1,_=>exact ⟨p1,.inr rfl⟩
         ·match q,hq with
          | 0,_=>exact .lit rfl
          | 1,_=>exact .lit rfl)
       clear p0 p1 hp10
       go_wp2_with (go_at_call 101;refine (ROW (f:=102) (pre:=[]) (post:=[.ptr [i64 a1,i64 a2]]) (fun y=>oneI (y.1 == a1 || y.1 == a2)) W10 sT 0 1 (fun b o=>Z b o∨b=wr.heap.size) hBX (fun _ _ h=>.inl h) (fun b o h=>h.elim (fun h=>hzW hBX b o h) fun h=>by omega) (fun y _=>both_c y a1 a2) hfn).mono ?_)
       rintro e w11 ⟨v1,rfl,hb11,hown11⟩
       clear c0 c1 c2 c3 c4 hfn ROW
       have hv1:v1.oneCell'=true:=own_one hown11
       have hcol:=hcl fun y=>oneI (y.1 == a1 || y.1 == a2)
       have hR11:=hR10.below hb11
       have hB11:Below w.heap.size w w11:=hBX.trans (hb11.mono hBX.size)
       have hf11:=(hb11.block _ (Nat.lt_trans hfw2 hs10)).trans hf10
       have hk11:Keeps Zp w9 w11:=⟨Nat.le_trans hk10.size hb11.size,fun b o z h1 h2=>(Keeps.ofBelow (Z:=Zp) hb11).zone b o z h1 (hk10.zone b o z h1 h2)⟩
       obtain ⟨w12,hw12⟩:∃w12,w12=w11.alloc (.cells #[v1,.int .i64 0,.int .i64 1] 110):=⟨_,rfl⟩
       have hb12:Below w11.heap.size w11 w12:=by rw [hw12];exact (Below.refl _ _).alloc (Nat.le_refl _) _
       have hL:=RowsAt.lit (B:=W10.heap.size) Zp (lo:=0) (hi:=1) hown11 hcol.symm (Nat.le_refl _) hb11.size
       rw [←hw12]at hL
       have hu12:=hL.rep (Z':=fun b o=>Zp b o∨(W10.heap.size≤b∧b<w12.heap.size)) (fun _ _ h=>.inl h) (fun b o h1 h2=>.inr ⟨h1,h2⟩)
       clear hL hown11 hR10 hf10 hk10 hBX
       have hR12:=hR11.below hb12
       have hB12:Below w.heap.size w w12:=hB11.trans (hb12.mono hB11.size)
       have hf12:=(hb12.block _ (Array.getElem?_eq_some_iff.1 hf11).1).trans hf11
       have hk12:Keeps Zp w9 w12:=⟨Nat.le_trans hk11.size hb12.size,fun b o z h1 h2=>(Keeps.ofBelow (Z:=Zp) hb12).zone b o z h1 (hk11.zone b o z h1 h2)⟩
       clear hR11 hB11 hf11 hk11 hbx hkx
       have hvo:∀q,u6.ownBlock=some q→w.heap.size+1≤q∧q<w12.heap.size:=fun q hq=>hR12.own hq
       have hvo2:∀q,u6.ownBlock=some q→q<wr.heap.size:=fun q hq=>hvr q hq
       have hz9:∀b o,Zp b o→b<w12.heap.size:=fun b o h=>Nat.lt_of_lt_of_le (hzp b o h).1 hk12.size
       have hs12:W10.heap.size≤w12.heap.size:=Nat.le_trans hb11.size hb12.size
       have hne:wr.heap.size<w12.heap.size:=Nat.lt_of_lt_of_le hs10 hs12
       have hlt12:w.heap.size<w12.heap.size:=Nat.lt_trans hfw2 hne
       clear hb11 hb12 hr9 hB9 hf9 hR9
       subst hw12
       go_wp2_with (at_builtin;go_loud (refine wpList_app_rows rfl _ _ 51 rfl i0 _ 40 Tryz.underlying51 hi0 hz0 hz1 hz2 rfl (by decide) (B:=w.heap.size+1) (w:=w11.alloc (.cells #[v1,.int .i64 0,.int .i64 1] 110)) (Z:=Zp) (v:=u6) (u:=.slice (some ⟨w11.heap.size,0,none⟩) 1 1) (M:=[(coefs (fun y=>oneI (y.1 == a1 || y.1 == a2)) pool vars,0,1)]) (E:=E2) (E':=fun b=>W10.heap.size≤b∧b<(w11.alloc (.cells #[v1,.int .i64 0,.int .i64 1] 110)).heap.size) rfl rfl hR12 hu12 ?d1 ?d2 ?d3 ?d4 ?_))
       case d1=>exact fun g hg=>⟨by omega,hg.2,fun e=>by have:=hvo2 g e;omega⟩
       case d2=>exact fun g o hg=>⟨hz9 g o hg,fun e=>hvx g e o hg⟩
       case d3=>omega
       case d4=>simp only [List.length_append,List.length_cons,List.length_nil];omega
       intro v13 w13 hR13 hg13 hat13
       have hB13:Below w.heap.size w w13:=hB12.grown hg13 hB12.size fun q hq=>by have:=hvo q hq;omega
       have hf13:=(hg13.block _ hlt12 fun e=>by have:=hvo _ e.symm;omega).trans hf12
       have hv13:∀g,v13.ownBlock=some g→∀o,¬Zp g o:=fun g hg o h=>by
        rcases hat13 with h6|h6
        ·exact hvx g (h6 ▸ hg) o h
        ·rw [h6]at hg
         cases hg
         have:=hz9 _ o h
         simp at this
       have hk13:Keeps Zp w9 w13:=by
        refine ⟨Nat.le_trans hk12.size hg13.size,fun b o x h1 h2=>?_⟩
        have h3:=hk12.zone b o x h1 h2
        exact (World.cell?_of_block (a:=⟨b,o,none⟩) (hg13.block b (World.block_lt_of_cell? _ _ h3) fun e=>hvx b e.symm o h1)).trans h3
       clear hR12 hu12 hg13 hat13 hvx hvo hvo2 hf12 hB12 hk12 hz9
       go_wp2
       refine ⟨⟨k+1,fun b=>E2 b∨W10.heap.size≤b∧b<w11.heap.size+1,by simp,by omega,hB13,hf13,?_,hv13,hk13⟩,?_⟩
       ·rw [stepk]
        exact hR13
       ·simp only [intOf]
        omega
      ·obtain rfl:k=prs.length:=by omega
       rw [List.take_length,hRS]at hRx
       have g3:¬((prs.length:Nat):Int)<((prs.length:Nat):Int):=by omega
       go_wp2
       go_ret
       refine ⟨_,rfl,hbx,hRx.rep (fun b o h=>?_) fun b o h1 h2=>.inr ⟨by omega,h2⟩⟩
       have h3:=hzp b o h
       have h4:=hkx.size
       rcases hZp3 b o h with h|h
       ·exact .inl h
       ·exact .inr ⟨h,by omega⟩
theorem task_w (n:Int) (rs:List RuleV) (pool:List PI) (l:List (Int × Int)) (hl:pool.length≤1048576):AT 40 [.agg [i64 n,rulesA rs],.sl 9 (pool.map itA),.sl 2 (l.map prA)] (i64 (taskE n rs pool l)):=by
 have V:=bvalid_c n rs
 have C:=check_w pool (rowsN pool)
 unfold taskE
 by_cases h1:specE n rs=0
 case neg =>
  have g1:(specE n rs != 0)=true:=by simpa using h1
  rw [if_pos h1]
  generalize specE n rs=e at *
  refine ACalls.of ⟨10,[],[]⟩ (fn:=Tryz.f40) Tryz.func40 rfl rfl rfl (by kernel_rfl) (by kernel_rfl) (Nat.le_of_ble_eq_true rfl) ?_
  simp (maxSteps:=1000000) -implicitDefEqProofs only [go_sem,awp_seq,Nat.reduceBEq,Nat.reduceAdd,Nat.reduceLT]
  refine callA_tt V ?_
  simp (maxSteps:=1000000) -implicitDefEqProofs only [g1,go_sem,awp_seq,Nat.reduceBEq,Nat.reduceLeDiff,Nat.reduceLT]
 rw [if_neg (by rw [h1];simp)]
 rw [h1]at V
 have z0:((0:Int) != 0)=false:=rfl
 generalize hp:poolE pool (rowsN pool)=e at *
 have g5:decide ((400:Int)<(l.length:Nat))=decide (400<l.length):=decide_eq_decide.2 (by omega)
 cases pool with
 | nil =>
  have C:AT 57 [.sl 9 [],i64 0] (i64 e):=C
  by_cases h2:e=0
  ·subst h2
   rw [if_neg (by simp)]
   by_cases h3:400<l.length
   ·rw [if_pos h3]
    rw [decide_eq_true h3]at g5
    refine ACalls.of ⟨10,[],[]⟩ (fn:=Tryz.f40) Tryz.func40 rfl rfl rfl (by kernel_rfl) (by kernel_rfl) (Nat.le_of_ble_eq_true rfl) ?_
    simp (maxSteps:=1000000) -implicitDefEqProofs only [go_sem,awp_seq,Nat.reduceBEq,Nat.reduceAdd,Nat.reduceLT]
    refine callA_tt V ?_
    simp (maxSteps:=1000000) -implicitDefEqProofs only [z0,List.map_nil,List.length_nil,go_sem,awp_seq,Nat.reduceBEq,Nat.reduceLeDiff,Nat.reduceLT,Int.reduceLT,Int.cast_ofNat_Int]
    refine callA_tt C ?_
    simp (maxSteps:=1000000) -implicitDefEqProofs only [z0,g5,List.length_map,go_sem,awp_seq,Nat.reduceBEq,Nat.reduceLeDiff,Nat.reduceLT]
   ·rw [if_neg h3]
    rw [decide_eq_false h3]at g5
    refine ACalls.of ⟨10,[],[]⟩ (fn:=Tryz.f40) Tryz.func40 rfl rfl rfl (by kernel_rfl) (by kernel_rfl) (Nat.le_of_ble_eq_true rfl) ?_
    simp (maxSteps:=1000000) -implicitDefEqProofs only [go_sem,awp_seq,Nat.reduceBEq,Nat.reduceAdd,Nat.reduceLT]
    refine callA_tt V ?_
    simp (maxSteps:=1000000) -implicitDefEqProofs only [z0,List.map_nil,List.length_nil,go_sem,awp_seq,Nat.reduceBEq,Nat.reduceLeDiff,Nat.reduceLT,Int.reduceLT,Int.cast_ofNat_Int]
    refine callA_tt C ?_
    simp (maxSteps:=1000000) -implicitDefEqProofs only [z0,g5,List.length_map,go_sem,awp_seq,Nat.reduceBEq,Nat.reduceLeDiff,Nat.reduceLT]
  ·have g2:(e != 0)=true:=by simpa using h2
   rw [if_pos h2]
   refine ACalls.of ⟨10,[],[]⟩ (fn:=Tryz.f40) Tryz.func40 rfl rfl rfl (by kernel_rfl) (by kernel_rfl) (Nat.le_of_ble_eq_true rfl) ?_
   simp (maxSteps:=1000000) -implicitDefEqProofs only [go_sem,awp_seq,Nat.reduceBEq,Nat.reduceAdd,Nat.reduceLT]
   refine callA_tt V ?_
   simp (maxSteps:=1000000) -implicitDefEqProofs only [z0,List.map_nil,List.length_nil,go_sem,awp_seq,Nat.reduceBEq,Nat.reduceLeDiff,Nat.reduceLT,Int.reduceLT,Int.cast_ofNat_Int]
   refine callA_tt C ?_
   simp (maxSteps:=1000000) -implicitDefEqProofs only [g2,go_sem,awp_seq,Nat.reduceBEq,Nat.reduceLeDiff,Nat.reduceLT]
 | cons y ys =>
  have C:AT 57 [.sl 9 (itA y :: ys.map itA),i64 (y.2.2.2.2.2.2.2.2.length:Nat)] (i64 e):=C
  have gl:decide ((0:Int)<((ys.length:Nat):Int)+1)=true:=decide_eq_true (by omega)
  have gl2:decide ((0:Int)<((ys.length+1:Nat):Int))=true:=decide_eq_true (by omega)
  by_cases h2:e=0
  ·subst h2
   rw [if_neg (by simp)]
   by_cases h3:400<l.length
   ·rw [if_pos h3]
    rw [decide_eq_true h3]at g5
    refine ACalls.of ⟨10,[],[]⟩ (fn:=Tryz.f40) Tryz.func40 rfl rfl rfl (by kernel_rfl) (by kernel_rfl) (Nat.le_of_ble_eq_true rfl) ?_
    simp (maxSteps:=1000000) -implicitDefEqProofs only [go_sem,awp_seq,Nat.reduceBEq,Nat.reduceAdd,Nat.reduceLT]
    refine callA_tt V ?_
    simp (maxSteps:=1000000) -implicitDefEqProofs only [z0,gl,gl2,List.map_cons,List.length_cons,List.length_map,go_sem,awp_seq,Nat.reduceBEq,Nat.reduceLeDiff,Nat.reduceLT,Int.reduceLE,Int.reduceToNat]
    refine callA_tt C ?_
    simp (maxSteps:=1000000) -implicitDefEqProofs only [z0,g5,List.length_map,go_sem,awp_seq,Nat.reduceBEq,Nat.reduceLeDiff,Nat.reduceLT]
   ·rw [if_neg h3]
    rw [decide_eq_false h3]at g5
    refine ACalls.of ⟨10,[],[]⟩ (fn:=Tryz.f40) Tryz.func40 rfl rfl rfl (by kernel_rfl) (by kernel_rfl) (Nat.le_of_ble_eq_true rfl) ?_
    simp (maxSteps:=1000000) -implicitDefEqProofs only [go_sem,awp_seq,Nat.reduceBEq,Nat.reduceAdd,Nat.reduceLT]
    refine callA_tt V ?_
    simp (maxSteps:=1000000) -implicitDefEqProofs only [z0,gl,gl2,List.map_cons,List.length_cons,List.length_map,go_sem,awp_seq,Nat.reduceBEq,Nat.reduceLeDiff,Nat.reduceLT,Int.reduceLE,Int.reduceToNat]
    refine callA_tt C ?_
    simp (maxSteps:=1000000) -implicitDefEqProofs only [z0,g5,List.length_map,go_sem,awp_seq,Nat.reduceBEq,Nat.reduceLeDiff,Nat.reduceLT]
  ·have g2:(e != 0)=true:=by simpa using h2
   rw [if_pos h2]
   refine ACalls.of ⟨10,[],[]⟩ (fn:=Tryz.f40) Tryz.func40 rfl rfl rfl (by kernel_rfl) (by kernel_rfl) (Nat.le_of_ble_eq_true rfl) ?_
   simp (maxSteps:=1000000) -implicitDefEqProofs only [go_sem,awp_seq,Nat.reduceBEq,Nat.reduceAdd,Nat.reduceLT]
   refine callA_tt V ?_
   simp (maxSteps:=1000000) -implicitDefEqProofs only [z0,gl,gl2,List.map_cons,List.length_cons,List.length_map,go_sem,awp_seq,Nat.reduceBEq,Nat.reduceLeDiff,Nat.reduceLT,Int.reduceLE,Int.reduceToNat]
   refine callA_tt C ?_
   simp (maxSteps:=1000000) -implicitDefEqProofs only [g2,go_sem,awp_seq,Nat.reduceBEq,Nat.reduceLeDiff,Nat.reduceLT]
def fix1 (rs:List RuleV) (y:PI):Int:=if namB rs 7 y.1 then 1 else if namB rs 8 y.1 then 0 else -1
def fixE (rs:List RuleV) (pool:List PI) (vars:Nat):List Int:=pool.map (fix1 rs) ++ List.replicate (vars-pool.length) (-1)
def valE (val:List Int) (vars:Nat):List Int:=val ++ List.replicate (vars-val.length) 0
def badV (z:Int):Bool:=decide (z < -1000000) || decide (1000000<z)
def varsE (rs:List RuleV) (pool:List PI):Nat:=pool.length+setsN rs
def probE (n:Int) (rs:List RuleV) (pool:List PI) (l:List (Int × Int)) (val:List Int):Int :=
 if taskE n rs pool l≠0 then taskE n rs pool l else if val.length≠pool.length then 1 else if val.any badV then 3
 else if 24<varsE rs pool∨60<(consE n rs pool (varsE rs pool) pool.length l).length then 5 else 0
def prbA (v:List Int) (rows:List RowP) (f:List Int):AV:=.agg [.sl 1 (v.map fun z=>i64 z),.sl 3 (rows.map rwA),.sl 1 (f.map fun z=>i64 z)]
def prbR (n:Int) (rs:List RuleV) (pool:List PI) (l:List (Int × Int)) (val:List Int):AV :=
 if probE n rs pool l val=0 then prbA (valE val (varsE rs pool)) (consE n rs pool (varsE rs pool) pool.length l) (fixE rs pool (varsE rs pool)) else prbA [] [] []
abbrev tProb:TypeId:=53
abbrev prob0:Obj:=.cells #[.slice none 0 0,.slice none 0 0,.slice none 0 0] tProb (0,0)
theorem prob_info:(Tryz.prog.info? tProb).map (·.size)=some 3:=by kernel_rfl
theorem results_cell1 {P:Program} {fn:Func} {p t:Tmp} {ty:TypeId} (h:fn.results=#[.cell p ty,.tmp t]) (tmps:Array Value) (w:World) (g:Nat) (T:TypeId) (cs:Array Value) (fr:Nat × Nat) (d:TypeDesc)
  (hp:tmps.getD p undef=.pointer (some ⟨g,0,none⟩)) (hg:w.heap[g]? = some (.cells cs T fr))
  (hu:P.underlying ty=some d) (hd:(match d with|.struct _|.array _ _=>true|_=>false)=true) (hi:(P.info? ty).map (·.size)=some cs.size) :
  (results fn tmps).run P w=.ok (.tuple #[.agg cs,tmps.getD t undef]) w:=by
 have hp':tmps[p]?.getD undef=.pointer (some ⟨g,0,none⟩):=by simpa using hp
 simp [results,h,hp',asAddr,run_loadVar_row w g T ty cs fr d hg hu hd hi,Sem.run_bind,Result.andThen]
theorem all_prob:(#[.slice none 0 0,.slice none 0 0,.slice none 0 0]:Array Value).all (·.oneCell')=true:=by simp [Value.oneCell']
theorem prob_ret {R:Ending→World→Prop} {a:Act} {w':World} {g:Nat} {x y z e:Value} (hd:a.defers=[]) (hp:a.tmps.getD 8 undef=.pointer (some ⟨g,0,none⟩)) (h4:a.tmps.getD 9 undef=e) (hg:w'.heap[g]? = some (.cells #[x,y,z] tProb (0,0)))
  (hR:R (.returned (.tuple #[.agg #[x,y,z],e])) w'):bodyPost Tryz.prog Tryz.f44 R .ret a w':=by
 subst h4
 exact bodyPost_ret (results_cell1 (fn:=Tryz.f44) rfl a.tmps w' g tProb #[x,y,z] (0,0) _ hp hg Tryz.underlying53 rfl prob_info) hd hR
theorem prob_val {w:World} {Z:Zone} {v f:List Int} {rows:List RowP} {x y z:Value} (h1:Rep w Z (.sl 1 (v.map fun z=>i64 z)) x) (h2:Rep w Z (.sl 3 (rows.map rwA)) y) (h3:Rep w Z (.sl 1 (f.map fun z=>i64 z)) z):Rep w Z (prbA v rows f) (.agg #[x,y,z]) :=
 .agg rfl fun j hj=>by
  match j,hj with
  | 0,_=>exact h1
  | 1,_=>exact h2
  | 2,_=>exact h3
theorem prob_out {w:World} {Z:Zone} {v f:List Int} {rows:List RowP} {x y z:Value} {e:Int} (h1:Rep w Z (.sl 1 (v.map fun z=>i64 z)) x) (h2:Rep w Z (.sl 3 (rows.map rwA)) y) (h3:Rep w Z (.sl 1 (f.map fun z=>i64 z)) z):Rep w Z (.tup [prbA v rows f,i64 e]) (.tuple #[.agg #[x,y,z],.int .i64 e]) :=
 .tup rfl fun i hi=>by
  match i,hi with
  | 0,_=>exact prob_val h1 h2 h3
  | 1,_=>exact .lit rfl
theorem prob_err {w:World} {Z:Zone} {n:Int} {rs:List RuleV} {pool:List PI} {l:List (Int × Int)} {val:List Int} {e:Int} (h:probE n rs pool l val=e) (he:e≠0):Rep w Z (.tup [prbR n rs pool l val,i64 (probE n rs pool l val)]) (.tuple #[.agg #[.slice none 0 0,.slice none 0 0,.slice none 0 0],.int .i64 e]):=by
 unfold prbR
 rw [h,if_neg he]
 exact prob_out .nil .nil .nil
theorem ptask_ok {n:Int} {rs:List RuleV} {pool:List PI} {l:List (Int × Int)} (h:taskE n rs pool l=0):pool.length≤18∧rs.length≤20∧l.length≤400∧∀r∈rs,demOk r=true∧chkE r=0:=by
 unfold taskE at h
 by_cases h1:specE n rs≠0
 ·rw [if_pos h1]at h;exact absurd h h1
 rw [if_neg h1]at h
 by_cases h2:poolE pool (rowsN pool)≠0
 ·rw [if_pos h2]at h;exact absurd h h2
 rw [if_neg h2]at h
 have h1:=Classical.not_not.1 h1
 have h2:=Classical.not_not.1 h2
 have h3:¬400<l.length:=fun h3=>by rw [if_pos h3]at h;exact absurd h (by decide)
 unfold poolE at h2
 have h4:¬18<pool.length:=fun h4=>by rw [if_pos h4]at h2;exact absurd h2 (by decide)
 unfold specE at h1
 split at h1
 ·exact absurd h1 (by decide)
 split at h1
 ·exact absurd h1 (by decide)
 exact ⟨by omega,by omega,by omega,rules_chk h1⟩
theorem sl_len {w:World} {Z:Zone} {k:Nat} {es:List AV} {v:Value} (h:Rep w Z (.sl k es) v):∃A c,v=.slice A es.length c:=by
 cases h with
 | nil=>exact ⟨_,_,rfl⟩
 | sl vs hb hc hk hm hr=>exact ⟨_,_,rfl⟩
def PCut (wa:World) (Z:Zone) (va:Nat) (M:List RowP) (p:Value) (wx:World):Prop :=
 ∃P G1 G2 A c,p=.pointer (some ⟨P,0,none⟩)∧Below wa.heap.size wa wx∧(wa.heap.size≤P∧wa.heap.size≤G1∧wa.heap.size≤G2∧P≠G1∧P≠G2∧G1≠G2) ∧
  wx.heap[P]? = some (.cells #[.slice (some ⟨G1,0,none⟩) va va,.slice A M.length c,.slice (some ⟨G2,0,none⟩) va va] tProb (0,0)) ∧
  wx.heap[G1]? = some (.cells (madeCells #[.int .i64 0] va) 3 (0,0))∧wx.heap[G2]? = some (.cells (madeCells #[.int .i64 0] va) 3 (0,0)) ∧
  Rep wx (fun b o=>Z b o∨(wa.heap.size≤b∧b<wx.heap.size∧b≠P∧b≠G1∧b≠G2)) (.sl 3 (M.map rwA)) (.slice A M.length c)
theorem rep_3 {w:World} {Z:Zone} {a b c:AV} {x y z:Value} (h1:Rep w Z a x) (h2:Rep w Z b y) (h3:Rep w Z c z):Rep w Z (.agg [a,b,c]) (.agg #[x,y,z]) :=
 .agg rfl fun j hj=>by
  match j,hj with
  | 0,_=>exact h1
  | 1,_=>exact h2
  | 2,_=>exact h3
class PAt (X:World) (b:outParam Nat):Prop where
 obj:X.heap[b]? = some prob0
instance pat_drew (w:World) (b:Nat) [h:PAt w b]:PAt w.drew b:=⟨h.obj⟩
instance pat_drewN (w:World) (n b:Nat) [h:PAt w b]:PAt (w.drewN n) b:=⟨h.obj⟩
instance pat_alloc (w:World) (o:Obj) (b:Nat) [h:PAt w b]:PAt (w.alloc o) b:=⟨by
 have:=(Array.getElem?_eq_some_iff.1 h.obj).1
 rw [Lib.alloc_old _ _ _ this]
 exact h.obj⟩
class SzAt (X:World) (s:outParam Nat):Prop where
 sz:X.heap.size=s
instance (priority:=low) sz_base (w:World):SzAt w w.heap.size:=⟨rfl⟩
instance sz_drew (w:World) (s:Nat) [h:SzAt w s]:SzAt w.drew s:=⟨h.sz⟩
instance sz_alloc (w:World) (o:Obj) (s:Nat) [h:SzAt w s]:SzAt (w.alloc o) (s+1):=⟨by
 have:=h.sz
 simp
 exact this⟩
instance pat_new (w:World) (s:Nat) [h:SzAt w s]:PAt (w.alloc prob0) s:=⟨h.sz ▸ heap_alloc_new w _⟩
theorem pat_call {X w7:World} (hb:Below X.heap.size X w7) {b:Nat} [h:PAt X b]:w7.heap[b]? = some prob0:=(hb.block b (Array.getElem?_eq_some_iff.1 h.obj).1).trans h.obj
theorem pne {w:World} {b:Nat} {o:Obj} (h:w.heap[b]? = some o) (k:Nat):b<w.heap.size+k:=by
 have:=(Array.getElem?_eq_some_iff.1 h).1
 omega
theorem pcell0 {w:World} {b:Nat} (h:w.heap[b]? = some prob0):w.cell? ⟨b,0,none⟩=some (.slice none 0 0):=by
 rw [Lib.cell_of_heap h]
 rfl
theorem pcell1 {w:World} {b:Nat} (h:w.heap[b]? = some prob0):w.cell? ⟨b,1,none⟩=some (.slice none 0 0):=by
 rw [Lib.cell_of_heap h]
 rfl
theorem pcell2 {w:World} {b:Nat} (h:w.heap[b]? = some prob0):w.cell? ⟨b,2,none⟩=some (.slice none 0 0):=by
 rw [Lib.cell_of_heap h]
 rfl
theorem pfroz {w:World} {b:Nat} {cs:Array Value} {t:TypeId} (h:w.heap[b]? = some (.cells cs t (0,0))) (i:Nat):w.frozen? ⟨b,i,none⟩=false:=frozen_of_row _ _ _ _ _ h
theorem made_vals (va:Nat):madeCells #[Value.int .i64 0] va=((List.replicate va (0:Int)).map (Value.int .i64)).toArray:=by
 rw [List.map_replicate,←toList_madeCells_one]
theorem copy_vals {w:World} {Z:Zone} (ty:TypeId) (g va:Nat) (Av:Option Addr) (cv:Nat) (val:List Int) (hle:val.length≤va) (hg:w.heap[g]? = some (.cells (madeCells #[.int .i64 0] va) 3 (0,0))) (hsrc:Rep w Z (.sl 1 (val.map fun z=>i64 z)) (.slice Av val.length cv)) :
  ∃w',(Builtin.copy_ #[27,27] ty #[.slice (some ⟨g,0,none⟩) va va,.slice Av val.length cv]).run Tryz.prog w=.ok (goInt val.length) w'∧Only g w w'∧w'.heap[g]? = some (.cells ((valE val va).map (Value.int .i64)).toArray 3 (0,0)):=by
 have hsz:(Tryz.prog.info? 3).map (·.size)=some 1:=by kernel_rfl
 obtain ⟨A',c',e',hget⟩:=hsrc.row1 (fun d hd=>by obtain ⟨z,_,rfl⟩:=List.mem_map.1 hd;rfl)
 cases val with
 | nil =>
  refine ⟨w,run_copy_none w _ _ ty 3 _ _ va va 0 cv Tryz.underlying27 hsz (Nat.zero_min _),Only.refl g w,?_⟩
  rw [hg,made_vals]
  rfl
 | cons z l =>
  obtain ⟨b,off,u0,hA,_⟩:=hget 0 (by simp)
  have hA':Av=some ⟨b,off,none⟩:=by
   injection e' with e1
   exact e1.trans hA
  subst hA'
  have hlen:((z :: l).map (Value.int .i64)).length=Nat.min (z :: l).length va:=by
   rw [List.length_map]
   exact (Nat.min_eq_left hle).symm
  have hrun:=run_copy_row (P:=Tryz.prog) w 27 27 ty 3 g 0 va va ⟨b,off,none⟩ (z :: l).length cv _ _ ((z :: l).map (Value.int .i64)) Tryz.underlying27 hsz hg hlen (fun j v hj=>?_) (by rw [List.length_map,size_madeCells];simpa using hle) (fun v hv=>by obtain ⟨q,_,rfl⟩:=List.mem_map.1 hv;rfl)
  ·have hx:(((z :: l).map (Value.int .i64)).length:Nat)=(z :: l).length:=List.length_map _
   rw [hx]at hrun
   refine ⟨_,hrun,⟨rfl,rfl,rfl,by simp [World.setRow],fun k hk=>setRow_other w g k _ hk⟩,?_⟩
   rw [setRow_heap _ _ _ _ _ _ hg]
   congr 3
   unfold valE
   rw [made_vals,List.map_append,List.take_zero,List.nil_append,Nat.zero_add]
   simp
  ·have hj2:j<(z :: l).length:=by
    have:=(List.getElem?_eq_some_iff.1 hj).1
    simpa using this
   obtain ⟨b',off',u,hA2,hc,_,hr⟩:=hget j (by rw [List.length_map];exact hj2)
   rw [hA]at hA2
   injection hA2 with hA2
   injection hA2 with hb ho2
   subst hb ho2
   rw [List.getElem_map]at hr
   obtain rfl:=hr.lit_eq
   rw [List.getElem?_map,List.getElem?_eq_getElem hj2]at hj
   cases hj
   by_cases hj0:j=0
   ·subst hj0
    simpa [Addr.add]using hc
   ·simpa [Addr.add,hj0]using hc
structure Exc (g:Nat) (a w:World):Prop where
 size:a.heap.size≤w.heap.size
 block:∀b,b<a.heap.size→b≠g→w.heap[b]? = a.heap[b]?
theorem Exc.refl (g:Nat) (a:World):Exc g a a:=⟨Nat.le_refl _,fun _ _ _=>rfl⟩
theorem Exc.set {g:Nat} {a w:World} (h:Exc g a w) (i:Nat) (u:Value):Exc g a (w.setCell ⟨g,i,none⟩ u):=⟨by simpa using h.size,fun b hb hn=>by rw [heap_setCell_other _ _ _ _ (by simpa using hn)];exact h.block b hb hn⟩
theorem Exc.call {g:Nat} {a w w':World} (h:Exc g a w) (hb:Below w.heap.size w w'):Exc g a w':=⟨Nat.le_trans h.size hb.size,fun b hb' hn=>(hb.block b (Nat.lt_of_lt_of_le hb' h.size)).trans (h.block b hb' hn)⟩
def fixK (rs:List RuleV) (pool:List PI) (va k:Nat):List Value:=((fixE rs pool va).take k).map (Value.int .i64) ++ List.replicate (va-k) (.int .i64 0)
theorem fixE_len {rs:List RuleV} {pool:List PI} {va:Nat} (h:pool.length≤va):(fixE rs pool va).length=va:=by
 unfold fixE
 simp
 omega
theorem fixK_at {rs:List RuleV} {pool:List PI} {va k:Nat} (h:pool.length≤va) (hk:k<va):(fixK rs pool va k)[k]? = some (.int .i64 0):=by
 unfold fixK
 have hl:=fixE_len (rs:=rs) h
 rw [List.getElem?_append_right (by rw [List.length_map,List.length_take,hl];omega),List.length_map,List.length_take,hl,Nat.min_eq_left (Nat.le_of_lt hk),Nat.sub_self,show va-k=(va-k-1)+1 by omega,List.replicate_succ]
 rfl
theorem fixK_set {rs:List RuleV} {pool:List PI} {va k:Nat} (h:pool.length≤va) (hk:k<va) {z:Int} (hz:(fixE rs pool va)[k]? = some z):(fixK rs pool va k).set k (.int .i64 z)=fixK rs pool va (k+1):=by
 have hl:=fixE_len (rs:=rs) h
 unfold fixK
 rw [List.set_append_right _ _ (by rw [List.length_map,List.length_take,hl];omega),List.length_map,List.length_take,hl,Nat.min_eq_left (Nat.le_of_lt hk),Nat.sub_self,show va-k=(va-(k+1))+1 by omega,List.replicate_succ,List.set_cons_zero,List.take_add_one,hz,List.map_append,List.append_assoc]
 rfl
theorem fixK_0 (rs:List RuleV) (pool:List PI) (va:Nat):(fixK rs pool va 0).toArray=madeCells #[Value.int .i64 0] va:=by
 unfold fixK
 rw [←toList_madeCells_one]
 simp
theorem fixK_end {rs:List RuleV} {pool:List PI} {va:Nat} (h:pool.length≤va):fixK rs pool va va=(fixE rs pool va).map (Value.int .i64):=by
 unfold fixK
 rw [List.take_of_length_le (by rw [fixE_len h];exact Nat.le_refl _),Nat.sub_self,List.replicate_zero,List.append_nil]
theorem fixE_in {rs:List RuleV} {pool:List PI} {va k:Nat} (hk:k<pool.length):(fixE rs pool va)[k]? = some (fix1 rs pool[k]):=by
 unfold fixE
 rw [List.getElem?_append_left (by simpa using hk),List.getElem?_map,List.getElem?_eq_getElem hk]
 rfl
theorem fixE_out {rs:List RuleV} {pool:List PI} {va k:Nat} (hk:pool.length≤k) (hv:k<va):(fixE rs pool va)[k]? = some (-1):=by
 unfold fixE
 rw [List.getElem?_append_right (by simpa using hk),List.getElem?_replicate]
 rw [List.length_map,if_pos (by omega)]
theorem fixK_len {rs:List RuleV} {pool:List PI} {va k:Nat} (h:pool.length≤va) (hk:k≤va):(fixK rs pool va k).length=va:=by
 have hl:=fixE_len (rs:=rs) h
 unfold fixK
 rw [List.length_append,List.length_map,List.length_take,hl,List.length_replicate]
 omega
theorem cells_rep {w:World} {Z:Zone} {g:Nat} {l:List Int} (hg:w.heap[g]? = some (.cells (l.map (Value.int .i64)).toArray 3 (0,0))) (hl:l.length≤1000000) (hZ:∀o,Z g o):Rep w Z (.sl 1 (l.map fun z=>i64 z)) (.slice (some ⟨g,0,none⟩) l.length l.length):=by
 refine ints_rep (B:=0) (n:=l.length) (e:=3) rfl ⟨by simp,.inr ⟨g,l.length,_,rfl,Nat.zero_le _,hg,Nat.le_refl _,by unfold maxLen;omega,by simp,?_⟩⟩ fun g' hg' o=>by cases hg';exact hZ o
 rw [List.take_of_length_le (by simp)]
theorem drew_get (w:World) (b:Nat):w.drew.heap[b]? = w.heap[b]?:=rfl
abbrev set3 (w:World) (P:Nat) (a b c:Value):World:=((w.setCell ⟨P,0,none⟩ a).setCell ⟨P,1,none⟩ b).setCell ⟨P,2,none⟩ c
theorem set3_at {w:World} {P:Nat} (h:w.heap[P]? = some prob0) (a b c:Value):(set3 w P a b c).heap[P]? = some (.cells #[a,b,c] tProb (0,0)):=by
 have h1:(w.setCell ⟨P,0,none⟩ a).heap[P]? = some (.cells #[a,.slice none 0 0,.slice none 0 0] tProb (0,0)):=(heap_setCell_same _ _ _ _ _ _ h).trans (by simp)
 have h2:((w.setCell ⟨P,0,none⟩ a).setCell ⟨P,1,none⟩ b).heap[P]? = some (.cells #[a,b,.slice none 0 0] tProb (0,0)):=(heap_setCell_same _ _ _ _ _ _ h1).trans (by simp)
 exact (heap_setCell_same _ _ _ _ _ _ h2).trans (by simp)
theorem set3_ne {w:World} {P k:Nat} (h:k≠P) (a b c:Value):(set3 w P a b c).heap[k]? = w.heap[k]?:=by
 unfold set3
 rw [heap_setCell_other _ _ _ _ (by simpa using h),heap_setCell_other _ _ _ _ (by simpa using h),heap_setCell_other _ _ _ _ (by simpa using h)]
theorem pcut_mk {wa X w7 wx:World} {Z:Zone} {va:Nat} {M:List RowP} {A7:Option Addr} {c7:Nat} {s:Nat} [hsx:SzAt X s] (hb7:Below X.heap.size X w7) (hX7:Below wa.heap.size wa w7) (hr7:Rep w7 (grown Z X w7) (.sl 3 (M.map rwA)) (.slice A7 M.length c7)) (hz:∀b o,Z b o→b<wa.heap.size)
  (P G1 G2:Nat) (hs:wa.heap.size≤s) (hP:wa.heap.size≤P∧(P<s∨w7.heap.size≤P)) (hos:wx.os=w7.os∧wx.tape=w7.tape∧wx.output=w7.output) (hsz:w7.heap.size≤wx.heap.size) (hoth:∀b,b<w7.heap.size→b≠P→wx.heap[b]? = w7.heap[b]?)
  (hcP:wx.heap[P]? = some (.cells #[.slice (some ⟨G1,0,none⟩) va va,.slice A7 M.length c7,.slice (some ⟨G2,0,none⟩) va va] tProb (0,0))) (hc1:wx.heap[G1]? = some (.cells (madeCells #[.int .i64 0] va) 3 (0,0))) (hc2:wx.heap[G2]? = some (.cells (madeCells #[.int .i64 0] va) 3 (0,0)))
  (hG1:wa.heap.size≤G1∧(G1<s∨w7.heap.size≤G1)) (hG2:wa.heap.size≤G2∧(G2<s∨w7.heap.size≤G2)) (hn:P≠G1∧P≠G2∧G1≠G2):PCut wa Z va M (.pointer (some ⟨P,0,none⟩)) wx:=by
 have h7:=hX7.size
 have hs2:=hsx.sz
 refine ⟨P,G1,G2,A7,c7,rfl,⟨hos.1.trans hX7.os,hos.2.1.trans hX7.tape,hos.2.2.trans hX7.output,by omega,fun k hk=>(hoth k (by omega) (by omega)).trans (hX7.block k hk)⟩,⟨hP.1,hG1.1,hG2.1,hn⟩,hcP,hc1,hc2,?_⟩
 refine hr7.keep ⟨hsz,fun b o u hZ hc=>?_⟩ fun b o hZ=>?_
 ·have hb1:b<w7.heap.size:=World.block_lt_of_cell? w7 _ hc
  refine (World.cell?_of_block (a:=⟨b,o,none⟩) (hoth b hb1 fun e=>?_)).trans hc
  subst e
  rcases hZ with hZ|hZ
  ·have:=hz _ _ hZ;omega
  ·omega
 ·rcases hZ with hZ|hZ
  ·exact .inl hZ
  ·exact .inr (by omega)
section
variable (n lo hi:Int) (code:List UInt8)
end
section
variable {k:Int} {pool:List PI} {p:PI→Bool}
end
abbrev chP (ch:List Int):PI→Bool:=fun y=>decide (y.1∈ch)
def setsV (p:PI→Bool) (pool:List PI):List RuleV→List Int
 | []=>[]
 | r :: l=>if r.k=6 then oneI (pool.any fun y=>y.2.2.2.1 == r.n && p y) :: setsV p pool l else setsV p pool l
def asgE (p:PI→Bool) (pool:List PI) (rs:List RuleV):List Int:=pool.map (fun y=>oneI (p y)) ++ setsV p pool rs
theorem setsV_len (p:PI→Bool) (pool:List PI):∀rs:List RuleV,(setsV p pool rs).length=setsN rs
 | []=>rfl
 | r :: l=>by
  unfold setsV setsN
  by_cases h:r.k=6
  ·rw [if_pos h,if_pos h,List.length_cons,setsV_len p pool l];omega
  ·rw [if_neg h,if_neg h,setsV_len p pool l];omega
theorem one_01 (b:Bool):oneI b=0∨oneI b=1:=by cases b <;> simp [oneI]
theorem dot_app:∀(a b c d:List Int),a.length=b.length→dotE (a ++ c) (b ++ d)=dotE a b+dotE c d
 | [],[],c,d,_=>by simp [dotE]
 | x :: a,y :: b,c,d,h=>by
  have:=dot_app a b c d (by simpa using h)
  simp only [List.cons_append,dotE]
  rw [this]
  omega
 | [],_ :: _,_,_,h=>by simp at h
 | _ :: _,[],_,_,h=>by simp at h
theorem dot_zero:∀(n:Nat) (x:List Int),dotE (List.replicate n 0) x=0
 | 0,x=>by simp [dotE]
 | n+1,[]=>by simp [dotE]
 | n+1,y :: x=>by
  rw [List.replicate_succ]
  simp only [dotE]
  rw [dot_zero n x]
  omega
theorem dot_pool (m:PI→Int) (p:PI→Bool):∀pool:List PI,dotE (pool.map m) (pool.map fun y=>oneI (p y))=sumM m (pool.filter p)
 | []=>rfl
 | y :: l=>by
  simp only [List.map_cons,dotE]
  rw [dot_pool m p l]
  cases h:p y with
  | true =>
   rw [List.filter_cons_of_pos h]
   conv=>rhs;unfold sumM
   simp [oneI]
  | false =>
   rw [List.filter_cons_of_neg (by simp [h])]
   simp [oneI]
theorem dot_coefs (m:PI→Int) (p:PI→Bool) (pool:List PI) (vars:Nat) (ys:List Int):dotE (coefs m pool vars) (pool.map (fun y=>oneI (p y)) ++ ys)=sumM m (pool.filter p):=by
 unfold coefs
 rw [dot_app _ _ _ _ (by simp),dot_pool,dot_zero]
 omega
theorem dot_set0 (c v:Int):∀(k j:Nat) (ys:List Int),j<k→ys[j]? = some v→dotE ((List.replicate k 0).set j c) ys=c*v
 | 0,j,_,h,_=>absurd h (Nat.not_lt_zero j)
 | k+1,j,[],_,h=>by simp at h
 | k+1,0,y :: ys,_,h=>by
  rw [List.replicate_succ,List.set_cons_zero]
  simp only [dotE]
  rw [dot_zero]
  have:y=v:=by simpa using h
  rw [this]
  omega
 | k+1,j+1,y :: ys,hk,h=>by
  rw [List.replicate_succ,List.set_cons_succ]
  simp only [dotE]
  rw [dot_set0 c v k j ys (by omega) (by simpa using h)]
  omega
theorem dot_set (m:PI→Int) (p:PI→Bool) (pool:List PI) (vars j:Nat) (ys:List Int) (c v:Int) (hj:pool.length+j<vars) (hv:ys[j]? = some v):dotE ((coefs m pool vars).set (pool.length+j) c) (pool.map (fun y=>oneI (p y)) ++ ys)=sumM m (pool.filter p)+c*v:=by
 unfold coefs
 have e:(pool.map m ++ List.replicate (vars-pool.length) 0).set (pool.length+j) c=pool.map m ++ (List.replicate (vars-pool.length) 0).set j c:=by
  rw [List.set_append_right _ _ (by simp)]
  congr 2
  rw [List.length_map]
  omega
 rw [e,dot_app _ _ _ _ (by simp),dot_pool,dot_set0 c v _ _ _ (by omega) hv]
theorem fix_app:∀(a b c d:List Int),a.length=b.length→okFix (a ++ c) (b ++ d)=(okFix a b && okFix c d)
 | [],[],c,d,_=>by simp [okFix]
 | x :: a,y :: b,c,d,h=>by
  have:=fix_app a b c d (by simpa using h)
  simp only [List.cons_append,okFix]
  rw [this,Bool.and_assoc]
 | [],_ :: _,_,_,h=>by simp at h
 | _ :: _,[],_,_,h=>by simp at h
theorem fix_neg:∀(n:Nat) (x:List Int),okFix (List.replicate n (-1)) x=true
 | 0,x=>by simp [okFix]
 | n+1,[]=>by simp [okFix]
 | n+1,y :: x=>by
  rw [List.replicate_succ]
  simp only [okFix]
  rw [fix_neg n x]
  rfl
theorem fix_pool (g:PI→Int) (p:PI→Bool):∀pool:List PI,okFix (pool.map g) (pool.map fun y=>oneI (p y))=pool.all fun y=>decide (g y<0) || oneI (p y) == g y
 | []=>rfl
 | y :: l=>by
  simp only [List.map_cons,okFix,List.all_cons]
  rw [fix_pool g p l]
theorem sum_one {q:PI→Bool}:∀l:List PI,0≤sumM (fun y=>oneI (q y)) l∧sumM (fun y=>oneI (q y)) l≤(l.length:Nat)∧(0<sumM (fun y=>oneI (q y)) l ↔ ∃y∈l,q y=true)
 | []=>by simp [sumM]
 | y :: l=>by
  obtain ⟨h1,h2,h3⟩:=sum_one (q:=q) l
  unfold sumM
  rw [List.length_cons]
  cases hq:q y with
  | true =>
   have e:oneI true=1:=rfl
   rw [e]
   exact ⟨by omega,by omega,fun _=>⟨y,by simp,hq⟩,fun _=>by omega⟩
  | false =>
   have e:oneI false=0:=rfl
   rw [e]
   refine ⟨by omega,by omega,fun h=>?_,fun ⟨z,hz,hz2⟩=>?_⟩
   ·obtain ⟨z,hz,hz2⟩:=h3.1 (by omega)
    exact ⟨z,by simp [hz],hz2⟩
   ·rcases List.mem_cons.1 hz with rfl|hz
    ·rw [hq]at hz2;cases hz2
    ·have:=h3.2 ⟨z,hz,hz2⟩
     omega
theorem sum_add (f g:PI→Int):∀l:List PI,sumM (fun y=>f y+g y) l=sumM f l+sumM g l
 | []=>rfl
 | y :: l=>by
  unfold sumM
  rw [sum_add f g l]
  omega
theorem sum_congr {f g:PI→Int}:∀{l:List PI},(∀y∈l,f y=g y)→sumM f l=sumM g l
 | [],_=>rfl
 | y :: l,h=>by
  unfold sumM
  rw [h y (by simp),sum_congr fun z hz=>h z (by simp [hz])]
theorem id_once {p:PI→Bool} {a:Int}:∀{pool:List PI} {k:Int},idsE pool k=true→sumM (fun y=>oneI (y.1 == a)) (pool.filter p)≤1
 | [],_,_=>by simp [sumM]
 | y :: l,k,h=>by
  obtain ⟨_,h2⟩:=ids_cons h
  have ih:=id_once (p:=p) (a:=a) h2
  cases hp:p y with
  | false=>rw [List.filter_cons_of_neg (by simp [hp])];exact ih
  | true =>
   rw [List.filter_cons_of_pos hp]
   unfold sumM
   by_cases hy:y.1=a
   ·have hz:¬0<sumM (fun y=>oneI (y.1 == a)) (l.filter p):=fun hpos=>by
     obtain ⟨z,hz,hz2⟩:=(sum_one (q:=fun y=>y.1 == a) (l.filter p)).2.2.1 hpos
     have:=ids_lt h2 z (List.mem_filter.1 hz).1
     have:z.1=a:=by simpa using hz2
     omega
    have:=one_01 (y.1 == a)
    omega
   ·have e:(y.1 == a)=false:=by simpa using hy
    rw [e]
    have e2:oneI false=0:=rfl
    rw [e2]
    omega
theorem dup_mem:∀(l seen:List Int) (x:Int),x∈dupA seen l ↔ seen.count x<2∧2≤seen.count x+l.count x
 | [],seen,x=>by simp [dupA]
 | y :: l,seen,x=>by
  have ih:=dup_mem l (y :: seen) x
  unfold dupA
  by_cases hx:x=y
  ·subst hx
   rw [List.count_cons_self]at ih
   rw [List.count_cons_self]
   by_cases h:seen.count x=1
   ·rw [if_pos h]
    exact ⟨fun _=>by omega,fun _=>by simp⟩
   ·rw [if_neg h,ih]
    omega
  ·have hne:(y == x)=false:=by simpa using fun e=>hx e.symm
   have c1:List.count x (y :: seen)=seen.count x:=by rw [List.count_cons,hne];simp
   have c2:List.count x (y :: l)=l.count x:=by rw [List.count_cons,hne];simp
   rw [c1]at ih
   rw [c2]
   by_cases h:seen.count y=1
   ·rw [if_pos h,List.mem_cons,ih]
    exact ⟨fun h=>h.resolve_left hx,.inr⟩
   ·rw [if_neg h,ih]
theorem rep_mem (items:List PI) (x:Int):x∈repE items ↔ 2≤(famL items).count x:=by
 unfold repE
 rw [List.mem_mergeSort,dup_mem]
 simp
theorem fam_sum {f:Int} (hf:0<f):∀l:List PI,sumM (fun y=>oneI (y.2.2.1 == f)) l=((famL l).count f:Nat)
 | []=>rfl
 | y :: l=>by
  have ih:=fam_sum hf l
  unfold sumM
  rw [ih]
  unfold famL
  rw [List.map_cons]
  by_cases hx:y.2.2.1=f
  ·have e:(y.2.2.1 == f)=true:=by simpa using hx
   rw [List.filter_cons_of_pos (by simp [hx,hf]),List.count_cons,e]
   have e1:oneI true=1:=rfl
   rw [e1,if_pos rfl]
   omega
  ·have e:(y.2.2.1 == f)=false:=by simpa using hx
   have e1:oneI false=0:=rfl
   rw [e,e1]
   by_cases h0:0<y.2.2.1
   ·rw [List.filter_cons_of_pos (by simpa using h0),List.count_cons,e]
    simp
   ·rw [List.filter_cons_of_neg (by simpa using h0)]
    simp
theorem famx_pos {items:List PI} {x:Int} (h:2≤(famL items).count x):0<x:=by
 have hm:x∈famL items:=List.count_pos_iff.1 (by omega)
 unfold famL at hm
 simpa using (List.mem_filter.1 hm).2
theorem uniqL_mem {x:Int × Int}:∀(l:List (Int × Int)) (o:Option (Int × Int)),x∈uniqL o l→x∈l
 | [],_,h=>by simp [uniqL]at h
 | p :: l,o,h=>by
  unfold uniqL at h
  split at h
  ·exact List.mem_cons_of_mem _ (uniqL_mem l o h)
  ·rcases List.mem_cons.1 h with rfl|h
   ·simp
   ·exact List.mem_cons_of_mem _ (uniqL_mem l _ h)
theorem norm_ne {l:List (Int × Int)} {x:Int × Int} (h:x∈normE l):x.1≠x.2:=by
 unfold normE uniqP at h
 have h:=uniqL_mem _ _ h
 unfold sortP at h
 rw [List.mem_mergeSort]at h
 unfold normPre at h
 obtain ⟨y,hy,rfl⟩:=List.mem_map.1 h
 have hy:=(List.mem_filter.1 hy).2
 have hy:y.1≠y.2:=by simpa using hy
 unfold ordP
 split
 ·exact hy
 ·exact fun e=>hy e.symm
theorem has_mem (items:List PI) (n:Int):hasE items n=true ↔ ∃y∈items,y.1=n:=by
 unfold hasE
 rw [List.find?_isSome]
 simp [idP]
theorem nam_mem (rs:List RuleV) (k n:Int):namB rs k n=true ↔ ∃r∈rs,r.k=k∧r.n=n:=by
 unfold namB
 rw [List.find?_isSome]
 simp [namP]
section
variable {pool:List PI} {k:Int} {ch:List Int}
theorem bool_not {a b:Bool} (h:a=true ↔ ¬b=true):a=!b:=by
 cases a <;> cases b <;> simp at h ⊢
def ruleOK (rs:List RuleV) (pool:List PI) (p:PI→Bool) (r:RuleV):Bool :=
 if r.k=7 then hasE pool r.n else if r.k=8 then !(hasE pool r.n && namB rs 7 r.n) || !(hasE (pool.filter p) r.n) else !(brkE r (pool.filter p))
theorem rule_rows (h18:pool.length≤18) (hit:∀y∈pool,itE y k=0) (rs:List RuleV) (p:PI→Bool) (vars j:Nat) (ys:List Int) (r:RuleV) (hc:chkE r=0)
  (hy:r.k=6→pool.length+j<vars∧ys[j]? = some (oneI (pool.any fun y=>y.2.2.2.1 == r.n && p y))):(rowE1 r rs pool vars (pool.length+j)).all (okRow (pool.map (fun y=>oneI (p y)) ++ ys))=ruleOK rs pool p r:=by
 have hm:∀y∈pool,0≤msr r y∧msr r y≤2000:=fun y hy=>msr_rng (hit y hy) r
 have hs:∀y∈pool,0≤setM r.n y∧setM r.n y≤2000:=fun y _=>set_rng r.n y
 have hfl:(pool.filter p).length≤18:=Nat.le_trans (List.length_filter_le p pool) h18
 unfold rowE1 ruleOK
 by_cases h6:r.k=6
 ·obtain ⟨hj,hv⟩:=hy h6
  rw [if_pos h6,if_neg (by omega),if_neg (by omega)]
  unfold brkE
  rw [if_pos h6,tot_filter h18 hs]
  have hs2:setE r.lo r.hi r.n=0:=by
   unfold chkE at hc
   rw [if_neg (by omega),if_neg (by omega),if_pos h6]at hc
   exact hc
  obtain ⟨hb1,hb2⟩:=bnds_ok (set_ok hs2).2
  have hb3:r.lo≠0:=fun e=>by
   unfold setE at hs2
   rw [e]at hs2
   simp at hs2
  have hb4:r.lo≤r.hi:=by
   have:=(set_ok hs2).2
   unfold boundsE at this
   split at this
   ·exact absurd this (by decide)
   ·split at this
    ·exact absurd this (by decide)
    ·omega
  obtain ⟨q1,q2,q3⟩:=sum_one (q:=fun y=>y.2.2.2.1 == r.n) (pool.filter p)
  have hS:sumM (setM r.n) (pool.filter p)=sumM (fun y=>oneI (y.2.2.2.1 == r.n)) (pool.filter p):=rfl
  rw [hS]
  have d1:=dot_set (setM r.n) p pool vars j ys (-(min r.hi 1000000)) _ hj hv
  have d2:=dot_set (setM r.n) p pool vars j ys (-(min r.lo 1000000)) _ hj hv
  rw [hS]at d1 d2
  have hany:(pool.any fun y=>y.2.2.2.1 == r.n && p y)=true ↔ 0<sumM (fun y=>oneI (y.2.2.2.1 == r.n)) (pool.filter p):=by
   rw [q3,List.any_eq_true]
   constructor
   ·rintro ⟨y,hy,h⟩
    obtain ⟨h1,h2⟩:=Bool.and_eq_true_iff.1 h
    exact ⟨y,List.mem_filter.2 ⟨hy,h2⟩,h1⟩
   ·rintro ⟨y,hy,h⟩
    obtain ⟨h1,h2⟩:=List.mem_filter.1 hy
    exact ⟨y,h1,Bool.and_eq_true_iff.2 ⟨h,h2⟩⟩
  generalize sumM (fun y=>oneI (y.2.2.2.1 == r.n)) (pool.filter p)=S at *
  generalize (pool.any fun y=>y.2.2.2.1 == r.n && p y)=b at *
  simp only [List.all_cons,List.all_nil,Bool.and_true]
  refine bool_not ?_
  rw [Bool.and_eq_true,ok_iff,ok_iff,d1,d2]
  unfold outB
  rw [Bool.and_eq_true,bne_iff_ne,Bool.or_eq_true,decide_eq_true_eq,decide_eq_true_eq]
  cases b with
  | true =>
   have hpos:=hany.1 rfl
   have e:oneI true=1:=rfl
   rw [e]
   omega
  | false =>
   have hnp:¬0<S:=fun h=>by have:=hany.2 h;cases this
   have e:oneI false=0:=rfl
   rw [e]
   omega
 rw [if_neg h6]
 by_cases h7:r.k=7
 ·rw [if_pos h7,if_pos h7]
  cases hh:hasE pool r.n with
  | true=>rfl
  | false =>
   simp only [Bool.false_eq_true,if_false,List.all_cons,List.all_nil,Bool.and_true]
   rw [←Bool.not_eq_true,ok_iff,dot_coefs]
   have:sumM (fun _=>0) (pool.filter p)=0:=by
    generalize pool.filter p=L
    induction L with
    | nil=>rfl
    | cons y l ih=>unfold sumM;rw [ih];rfl
   rw [this]
   omega
 rw [if_neg h7,if_neg h7]
 by_cases h8:r.k=8
 ·rw [if_pos h8,if_pos h8]
  cases hb:(hasE pool r.n && namB rs 7 r.n)with
  | false=>rfl
  | true =>
   simp only [if_true,List.all_cons,List.all_nil,Bool.and_true,Bool.not_true,Bool.false_or]
   refine bool_not ?_
   obtain ⟨q1,q2,q3⟩:=sum_one (q:=fun y=>y.1 == r.n) (pool.filter p)
   rw [ok_iff,dot_coefs,has_mem]
   constructor
   ·rintro ⟨_,h⟩ ⟨y,hy,e⟩
    have:=q3.2 ⟨y,hy,by simpa using e⟩
    omega
   ·intro h
    have:¬0<sumM (fun y=>oneI (y.1 == r.n)) (pool.filter p):=fun hp=>by
     obtain ⟨y,hy,e⟩:=q3.1 hp
     exact h ⟨y,hy,by simpa using e⟩
    omega
 rw [if_neg h8,if_neg h8]
 by_cases h9:r.k=9
 ·rw [if_pos h9]
  unfold brkE
  rw [if_neg h6,if_neg h7,if_neg h8,if_pos h9]
  refine bool_not ?_
  rw [rep_iff,List.all_map,List.all_eq_true]
  constructor
  ·rintro h ⟨x,hx⟩
   have hx0:=famx_pos hx
   have hpl:(famL (pool.filter p)).count x≤(famL pool).count x:=by
    have:=fam_mono (p:=p) (q:=fun _=>true) x pool (fun _ _ _=>rfl)
    rwa [List.filter_eq_self.2 (fun _ _=>rfl)]at this
   have hr:=h x ((rep_mem pool x).2 (by omega))
   simp only [Function.comp,famR]at hr
   rw [ok_iff,dot_coefs,fam_sum hx0]at hr
   omega
  ·intro h x hx
   have hx2:=(rep_mem pool x).1 hx
   have hx0:=famx_pos hx2
   simp only [Function.comp,famR]
   rw [ok_iff,dot_coefs,fam_sum hx0]
   have:¬2≤(famL (pool.filter p)).count x:=fun h2=>h ⟨x,h2⟩
   omega
 rw [if_neg h9]
 unfold brkE
 rw [if_neg h6,if_neg h7,if_neg h8,if_neg h9,tot_filter h18 hm]
 simp only [List.all_cons,List.all_nil,Bool.and_true]
 refine bool_not ?_
 rw [ok_iff,dot_coefs]
 unfold outB
 rw [Bool.or_eq_true,decide_eq_true_eq,decide_eq_true_eq]
 omega
theorem rules_rows (h18:pool.length≤18) (hit:∀y∈pool,itE y k=0) (rs:List RuleV) (p:PI→Bool) (vars:Nat):∀(l:List RuleV) (ys:List Int) (j:Nat),(∀r∈l,chkE r=0)→ys.drop j=setsV p pool l→pool.length+ys.length=vars →
  (rulesRows rs pool vars l (pool.length+j)).all (okRow (pool.map (fun y=>oneI (p y)) ++ ys))=l.all (ruleOK rs pool p)
 | [],_,_,_,_,_=>rfl
 | r :: l,ys,j,hc,hd,hv=>by
  unfold rulesRows
  rw [List.all_append,List.all_cons]
  unfold setsV at hd
  by_cases h6:r.k=6
  ·rw [if_pos h6]at hd
   have hj:j<ys.length:=Classical.byContradiction fun hn=>by
    rw [List.drop_eq_nil_of_le (by omega)]at hd
    cases hd
   rw [List.drop_eq_getElem_cons hj]at hd
   injection hd with h1 h2
   rw [if_pos h6,rule_rows h18 hit rs p vars j ys r (hc r (by simp)) (fun _=>⟨by omega,by rw [List.getElem?_eq_getElem hj,h1]⟩),Nat.add_assoc,rules_rows h18 hit rs p vars l ys (j+1) (fun q hq=>hc q (by simp [hq])) h2 hv]
  ·rw [if_neg h6]at hd
   rw [if_neg h6,rule_rows h18 hit rs p vars j ys r (hc r (by simp)) (fun h=>absurd h h6),Nat.add_zero,rules_rows h18 hit rs p vars l ys j (fun q hq=>hc q (by simp [hq])) hd hv]
theorem enm_rows {a b:Int} (hid:idsE pool 0=true) (h18:pool.length≤18) (hab:a≠b) (ha:∃y∈pool,y.1=a) (hb:∃y∈pool,y.1=b) (vars:Nat) (ys:List Int):okRow (pool.map (fun y=>oneI (decide (y.1∈ch))) ++ ys) (enmR pool vars (a,b))=!(decide (a∈ch) && decide (b∈ch)):=by
 have e:sumM (fun y=>oneI (y.1 == a || y.1 == b)) (pool.filter fun y=>decide (y.1∈ch))=sumM (fun y=>oneI (y.1 == a)) (pool.filter fun y=>decide (y.1∈ch))+sumM (fun y=>oneI (y.1 == b)) (pool.filter fun y=>decide (y.1∈ch)):=by
  rw [←sum_add]
  refine sum_congr fun y _=>?_
  by_cases h1:y.1=a
  ·have:(y.1 == b)=false:=by simp;omega
   simp [h1,oneI]
   omega
  ·have:(y.1 == a)=false:=by simpa using h1
   rw [this]
   simp [oneI]
 have one:∀c:Int,(∃y∈pool,y.1=c)→sumM (fun y=>oneI (y.1 == c)) (pool.filter fun y=>decide (y.1∈ch))=oneI (decide (c∈ch)):=fun c ⟨y,hy,hc⟩=>by
  obtain ⟨q1,q2,q3⟩:=sum_one (q:=fun y=>y.1 == c) (pool.filter fun y=>decide (y.1∈ch))
  have q4:=id_once (p:=fun y=>decide (y.1∈ch)) (a:=c) hid
  by_cases h:c∈ch
  ·have:=q3.2 ⟨y,List.mem_filter.2 ⟨hy,by rw [hc];simpa using h⟩,by simpa using hc⟩
   rw [decide_eq_true h]
   have e1:oneI true=1:=rfl
   omega
  ·have:¬0<sumM (fun y=>oneI (y.1 == c)) (pool.filter fun y=>decide (y.1∈ch)):=fun hp=>by
    obtain ⟨z,hz,hz2⟩:=q3.1 hp
    have hz3:=of_decide_eq_true (List.mem_filter.1 hz).2
    have:z.1=c:=by simpa using hz2
    rw [this]at hz3
    exact h hz3
   rw [decide_eq_false h]
   have e1:oneI false=0:=rfl
   omega
 refine bool_not ?_
 unfold enmR
 rw [ok_iff,dot_coefs,e,one a ha,one b hb,Bool.and_eq_true]
 have e0:oneI false=0:=rfl
 have e1:oneI true=1:=rfl
 cases decide (a∈ch) <;> cases decide (b∈ch) <;> simp [e0,e1]
theorem sum_len (l:List PI):sumM (fun _=>1) l=(l.length:Nat):=by
 induction l with
 | nil=>rfl
 | cons y l ih=>unfold sumM;rw [ih,List.length_cons];omega
theorem cons_ok (n:Int) (rs:List RuleV) (l:List (Int × Int)) (h18:pool.length≤18) (hid:idsE pool 0=true) (hit:∀y∈pool,itE y k=0) (hr:∀r∈rs,chkE r=0) (hch:∀c∈ch,∃y∈pool,y.1=c):(consE n rs pool (varsE rs pool) pool.length l).all (okRow (asgE (fun y=>decide (y.1∈ch)) pool rs))=true ↔ ((pool.filter fun y=>decide (y.1∈ch)).length:Int)=n∧conflE l ch=[]∧rs.all (ruleOK rs pool fun y=>decide (y.1∈ch))=true:=by
 unfold consE asgE
 rw [List.all_cons,List.all_append,Bool.and_eq_true,Bool.and_eq_true,ok_iff,dot_coefs,sum_len]
 have hrr:=rules_rows h18 hit rs (fun y=>decide (y.1∈ch)) (varsE rs pool) rs (setsV (fun y=>decide (y.1∈ch)) pool rs) 0 hr (by simp) (by rw [setsV_len];rfl)
 rw [Nat.add_zero]at hrr
 rw [hrr]
 have hcf:((conflE l (pool.map (·.1))).map (enmR pool (varsE rs pool))).all (okRow (pool.map (fun y=>oneI (decide (y.1∈ch))) ++ setsV (fun y=>decide (y.1∈ch)) pool rs))=true ↔ conflE l ch=[]:=by
  have mem:∀c,c∈pool.map (·.1) ↔ ∃y∈pool,y.1=c:=fun c=>by simp
  rw [List.all_map,List.all_eq_true]
  constructor
  ·intro h
   unfold conflE
   rw [List.filter_eq_nil_iff]
   rintro ⟨a,b⟩ hx hab
   obtain ⟨h1,h2⟩:=Bool.and_eq_true_iff.1 hab
   have h1':=of_decide_eq_true h1
   have h2':=of_decide_eq_true h2
   have ha:=hch _ h1'
   have hb:=hch _ h2'
   have:=h (a,b) (List.mem_filter.2 ⟨hx,Bool.and_eq_true_iff.2 ⟨decide_eq_true ((mem a).2 ha),decide_eq_true ((mem b).2 hb)⟩⟩)
   simp only [Function.comp]at this
   rw [enm_rows hid h18 (norm_ne hx) ha hb]at this
   rw [decide_eq_true h1',decide_eq_true h2']at this
   cases this
  ·rintro h ⟨a,b⟩ hx
   unfold conflE at hx
   obtain ⟨hx1,hx2⟩:=List.mem_filter.1 hx
   obtain ⟨h1,h2⟩:=Bool.and_eq_true_iff.1 hx2
   have ha:=(mem a).1 (of_decide_eq_true h1)
   have hb:=(mem b).1 (of_decide_eq_true h2)
   simp only [Function.comp]
   rw [enm_rows hid h18 (norm_ne hx1) ha hb]
   unfold conflE at h
   rw [List.filter_eq_nil_iff]at h
   have:=h (a,b) hx1
   cases q1:decide (a∈ch)with
   | false=>rfl
   | true =>
    cases q2:decide (b∈ch)with
    | false=>rfl
    | true=>exact absurd (by dsimp only;rw [q1,q2];rfl) this
 rw [hcf]
 constructor
 ·rintro ⟨⟨h1,h2⟩,h3,h4⟩
  exact ⟨by omega,h4,h3⟩
 ·rintro ⟨h1,h2,h3⟩
  exact ⟨⟨by omega,by omega⟩,h3,h2⟩
theorem fix_rules (rs:List RuleV) (hr:∀r∈rs,demOk r=true):(okFix (fixE rs pool (varsE rs pool)) (asgE (fun y=>decide (y.1∈ch)) pool rs)=true∧rs.all (ruleOK rs pool fun y=>decide (y.1∈ch))=true) ↔ ∀r∈rs,brkE r (pool.filter fun y=>decide (y.1∈ch))=false:=by
 unfold fixE asgE
 rw [fix_app _ _ _ _ (by simp),fix_neg,Bool.and_true,fix_pool,List.all_eq_true,List.all_eq_true]
 have b7:∀r:RuleV,r.k=7→∀L,brkE r L=!(hasE L r.n):=fun r h L=>by unfold brkE;rw [if_neg (by omega),if_pos h]
 have b8:∀r:RuleV,r.k=8→∀L,brkE r L=hasE L r.n:=fun r h L=>by unfold brkE;rw [if_neg (by omega),if_neg (by omega),if_pos h]
 have inn:∀n,hasE (pool.filter fun y=>decide (y.1∈ch)) n=true ↔ (∃y∈pool,y.1=n)∧n∈ch:=fun n=>by
  rw [has_mem]
  constructor
  ·rintro ⟨y,hy,rfl⟩
   obtain ⟨h1,h2⟩:=List.mem_filter.1 hy
   exact ⟨⟨y,h1,rfl⟩,of_decide_eq_true h2⟩
  ·rintro ⟨⟨y,hy,rfl⟩,h⟩
   exact ⟨y,List.mem_filter.2 ⟨hy,decide_eq_true h⟩,rfl⟩
 constructor
 ·rintro ⟨hf,ho⟩ r hrm
  have o:=ho r hrm
  unfold ruleOK at o
  by_cases h7:r.k=7
  ·rw [if_pos h7]at o
   rw [b7 r h7]
   obtain ⟨y,hy,e⟩:=(has_mem _ _).1 o
   have f:=hf y hy
   have n7:namB rs 7 y.1=true:=(nam_mem _ _ _).2 ⟨r,hrm,h7,e.symm⟩
   unfold fix1 at f
   rw [if_pos n7]at f
   have hm:y.1∈ch:=Classical.byContradiction fun hn=>by
    rw [decide_eq_false hn]at f
    exact absurd f (by decide)
   rw [e]at hm
   rw [(inn r.n).2 ⟨⟨y,hy,e⟩,hm⟩]
   rfl
  rw [if_neg h7]at o
  by_cases h8:r.k=8
  ·rw [if_pos h8]at o
   rw [b8 r h8]
   cases hh:hasE (pool.filter fun y=>decide (y.1∈ch)) r.n with
   | false=>rfl
   | true =>
    rw [hh]at o
    obtain ⟨⟨y,hy,e⟩,hm⟩:=(inn r.n).1 hh
    have hpn:hasE pool r.n=true:=(has_mem _ _).2 ⟨y,hy,e⟩
    cases hn:namB rs 7 r.n with
    | true=>rw [hpn,hn]at o;cases o
    | false =>
     have f:=hf y hy
     have n8:namB rs 8 y.1=true:=(nam_mem _ _ _).2 ⟨r,hrm,h8,e.symm⟩
     have n7:namB rs 7 y.1=false:=by rw [e];exact hn
     unfold fix1 at f
     rw [n7,n8,if_neg (by simp),if_pos rfl,e,decide_eq_true hm]at f
     exact absurd f (by decide)
  ·rw [if_neg h8]at o
   simpa using o
 ·intro h
  constructor
  ·intro y hy
   unfold fix1
   by_cases n7:namB rs 7 y.1=true
   ·rw [if_pos n7]
    obtain ⟨r,hrm,h7,e⟩:=(nam_mem _ _ _).1 n7
    have:=h r hrm
    rw [b7 r h7]at this
    have this:hasE (pool.filter fun y=>decide (y.1∈ch)) r.n=true:=by simpa using this
    have hm:=((inn r.n).1 this).2
    rw [e]at hm
    rw [decide_eq_true hm]
    rfl
   ·rw [if_neg n7]
    by_cases n8:namB rs 8 y.1=true
    ·rw [if_pos n8]
     obtain ⟨r,hrm,h8,e⟩:=(nam_mem _ _ _).1 n8
     have:=h r hrm
     rw [b8 r h8,←Bool.not_eq_true,inn]at this
     have hm:¬y.1∈ch:=fun hm=>this ⟨⟨y,hy,e.symm⟩,by rw [e];exact hm⟩
     rw [decide_eq_false hm]
     rfl
    ·rw [if_neg n8]
     rfl
  ·intro r hrm
   have b:=h r hrm
   unfold ruleOK
   by_cases h7:r.k=7
   ·rw [if_pos h7]
    rw [b7 r h7]at b
    have b:hasE (pool.filter fun y=>decide (y.1∈ch)) r.n=true:=by simpa using b
    exact (has_mem _ _).2 ((inn r.n).1 b).1
   rw [if_neg h7]
   by_cases h8:r.k=8
   ·rw [if_pos h8]
    rw [b8 r h8]at b
    rw [b,Bool.not_false,Bool.or_true]
   ·rw [if_neg h8,b]
    rfl
end
theorem idxs_nil:∀(l:List Bool) (i:Nat),idxs l i=[] ↔ ∀b∈l,b=false
 | [],_=>by simp [idxs]
 | b :: l,i=>by
  have ih:=idxs_nil l (i+1)
  unfold idxs
  cases b with
  | true=>simp
  | false=>rw [if_neg (by simp),ih];simp
theorem judge_nil (w c:Bool) (fs:List Bool):judgeE w c fs=[] ↔ w=false∧c=false∧∀b∈fs,b=false:=by
 unfold judgeE
 rw [List.append_eq_nil_iff,List.append_eq_nil_iff,idxs_nil]
 cases w <;> cases c <;> simp
theorem rows_law (n:Int) (rs:List RuleV) (pool:List PI) (l:List (Int × Int)) (ch:List Int) (h:(broE n rs pool l ch).2=0):(okFix (fixE rs pool (varsE rs pool)) (asgE (chP ch) pool rs) && (consE n rs pool (varsE rs pool) pool.length l).all (okRow (asgE (chP ch) pool rs)))=(broE n rs pool l ch).1.isEmpty:=by
 obtain ⟨ht,hs⟩:=exd_in (((same_err n rs pool l ch).1).trans h)
 obtain ⟨hsp,hp⟩:=task_in ht
 obtain ⟨hid,hit⟩:=pool_ok hp
 have h18:pool.length≤18:=by
  unfold poolE at hp
  split at hp
  ·exact absurd hp (by decide)
  ·omega
 have hchk:=spec_dem hsp
 obtain ⟨f1,hch⟩:=sel_filter hid hs
 unfold broE
 rw [if_neg (by rw [ht];simp),if_neg (by rw [hs];simp),Bool.eq_iff_iff,List.isEmpty_iff,judge_nil,Bool.and_eq_true]
 rw [cons_ok n rs l h18 hid hit (fun r hr=>(hchk r hr).2) hch]
 have hfr:=fix_rules (pool:=pool) (ch:=ch) rs fun r hr=>(hchk r hr).1
 rw [f1]
 constructor
 ·rintro ⟨a,b,c,d⟩
  refine ⟨by simpa using b,by rw [c];rfl,fun x hx=>?_⟩
  obtain ⟨r,hr,rfl⟩:=List.mem_map.1 hx
  exact hfr.1 ⟨a,d⟩ r hr
 ·rintro ⟨a,b,c⟩
  obtain ⟨q1,q2⟩:=hfr.2 fun r hr=>c _ (List.mem_map.2 ⟨r,hr,rfl⟩)
  exact ⟨q1,by simpa using a,by simpa using b,q2⟩
def posI (pool:List PI) (id:Int):Int:=idxI (fun y=>y.1 == id) pool 0
def prepE (n:Int) (rs:List RuleV) (pool:List PI) (l:List (Int × Int)) (given val:List Int):Int :=
 if probE n rs pool l val≠0 then probE n rs pool l val else if given.any (fun id=>decide (posI pool id<0))=true then 6 else if given.Nodup then 0 else 7
def fixG (pool:List PI):List Int→List Int→Option (List Int)
 | [],f=>some f
 | id :: g,f=>if at0 f (posI pool id).toNat=0 then none else fixG pool g (f.set (posI pool id).toNat 1)
def pickI:List PI→List Int→List Int
 | y :: l,a :: x=>if a=1 then y.1 :: pickI l x else pickI l x
 | _,_=>[]
def solveE (pool:List PI) (v:List Int) (R:List RowP) (f given:List Int):List Int × Int :=
 match fixG pool given f with
 | none=>([],14)
 | some f=>match solB v R f with
  | none=>([],14)
  | some x=>(pickI pool x,0)
def testE (n:Int) (rs:List RuleV) (pool:List PI) (l:List (Int × Int)) (given val:List Int):List Int × Int :=
 if prepE n rs pool l given val≠0 then ([],prepE n rs pool l given val) else
 solveE pool (valE val (varsE rs pool)) (consE n rs pool (varsE rs pool) pool.length l) (fixE rs pool (varsE rs pool)) given
def wmE (pool:List PI) (val:List Int) (id:Int):Int:=if posI pool id<0 then 0 else at0 val (posI pool id).toNat
def cmpF (pool:List PI) (val:List Int) (a b:Int):Int:=orI (cmpI (wmE pool val b) (wmE pool val a)) (cmpI a b)
def ltF (pool:List PI) (val:List Int) (a b:Int):Bool:=decide (wmE pool val b<wmE pool val a∨wmE pool val a=wmE pool val b∧a<b)
theorem cmpF_lt (pool:List PI) (val:List Int) (a b:Int):decide (cmpF pool val a b<0)=ltF pool val a b:=by
 unfold cmpF ltF orI cmpI
 generalize wmE pool val a=x
 generalize wmE pool val b=y
 rw [decide_eq_decide]
 split <;> split <;> (try split) <;> omega
def insF (lt:Int→Int→Bool) (a:Int):List Int→List Int
 | []=>[a]
 | b :: l=>if lt b a then b :: insF lt a l else a :: b :: l
def isrt (lt:Int→Int→Bool):List Int→List Int
 | []=>[]
 | a :: l=>insF lt a (isrt lt l)
def ndp:List Int→List Int
 | []=>[]
 | a :: l=>if a∈l then ndp l else a :: ndp l
def leftE (test given:List Int):List Int:=ndp (test.filter fun id=>!decide (id∈given))
def freeE (pool:List PI) (val test given:List Int):List Int × Int :=
 if val.length≠pool.length then ([],1) else if val.any badV=true then ([],3) else if test.any (fun id=>decide (posI pool id<0))=true then ([],6) else if given.any (fun id=>decide (posI pool id<0))=true then ([],6) else
 (isrt (ltF pool val) (leftE test given),0)
def nextE (n:Int) (rs:List RuleV) (pool:List PI) (l:List (Int × Int)) (given val:List Int):Int × Int :=
 if prepE n rs pool l given val≠0 then (0,prepE n rs pool l given val) else if n≤(given.length:Nat) then (0,21) else
 if (testE n rs pool l given val).2≠0 then (0,(testE n rs pool l given val).2) else
 if (freeE pool val (testE n rs pool l given val).1 given).2≠0 then (0,(freeE pool val (testE n rs pool l given val).1 given).2) else
 match (freeE pool val (testE n rs pool l given val).1 given).1 with
 | []=>(0,14)
 | a :: _=>(a,0)
def wlkE (n:Int) (rs:List RuleV) (pool:List PI) (l:List (Int × Int)):List (List Int)→List Int→List Int × Int
 | [],given=>(given,0)
 | val :: vs,given=>if (nextE n rs pool l given val).2≠0 then ([],(nextE n rs pool l given val).2) else wlkE n rs pool l vs (given ++ [(nextE n rs pool l given val).1])
def walkE (n:Int) (rs:List RuleV) (pool:List PI) (l:List (Int × Int)) (vals:List (List Int)):List Int × Int :=
 if specE n rs≠0 then ([],specE n rs) else if ((vals.length:Nat):Int)≠n then ([],1) else wlkE n rs pool l vals []
section
variable {lt:Int→Int→Bool}
theorem insF_perm (a:Int):∀l:List Int,(insF lt a l).Perm (a :: l)
 | []=>List.Perm.refl _
 | b :: l=>by
  unfold insF
  split
  ·exact ((insF_perm a l).cons b).trans (List.Perm.swap a b l)
  ·exact List.Perm.refl _
theorem isrt_perm:∀l:List Int,(isrt lt l).Perm l
 | []=>List.Perm.refl _
 | a :: l=>(insF_perm a _).trans ((isrt_perm l).cons a)
theorem insF_sorted (ht:∀a b c,lt a b=true→lt b c=true→lt a c=true) (hT:∀a b,lt a b=false→lt b a=false→a=b) (a:Int):∀l:List Int,(∀b∈l,a≠b)→l.Pairwise (fun x y=>lt x y=true)→(insF lt a l).Pairwise fun x y=>lt x y=true
 | [],_,_=>by simp [insF]
 | b :: l,hn,h=>by
  obtain ⟨h1,h2⟩:=List.pairwise_cons.1 h
  unfold insF
  by_cases hb:lt b a=true
  ·rw [if_pos hb]
   refine List.pairwise_cons.2 ⟨fun c hc=>?_,insF_sorted ht hT a l (fun c hc=>hn c (by simp [hc])) h2⟩
   rcases List.mem_cons.1 ((insF_perm a l).mem_iff.1 hc)with rfl|hc
   ·exact hb
   ·exact h1 c hc
  ·rw [if_neg hb]
   have hab:lt a b=true:=by
    cases hc:lt a b with
    | true=>rfl
    | false=>exact absurd (hT a b hc (by simpa using hb)) (hn b (by simp))
   refine List.pairwise_cons.2 ⟨fun c hc=>?_,h⟩
   rcases List.mem_cons.1 hc with rfl|hc
   ·exact hab
   ·exact ht _ _ _ hab (h1 c hc)
theorem isrt_sorted (ht:∀a b c,lt a b=true→lt b c=true→lt a c=true) (hT:∀a b,lt a b=false→lt b a=false→a=b):∀l:List Int,l.Nodup→(isrt lt l).Pairwise fun x y=>lt x y=true
 | [],_=>List.Pairwise.nil
 | a :: l,h=>by
  obtain ⟨h1,h2⟩:=List.nodup_cons.1 h
  exact insF_sorted ht hT a _ (fun b hb e=>h1 (by rw [e];exact (isrt_perm l).mem_iff.1 hb)) (isrt_sorted ht hT l h2)
theorem srt_uniq (hi:∀a,lt a a=false) (ht:∀a b c,lt a b=true→lt b c=true→lt a c=true):∀{a b:List Int},a.Perm b→a.Pairwise (fun x y=>lt x y=true)→b.Pairwise (fun x y=>lt x y=true)→a=b
 | [],b,hp,_,_=>(List.nil_perm.1 hp).symm
 | x :: a,[],hp,_,_=>absurd hp.length_eq (by simp)
 | x :: a,y :: b,hp,h1,h2=>by
  obtain ⟨a1,a2⟩:=List.pairwise_cons.1 h1
  obtain ⟨b1,b2⟩:=List.pairwise_cons.1 h2
  have e:x=y:=by
   have m1:x∈y :: b:=hp.mem_iff.1 (by simp)
   have m2:y∈x :: a:=hp.mem_iff.2 (by simp)
   rcases List.mem_cons.1 m1 with e|m1
   ·exact e
   rcases List.mem_cons.1 m2 with e|m2
   ·exact e.symm
   have:=ht _ _ _ (a1 y m2) (b1 x m1)
   rw [hi]at this
   exact absurd this (by simp)
  subst e
  rw [srt_uniq hi ht (List.Perm.cons_inv hp) a2 b2]
end
theorem ltF_irr (pool:List PI) (val:List Int) (a:Int):ltF pool val a a=false:=by unfold ltF;simp
theorem ltF_trans (pool:List PI) (val:List Int) (a b c:Int) (h1:ltF pool val a b=true) (h2:ltF pool val b c=true):ltF pool val a c=true:=by
 unfold ltF at *
 rw [decide_eq_true_eq]at *
 omega
theorem ltF_tot (pool:List PI) (val:List Int) (a b:Int) (h1:ltF pool val a b=false) (h2:ltF pool val b a=false):a=b:=by
 unfold ltF at *
 rw [decide_eq_false_iff_not]at *
 omega
theorem ndp_mem (x:Int):∀l:List Int,x∈ndp l ↔ x∈l
 | []=>Iff.rfl
 | a :: l=>by
  have ih:=ndp_mem x l
  unfold ndp
  split
  ·rename_i h
   rw [ih,List.mem_cons]
   constructor
   ·exact .inr
   ·rintro (rfl|h2)
    ·exact h
    ·exact h2
  ·rw [List.mem_cons,List.mem_cons,ih]
theorem ndp_nodup:∀l:List Int,(ndp l).Nodup
 | []=>List.nodup_nil
 | a :: l=>by
  unfold ndp
  split
  ·exact ndp_nodup l
  ·rename_i h
   exact List.nodup_cons.2 ⟨fun h2=>h ((ndp_mem a l).1 h2),ndp_nodup l⟩
theorem left_nodup (test given:List Int):(leftE test given).Nodup:=ndp_nodup _
theorem left_mem (test given:List Int) (x:Int):x∈leftE test given ↔ x∈test∧x ∉ given:=by
 unfold leftE
 rw [ndp_mem,List.mem_filter]
 simp
theorem free_uniq {pool:List PI} {val test given m:List Int} (hn:m.Nodup) (hm:∀x,x∈m ↔ x∈test∧x ∉ given):isrt (ltF pool val) m=isrt (ltF pool val) (leftE test given):=by
 have hp:m.Perm (leftE test given):=(List.perm_ext_iff_of_nodup hn (left_nodup _ _)).2 fun x=>by rw [hm,left_mem]
 exact srt_uniq (ltF_irr _ _) (ltF_trans _ _) ((isrt_perm _).trans (hp.trans (isrt_perm _).symm)) (isrt_sorted (ltF_trans _ _) (ltF_tot _ _) _ hn) (isrt_sorted (ltF_trans _ _) (ltF_tot _ _) _ (left_nodup _ _))
theorem solB_some {v:List Int} {R:List RowP} {f x:List Int} (hf:Tri f) (h:solB v R f=some x):IsBest v R f x:=by
 rcases solB_ok v R hf with ⟨h1,_⟩|⟨y,h1,h2⟩
 ·rw [h1]at h;cases h
 ·rw [h1]at h;cases h;exact h2
theorem solB_no {v:List Int} {R:List RowP} {f:List Int} (hf:Tri f) (h:solB v R f=none) (y:List Int):¬Feas R f y:=by
 rcases solB_ok v R hf with ⟨_,h1⟩|⟨y,h1,_⟩
 ·exact h1 y
 ·rw [h1]at h;cases h
theorem fixG_ok (pool:List PI):∀(g f f':List Int),fixG pool g f=some f'→(∀id∈g,(posI pool id).toNat<f.length)→f'.length=f.length∧∀i,(at0 f' i=at0 f i∧∀id∈g,(posI pool id).toNat≠i)∨(at0 f' i=1∧at0 f i≠0∧∃id∈g,(posI pool id).toNat=i)
 | [],f,f',h,_=>by
  injection h with h
  subst h
  exact ⟨rfl,fun i=>.inl ⟨rfl,fun id hid=>absurd hid List.not_mem_nil⟩⟩
 | id :: g,f,f',h,hl=>by
  unfold fixG at h
  split at h
  ·cases h
  rename_i h0
  have hp:=hl id (by simp)
  obtain ⟨h1,h2⟩:=fixG_ok pool g _ f' h fun j hj=>by rw [List.length_set];exact hl j (by simp [hj])
  rw [List.length_set]at h1
  refine ⟨h1,fun i=>?_⟩
  rcases h2 i with ⟨a1,a2⟩|⟨a1,a2,j,hj,a3⟩
  ·rw [at0_set hp]at a1
   by_cases e:i=(posI pool id).toNat
   ·rw [if_pos e]at a1
    exact .inr ⟨a1,by rw [e];exact h0,id,by simp,e.symm⟩
   ·rw [if_neg e]at a1
    refine .inl ⟨a1,fun j hj=>?_⟩
    rcases List.mem_cons.1 hj with rfl|hj
    ·exact fun e2=>e e2.symm
    ·exact a2 j hj
  ·rw [at0_set hp]at a2
   refine .inr ⟨a1,?_,j,by simp [hj],a3⟩
   by_cases e:i=(posI pool id).toNat
   ·rw [e];exact h0
   ·rw [if_neg e]at a2;exact a2
theorem fixG_some (pool:List PI):∀(g f:List Int),(∀id∈g,(posI pool id).toNat<f.length∧at0 f (posI pool id).toNat≠0)→∃f',fixG pool g f=some f'
 | [],f,_=>⟨f,rfl⟩
 | id :: g,f,h=>by
  obtain ⟨h1,h2⟩:=h id (by simp)
  unfold fixG
  rw [if_neg h2]
  refine fixG_some pool g _ fun j hj=>⟨by rw [List.length_set];exact (h j (by simp [hj])).1,?_⟩
  rw [at0_set h1]
  split
  ·decide
  ·exact (h j (by simp [hj])).2
def FeasG (pool:List PI) (R:List RowP) (f g y:List Int):Prop:=Feas R f y∧∀id∈g,at0 y (posI pool id).toNat=1
theorem fixG_tri {pool:List PI} {g f f':List Int} (hf:Tri f) (h:fixG pool g f=some f') (hl:∀id∈g,(posI pool id).toNat<f.length):Tri f':=fun i=>by
 rcases (fixG_ok pool g f f' h hl).2 i with ⟨h1,_⟩|⟨h1,_⟩
 ·rw [h1];exact hf i
 ·rw [h1];exact .inr (.inr rfl)
theorem fixG_feas {pool:List PI} {g f f':List Int} {R:List RowP} (hf:Tri f) (h:fixG pool g f=some f') (hl:∀id∈g,(posI pool id).toNat<f.length) (y:List Int):Feas R f' y ↔ FeasG pool R f g y:=by
 obtain ⟨h1,h2⟩:=fixG_ok pool g f f' h hl
 constructor
 ·intro hy
  have hyl:=hy.len.trans h1
  have hx:=(fix_iff f' y hy.len).1 hy.fix
  refine ⟨⟨hyl,hy.bin,(fix_iff f y hyl).2 fun i hi=>?_,hy.row⟩,fun id hid=>?_⟩
  ·rcases hx i (by omega)with h3|h3
   ·rcases h2 i with ⟨a1,_⟩|⟨a1,_⟩
    ·exact .inl (by omega)
    ·omega
   ·rcases h2 i with ⟨a1,_⟩|⟨a1,a2,_⟩
    ·exact .inr (by omega)
    ·rcases hf i with b|b|b
     ·exact .inl (by omega)
     ·exact absurd b a2
     ·exact .inr (by omega)
  ·rcases h2 (posI pool id).toNat with ⟨_,a2⟩|⟨a1,_⟩
   ·exact absurd rfl (a2 id hid)
   ·rcases hx (posI pool id).toNat (by have:=hl id hid;omega)with h3|h3 <;> omega
 ·rintro ⟨hy,hg⟩
  have hyl:=hy.len.trans h1.symm
  have hx:=(fix_iff f y hy.len).1 hy.fix
  refine ⟨hyl,hy.bin,(fix_iff f' y hyl).2 fun i hi=>?_,hy.row⟩
  rcases h2 i with ⟨a1,_⟩|⟨a1,_,id,hid,rfl⟩
  ·rw [a1];exact hx i (by omega)
  ·rw [a1];exact .inr (hg id hid)
theorem fixG_no {pool:List PI} {g f:List Int} {R:List RowP} (h:fixG pool g f=none) (hl:∀id∈g,(posI pool id).toNat<f.length) (y:List Int):¬FeasG pool R f g y:=by
 rintro ⟨hy,hg⟩
 have hx:=(fix_iff f y hy.len).1 hy.fix
 obtain ⟨f',h1⟩:=fixG_some pool g f fun id hid=>⟨hl id hid,fun h0=>by
  have:=hg id hid
  rcases hx _ (hl id hid)with h3|h3 <;> omega⟩
 rw [h1]at h
 cases h
def BestG (v:List Int) (C:List Int→Prop) (x:List Int):Prop:=C x∧∀z,C z→dotE v z≤dotE v x∧(dotE v z=dotE v x→lexGe x z)
theorem BestG.uniq {v:List Int} {C:List Int→Prop} {y z:List Int} (h1:BestG v C y) (h2:BestG v C z):y=z:=by
 obtain ⟨a1,a2⟩:=h1.2 z h2.1
 obtain ⟨b1,b2⟩:=h2.2 y h1.1
 exact lex_anti (a2 (by omega)) (b2 (by omega))
theorem solveE_spec {pool:List PI} {v:List Int} {R:List RowP} {f g:List Int} (hf:Tri f) (hl:∀id∈g,(posI pool id).toNat<f.length):(solveE pool v R f g=([],14)∧∀y,¬FeasG pool R f g y)∨∃x,solveE pool v R f g=(pickI pool x,0)∧BestG v (FeasG pool R f g) x:=by
 unfold solveE
 cases h:fixG pool g f with
 | none=>exact .inl ⟨rfl,fixG_no h hl⟩
 | some f' =>
  have hf':=fixG_tri hf h hl
  have hy:=fixG_feas (R:=R) hf h hl
  dsimp only
  cases hs:solB v R f' with
  | none=>exact .inl ⟨rfl,fun y hy2=>solB_no hf' hs y ((hy y).2 hy2)⟩
  | some x =>
   obtain ⟨b1,b2⟩:=solB_some hf' hs
   exact .inr ⟨x,rfl,(hy x).1 b1,fun z hz=>b2 z ((hy z).2 hz)⟩
theorem pos_spec {pool:List PI} (id:Int):(posI pool id = -1∧∀y∈pool,y.1≠id)∨∃i,∃hi:i<pool.length,posI pool id=(i:Nat)∧pool[i].1=id:=by
 unfold posI
 rcases idxI_find (fun y:PI=>y.1 == id) pool 0 with ⟨h1,h2⟩|⟨i,hi,h1,h2⟩
 ·refine .inl ⟨h1,fun y hy=>?_⟩
  have:=List.find?_eq_none.1 h2 y hy
  simpa using this
 ·refine .inr ⟨i,hi,by rw [h1,Nat.zero_add],?_⟩
  have:=List.find?_some h2
  simpa using this
theorem ids_inj:∀{pool:List PI} {a:Int},idsE pool a=true→∀i j (hi:i<pool.length) (hj:j<pool.length),i<j→pool[i].1<pool[j].1
 | [],_,_,i,j,hi,_,_=>absurd hi (Nat.not_lt_zero i)
 | y :: l,a,h,0,j+1,hi,hj,_=>by
  obtain ⟨h1,h2⟩:=ids_cons h
  exact ids_lt h2 _ (List.getElem_mem (by simpa using hj))
 | y :: l,a,h,i+1,j+1,hi,hj,hij=>by
  obtain ⟨h1,h2⟩:=ids_cons h
  exact ids_inj h2 i j (by simpa using hi) (by simpa using hj) (by omega)
 | y :: l,a,h,i,0,hi,hj,hij=>absurd hij (Nat.not_lt_zero i)
theorem pos_get {pool:List PI} (hid:idsE pool 0=true) {i:Nat} (hi:i<pool.length):posI pool pool[i].1=(i:Nat):=by
 rcases pos_spec (pool:=pool) pool[i].1 with ⟨_,h⟩|⟨j,hj,h1,h2⟩
 ·exact absurd rfl (h _ (List.getElem_mem hi))
 ·rcases Nat.lt_trichotomy i j with h|h|h
  ·have:=ids_inj hid i j hi hj h;omega
  ·rw [h1,h]
  ·have:=ids_inj hid j i hj hi h;omega
theorem pick_mem (id:Int):∀{pool:List PI} {x:List Int},pool.length≤x.length→(id∈pickI pool x ↔ ∃i,∃hi:i<pool.length,at0 x i=1∧pool[i].1=id)
 | [],x,_=>by
  unfold pickI
  constructor
  ·intro h;exact absurd h List.not_mem_nil
  ·rintro ⟨i,hi,_⟩;exact absurd hi (Nat.not_lt_zero i)
 | y :: l,[],h=>by simp at h
 | y :: l,a :: x,h=>by
  have ih:=pick_mem id (pool:=l) (x:=x) (by simpa using h)
  have e:id∈pickI (y :: l) (a :: x) ↔ (a=1∧y.1=id)∨id∈pickI l x:=by
   conv=>lhs;unfold pickI
   by_cases ha:a=1
   ·rw [if_pos ha,List.mem_cons]
    constructor
    ·rintro (rfl|h)
     ·exact .inl ⟨ha,rfl⟩
     ·exact .inr h
    ·rintro (⟨_,rfl⟩|h)
     ·exact .inl rfl
     ·exact .inr h
   ·rw [if_neg ha]
    constructor
    ·exact .inr
    ·rintro (⟨h,_⟩|h)
     ·exact absurd h ha
     ·exact h
  rw [e,ih]
  constructor
  ·rintro (⟨h1,h2⟩|⟨i,hi,h1,h2⟩)
   ·exact ⟨0,by simp,by simpa [at0]using h1,h2⟩
   ·exact ⟨i+1,by simpa using hi,by simpa [at0]using h1,by simpa using h2⟩
  ·rintro ⟨i,hi,h1,h2⟩
   cases i with
   | zero=>exact .inl ⟨by simpa [at0]using h1,by simpa using h2⟩
   | succ i=>exact .inr ⟨i,by simpa using hi,by simpa [at0]using h1,by simpa using h2⟩
theorem pick_at {pool:List PI} {x:List Int} (hid:idsE pool 0=true) (hx:pool.length≤x.length) (hb:Bin x) {i:Nat} (hi:i<pool.length):at0 x i=oneI (chP (pickI pool x) pool[i]):=by
 have key:pool[i].1∈pickI pool x ↔ at0 x i=1:=by
  rw [pick_mem _ hx]
  constructor
  ·rintro ⟨j,hj,h1,h2⟩
   rcases Nat.lt_trichotomy i j with h|h|h
   ·have:=ids_inj hid i j hi hj h;omega
   ·rw [h];exact h1
   ·have:=ids_inj hid j i hj hi h;omega
  ·exact fun h=>⟨i,hi,h,rfl⟩
 show at0 x i=oneI (decide (pool[i].1∈pickI pool x))
 by_cases h:pool[i].1∈pickI pool x
 ·rw [decide_eq_true h,key.1 h];rfl
 ·rw [decide_eq_false h]
  rcases hb i with h0|h1
  ·rw [h0];rfl
  ·exact absurd (key.2 h1) h
theorem pick_split {pool:List PI} {x:List Int} (hid:idsE pool 0=true) (hx:pool.length≤x.length) (hb:Bin x):x=pool.map (fun y=>oneI (chP (pickI pool x) y)) ++ x.drop pool.length:=by
 conv=>lhs;rw [←List.take_append_drop pool.length x]
 congr 1
 refine List.ext_getElem (by simp;omega) fun i h1 h2=>?_
 rw [List.length_map]at h2
 have:=pick_at hid hx hb h2
 rw [List.getElem_take,List.getElem_map,←this,at0,List.getD_eq_getElem?_getD,List.getElem?_eq_getElem (by omega)]
 rfl
theorem pick_filt:∀{pool:List PI} {x:List Int} {p:PI→Bool},x.take pool.length=pool.map (fun y=>oneI (p y))→pickI pool x=(pool.filter p).map (·.1)
 | [],x,p,_=>by unfold pickI;rfl
 | y :: l,[],p,h=>by simp at h
 | y :: l,a :: x,p,h=>by
  rw [List.length_cons,List.take_succ_cons,List.map_cons]at h
  injection h with h1 h2
  unfold pickI
  rw [pick_filt h2,h1]
  cases hp:p y with
  | true=>rw [List.filter_cons_of_pos hp,List.map_cons];rfl
  | false=>rw [List.filter_cons_of_neg (by simp [hp])];rfl
theorem rises_of:∀{pool:List PI} {a:Int} (p:PI→Bool),idsE pool a=true→risesB ((pool.filter p).map (·.1))=true∧∀d∈(pool.filter p).map (·.1),a<d
 | [],_,_,_=>⟨rfl,fun d hd=>absurd hd List.not_mem_nil⟩
 | y :: l,a,p,h=>by
  obtain ⟨h1,h2⟩:=ids_cons h
  obtain ⟨i1,i2⟩:=rises_of p h2
  cases hp:p y with
  | false =>
   rw [List.filter_cons_of_neg (by simp [hp])]
   exact ⟨i1,fun d hd=>by have:=i2 d hd;omega⟩
  | true =>
   rw [List.filter_cons_of_pos hp,List.map_cons]
   refine ⟨?_,fun d hd=>?_⟩
   ·cases hm:(l.filter p).map (·.1)with
    | nil=>rfl
    | cons c cs =>
     rw [hm]at i1 i2
     have:=i2 c (by simp)
     show (decide (y.1<c) && risesB (c :: cs))=true
     rw [i1,decide_eq_true this]
     rfl
   ·rcases List.mem_cons.1 hd with rfl|hd
    ·exact h1
    ·have:=i2 d hd;omega
theorem rules_sets {pool:List PI} {k:Int} (h18:pool.length≤18) (hit:∀y∈pool,itE y k=0) (rs:List RuleV) (p:PI→Bool) (vars:Nat):∀(l:List RuleV) (ys:List Int) (j:Nat),(∀r∈l,chkE r=0)→pool.length+ys.length=vars→(∀i,at0 ys i=0∨at0 ys i=1)→j+setsN l≤ys.length →
  (rulesRows rs pool vars l (pool.length+j)).all (okRow (pool.map (fun y=>oneI (p y)) ++ ys))=true→l.all (ruleOK rs pool p)=true
 | [],_,_,_,_,_,_,_=>rfl
 | r :: l,ys,j,hc,hv,hb,hn,h=>by
  unfold rulesRows at h
  rw [List.all_append,Bool.and_eq_true]at h
  obtain ⟨h1,h2⟩:=h
  rw [List.all_cons,Bool.and_eq_true]
  have hcr:=hc r (by simp)
  have hcl:∀q∈l,chkE q=0:=fun q hq=>hc q (by simp [hq])
  unfold setsN at hn
  by_cases h6:r.k=6
  ·rw [if_pos h6]at hn h2
   rw [Nat.add_assoc]at h2
   refine ⟨?_,rules_sets h18 hit rs p vars l ys (j+1) hcl hv hb (by omega) h2⟩
   have hj:j<ys.length:=by omega
   obtain ⟨v,hvv⟩:∃v,v=oneI (pool.any fun y=>y.2.2.2.1 == r.n && p y):=⟨_,rfl⟩
   have hy1:(ys.set j v)[j]? = some v:=by rw [List.getElem?_set_self hj]
   rw [←rule_rows h18 hit rs p vars j (ys.set j v) r hcr fun _=>⟨by omega,by rw [hy1,hvv]⟩]
   have hys:ys[j]? = some (at0 ys j):=by rw [at0,List.getD_eq_getElem?_getD,List.getElem?_eq_getElem hj];rfl
   unfold rowE1 at h1 ⊢
   rw [if_pos h6]at h1 ⊢
   simp only [List.all_cons,List.all_nil,Bool.and_true,Bool.and_eq_true]at h1 ⊢
   rw [ok_iff,ok_iff,dot_set _ p pool vars j ys _ _ (by omega) hys,dot_set _ p pool vars j ys _ _ (by omega) hys]at h1
   rw [ok_iff,ok_iff,dot_set _ p pool vars j _ _ _ (by omega) hy1,dot_set _ p pool vars j _ _ _ (by omega) hy1]
   have S:=sum_one (q:=fun y:PI=>y.2.2.2.1 == r.n) (pool.filter p)
   have eS:sumM (setM r.n) (pool.filter p)=sumM (fun y=>oneI (y.2.2.2.1 == r.n)) (pool.filter p):=rfl
   rw [←eS]at S
   obtain ⟨S1,_,S3⟩:=S
   have hv01:(v=1∧0<sumM (setM r.n) (pool.filter p))∨(v=0∧sumM (setM r.n) (pool.filter p)=0):=by
    by_cases h0:0<sumM (setM r.n) (pool.filter p)
    ·refine .inl ⟨?_,h0⟩
     obtain ⟨y,hy,hy2⟩:=S3.1 h0
     obtain ⟨hy3,hy4⟩:=List.mem_filter.1 hy
     have:(pool.any fun y=>y.2.2.2.1 == r.n && p y)=true:=List.any_eq_true.2 ⟨y,hy3,by rw [hy2,hy4];rfl⟩
     rw [hvv,this];rfl
    ·refine .inr ⟨?_,by omega⟩
     have:(pool.any fun y=>y.2.2.2.1 == r.n && p y)=false:=by
      rw [←Bool.not_eq_true,List.any_eq_true]
      rintro ⟨y,hy3,hy5⟩
      obtain ⟨hy2,hy4⟩:=Bool.and_eq_true_iff.1 hy5
      exact h0 (S3.2 ⟨y,List.mem_filter.2 ⟨hy3,hy4⟩,hy2⟩)
     rw [hvv,this];rfl
   generalize sumM (setM r.n) (pool.filter p)=s at *
   rcases hv01 with ⟨rfl,h0⟩|⟨rfl,rfl⟩
   ·rcases hb j with e|e
    ·rw [e]at h1;omega
    ·rw [e]at h1;exact h1
   ·constructor <;> constructor <;> omega
  ·rw [if_neg h6]at hn h2
   rw [Nat.add_zero]at h2
   refine ⟨?_,rules_sets h18 hit rs p vars l ys j hcl hv hb (by omega) h2⟩
   rw [←rule_rows h18 hit rs p vars j ys r hcr fun h=>absurd h h6]
   exact h1
theorem prob_len {n:Int} {rs:List RuleV} {pool:List PI} {l:List (Int × Int)} {val:List Int} (h:probE n rs pool l val=0):taskE n rs pool l=0∧varsE rs pool≤24∧(consE n rs pool (varsE rs pool) pool.length l).length≤60∧val.length=pool.length:=by
 unfold probE at h
 by_cases h1:taskE n rs pool l=0
 case neg=>rw [if_pos h1]at h;exact absurd h h1
 rw [if_neg (by simp [h1])]at h
 by_cases h2:val.length=pool.length
 case neg=>rw [if_pos h2]at h;exact absurd h (by decide)
 rw [if_neg (by simp [h2])]at h
 by_cases h3:val.any badV=true
 ·rw [if_pos h3]at h;exact absurd h (by decide)
 rw [if_neg h3]at h
 by_cases h4:24<varsE rs pool∨60<(consE n rs pool (varsE rs pool) pool.length l).length
 ·rw [if_pos h4]at h;exact absurd h (by decide)
 ·exact ⟨h1,by omega,by omega,h2⟩
def GoodRow (vars:Nat) (r:RowP):Prop:=r.1.length=vars∧∀c∈r.1,-1000000≤c∧c≤1000000
theorem coefs_good {m:PI→Int} {pool:List PI} {vars:Nat} (hp:pool.length≤vars) (hm:∀y∈pool,0≤m y∧m y≤2000) (lo hi:Int):GoodRow vars (coefs m pool vars,lo,hi):=by
 refine ⟨by unfold coefs;simp;omega,fun c hc=>?_⟩
 unfold coefs at hc
 rcases List.mem_append.1 hc with hc|hc
 ·obtain ⟨y,hy,rfl⟩:=List.mem_map.1 hc
  have:=hm y hy
  omega
 ·obtain rfl:=(List.mem_replicate.1 hc).2
  omega
theorem set_good {vars:Nat} {r:List Int} {lo hi:Int} (h:GoodRow vars (r,lo,hi)) (s:Nat) (c:Int) (hc:-1000000≤c∧c≤1000000) (lo' hi':Int):GoodRow vars (r.set s c,lo',hi') :=
 ⟨by rw [List.length_set];exact h.1,fun d hd=>by
  rcases List.mem_or_eq_of_mem_set hd with hd|rfl
  ·exact h.2 d hd
  ·exact hc⟩
theorem rowE1_good {r:RuleV} {rs:List RuleV} {pool:List PI} {vars s:Nat} {k:Int} (hp:pool.length≤vars) (hit:∀y∈pool,itE y k=0) (hc:chkE r=0):∀q∈rowE1 r rs pool vars s,GoodRow vars q:=by
 intro q hq
 unfold rowE1 at hq
 by_cases h6:r.k=6
 ·rw [if_pos h6]at hq
  have hs:setE r.lo r.hi r.n=0:=by
   unfold chkE at hc
   rw [if_neg (by omega),if_neg (by omega),if_pos h6]at hc
   exact hc
  have hb:=bnds_ok (set_ok hs).2
  have hg:=coefs_good (vars:=vars) hp (fun y _=>set_rng r.n y) 0 0
  rcases List.mem_cons.1 hq with rfl|hq
  ·exact set_good hg _ _ (by omega) _ _
  ·obtain rfl:=List.mem_singleton.1 hq
   exact set_good hg _ _ (by omega) _ _
 rw [if_neg h6]at hq
 by_cases h7:r.k=7
 ·rw [if_pos h7]at hq
  split at hq
  ·exact absurd hq List.not_mem_nil
  ·obtain rfl:=List.mem_singleton.1 hq
   exact coefs_good hp (fun y _=>⟨Int.le_refl _,by omega⟩) _ _
 rw [if_neg h7]at hq
 by_cases h8:r.k=8
 ·rw [if_pos h8]at hq
  split at hq
  ·obtain rfl:=List.mem_singleton.1 hq
   exact coefs_good hp (fun y _=>one_rng _) _ _
  ·exact absurd hq List.not_mem_nil
 rw [if_neg h8]at hq
 by_cases h9:r.k=9
 ·rw [if_pos h9]at hq
  obtain ⟨f,_,rfl⟩:=List.mem_map.1 hq
  exact coefs_good hp (fun y _=>one_rng _) _ _
 rw [if_neg h9]at hq
 obtain rfl:=List.mem_singleton.1 hq
 exact coefs_good hp (fun y hy=>msr_rng (hit y hy) r) _ _
theorem rulesRows_good {rs:List RuleV} {pool:List PI} {vars:Nat} {k:Int} (hp:pool.length≤vars) (hit:∀y∈pool,itE y k=0):∀(l:List RuleV) (s:Nat),(∀r∈l,chkE r=0)→∀q∈rulesRows rs pool vars l s,GoodRow vars q
 | [],_,_,q,hq=>absurd hq List.not_mem_nil
 | r :: l,s,hc,q,hq=>by
  unfold rulesRows at hq
  rcases List.mem_append.1 hq with hq|hq
  ·exact rowE1_good hp hit (hc r (by simp)) q hq
  ·exact rulesRows_good hp hit l _ (fun r hr=>hc r (by simp [hr])) q hq
theorem cons_good {n:Int} {rs:List RuleV} {pool:List PI} {l:List (Int × Int)} (h:taskE n rs pool l=0):∀q∈consE n rs pool (varsE rs pool) pool.length l,GoodRow (varsE rs pool) q:=by
 obtain ⟨hsp,hp⟩:=task_in h
 obtain ⟨hid,hit⟩:=pool_ok hp
 have hchk:=spec_dem hsp
 have hpv:pool.length≤varsE rs pool:=by unfold varsE;omega
 intro q hq
 unfold consE at hq
 rcases List.mem_cons.1 hq with rfl|hq
 ·exact coefs_good hpv (fun _ _=>⟨by omega,by omega⟩) _ _
 rcases List.mem_append.1 hq with hq|hq
 ·exact rulesRows_good hpv hit rs _ (fun r hr=>(hchk r hr).2) q hq
 ·obtain ⟨p,_,rfl⟩:=List.mem_map.1 hq
  exact coefs_good hpv (fun y _=>one_rng _) _ _
end Go.Proofs.YtmekiphpjpblpaaGreat
