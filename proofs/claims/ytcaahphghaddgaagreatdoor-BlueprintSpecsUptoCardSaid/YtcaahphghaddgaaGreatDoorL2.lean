import Derived.Test.YtcaahphghaddgaaGreatDoorL1
import Derived.Lib.ItoaLen
import Derived.Laws.StructEq
import Derived.WideLaws
/- Texts merged: WhD WhE WhF Wu1 Wu2 Wu3 Wu4 ZS ZT Wu5 Wu6 KQ KT KH Qd Qf. -/
set_option linter.unusedSimpArgs false
set_option linter.unusedVariables false
namespace Go.Proofs.YtcaahphghaddgaaGreatDoor
open Go.RowKit Lim
theorem joinTail_len (p:List UInt8) (m:Nat):∀L:List (List UInt8),(∀x∈L,x.length≤m)→(Lib.joinTail p L).length≤L.length*(m+p.length)
 | [],_=>by simp [Lib.joinTail]
 | x :: r,h=>by
  have h1:=joinTail_len p m r fun y hy=>h y (by simp [hy])
  have h2:=h x (by simp)
  have e:Lib.joinTail p (x :: r)=p ++ x ++ Lib.joinTail p r:=by simp [Lib.joinTail]
  rw [e,List.length_append,List.length_append,List.length_cons,Nat.succ_mul]
  omega
theorem join_len (p:List UInt8) (m:Nat) (L:List (List UInt8)) (h:∀x∈L,x.length≤m):(Lib.join L p).length≤L.length*(m+p.length):=by
 cases L with
 | nil=>simp [Lib.join_nil]
 | cons x r =>
  have h1:=joinTail_len p m r fun y hy=>h y (by simp [hy])
  have h2:=h x (by simp)
  rw [Lib.join_cons,List.length_append,List.length_cons,Nat.succ_mul]
  omega
abbrev in64Z (n:Int):Prop:=-9223372036854775808≤n∧n≤9223372036854775807
theorem textT_len (s:List UInt8) (ns:List Int) (hs:s.length≤2000000) (hl:ns.length≤3) (hn:∀n∈ns,in64Z n):(textT s ns).length≤8000004:=by
 have:=join_len [32] 2000000 (s :: ns.map Lib.itoa) (fun x hx=>by
  rcases List.mem_cons.1 hx with rfl|hx
  ·exact hs
  ·obtain ⟨n,hn',rfl⟩:=List.mem_map.1 hx
   exact Nat.le_trans (Lib.itoa_length_le _ (hn n hn').1 (hn n hn').2) (by omega))
 simp only [List.length_cons,List.length_map,List.length_nil]at this
 unfold textT
 have h2:(ns.length+1)*(2000000+(0+1))≤4*(2000000+(0+1)):=Nat.mul_le_mul_right _ (by omega)
 omega
theorem text_n (s:List UInt8) (ns:List Int) (hs:s.length≤2000000) (hl:ns.length≤3) (hn:∀n∈ns,in64Z n):AT 32 [str s,.sl 1 (ns.map fun n=>i64 n)] (str (textT s ns)) :=
 text_c s ns hn (by omega) (by have:=textT_len s ns hs hl hn;omega)
section
variable (a b n:Int) (c:List UInt8) (g:AV)
theorem line_content (hg:g.one=true) (hl:g.noLimb=true) (ha:in64Z a) (hb:in64Z b) (hc:c.length≤1048576):AT 213 [.agg [i64 a,i64 b,g,str c]] (str (textT ([99,111,110,116,101,110,116,32] ++ c) [a,b])):=by
 have T:AT 32 [str ([99,111,110,116,101,110,116,32] ++ c),.sl 1 [i64 a,i64 b]] _:=text_n ([99,111,110,116,101,110,116,32] ++ c) [a,b] (by simp;omega) (by simp) (fun m hm=>by simp at hm;rcases hm with rfl|rfl <;> assumption)
 have e:(⟨#[99,111,110,116,101,110,116,32]⟩:ByteArray) ++ bs c=bs ([99,111,110,116,101,110,116,32] ++ c):=bs_app _ c
 refine ACalls.of ⟨3,[],[]⟩ (fn:=Tryz.f213) Tryz.func213 rfl rfl rfl (by kernel_rfl) (by kernel_rfl) (Nat.le_of_ble_eq_true rfl) ?_
 simp (maxSteps:=1000000) -implicitDefEqProofs only [hg,hl,e,bs_size,go_sem,awp_seq,Nat.reduceBNe,Nat.reduceBEq,Nat.reduceAdd,Nat.reduceSub,Nat.reduceMul,Nat.reduceLeDiff,Nat.reduceLT,Nat.reduceEqDiff,Nat.reduceBneDiff,Int.reduceLE,Int.reduceLT,Int.reduceToNat,Int.reduceBEq,Int.reduceBNe,Int.reduceAdd,Int.reduceSub,Int.cast_ofNat_Int]
 refine ⟨by show ((8+c.length:Nat):Int)≤_;omega,callA_tt T ?_⟩
 simp (maxSteps:=1000000) -implicitDefEqProofs only [go_sem,awp_seq,Nat.reduceBNe,Nat.reduceBEq,Nat.reduceAdd,Nat.reduceSub,Nat.reduceMul,Nat.reduceLeDiff,Nat.reduceLT,Nat.reduceEqDiff,Nat.reduceBneDiff,Int.reduceLE,Int.reduceLT,Int.reduceToNat,Int.reduceBEq,Int.reduceBNe,Int.reduceAdd,Int.reduceSub,Int.cast_ofNat_Int]
theorem line_words (hg:g.one=true) (hl:g.noLimb=true) (hb:in64Z b):AT 214 [.agg [i64 a,i64 b,g]] (str (textT [119,111,114,100,115] [b])):=by
 have T:AT 32 [str [119,111,114,100,115],.sl 1 [i64 b]] _:=text_n [119,111,114,100,115] [b] (by simp) (by simp) (fun m hm=>by simp at hm;rcases hm with rfl <;> assumption)
 refine ACalls.of ⟨3,[],[]⟩ (fn:=Tryz.f214) Tryz.func214 rfl rfl rfl (by kernel_rfl) (by kernel_rfl) (Nat.le_of_ble_eq_true rfl) ?_
 simp (maxSteps:=1000000) -implicitDefEqProofs only [hg,hl,go_sem,awp_seq,Nat.reduceBNe,Nat.reduceBEq,Nat.reduceAdd,Nat.reduceSub,Nat.reduceMul,Nat.reduceLeDiff,Nat.reduceLT,Nat.reduceEqDiff,Nat.reduceBneDiff,Int.reduceLE,Int.reduceLT,Int.reduceToNat,Int.reduceBEq,Int.reduceBNe,Int.reduceAdd,Int.reduceSub,Int.cast_ofNat_Int]
 refine callA_tt T ?_
 simp (maxSteps:=1000000) -implicitDefEqProofs only [go_sem,awp_seq,Nat.reduceBNe,Nat.reduceBEq,Nat.reduceAdd,Nat.reduceSub,Nat.reduceMul,Nat.reduceLeDiff,Nat.reduceLT,Nat.reduceEqDiff,Nat.reduceBneDiff,Int.reduceLE,Int.reduceLT,Int.reduceToNat,Int.reduceBEq,Int.reduceBNe,Int.reduceAdd,Int.reduceSub,Int.cast_ofNat_Int]
theorem line_seconds (hg:g.one=true) (hl:g.noLimb=true) (hb:in64Z b):AT 215 [.agg [i64 a,i64 b,g]] (str (textT [115,101,99,111,110,100,115] [b])):=by
 have T:AT 32 [str [115,101,99,111,110,100,115],.sl 1 [i64 b]] _:=text_n [115,101,99,111,110,100,115] [b] (by simp) (by simp) (fun m hm=>by simp at hm;rcases hm with rfl <;> assumption)
 refine ACalls.of ⟨3,[],[]⟩ (fn:=Tryz.f215) Tryz.func215 rfl rfl rfl (by kernel_rfl) (by kernel_rfl) (Nat.le_of_ble_eq_true rfl) ?_
 simp (maxSteps:=1000000) -implicitDefEqProofs only [hg,hl,go_sem,awp_seq,Nat.reduceBNe,Nat.reduceBEq,Nat.reduceAdd,Nat.reduceSub,Nat.reduceMul,Nat.reduceLeDiff,Nat.reduceLT,Nat.reduceEqDiff,Nat.reduceBneDiff,Int.reduceLE,Int.reduceLT,Int.reduceToNat,Int.reduceBEq,Int.reduceBNe,Int.reduceAdd,Int.reduceSub,Int.cast_ofNat_Int]
 refine callA_tt T ?_
 simp (maxSteps:=1000000) -implicitDefEqProofs only [go_sem,awp_seq,Nat.reduceBNe,Nat.reduceBEq,Nat.reduceAdd,Nat.reduceSub,Nat.reduceMul,Nat.reduceLeDiff,Nat.reduceLT,Nat.reduceEqDiff,Nat.reduceBneDiff,Int.reduceLE,Int.reduceLT,Int.reduceToNat,Int.reduceBEq,Int.reduceBNe,Int.reduceAdd,Int.reduceSub,Int.cast_ofNat_Int]
theorem line_points (hg:g.one=true) (hl:g.noLimb=true) (ha:in64Z a) (hb:in64Z b):AT 216 [.agg [i64 a,i64 b,g]] (str (textT [112,111,105,110,116,115] [a,b])):=by
 have T:AT 32 [str [112,111,105,110,116,115],.sl 1 [i64 a,i64 b]] _:=text_n [112,111,105,110,116,115] [a,b] (by simp) (by simp) (fun m hm=>by simp at hm;rcases hm with rfl|rfl <;> assumption)
 refine ACalls.of ⟨3,[],[]⟩ (fn:=Tryz.f216) Tryz.func216 rfl rfl rfl (by kernel_rfl) (by kernel_rfl) (Nat.le_of_ble_eq_true rfl) ?_
 simp (maxSteps:=1000000) -implicitDefEqProofs only [hg,hl,go_sem,awp_seq,Nat.reduceBNe,Nat.reduceBEq,Nat.reduceAdd,Nat.reduceSub,Nat.reduceMul,Nat.reduceLeDiff,Nat.reduceLT,Nat.reduceEqDiff,Nat.reduceBneDiff,Int.reduceLE,Int.reduceLT,Int.reduceToNat,Int.reduceBEq,Int.reduceBNe,Int.reduceAdd,Int.reduceSub,Int.cast_ofNat_Int]
 refine callA_tt T ?_
 simp (maxSteps:=1000000) -implicitDefEqProofs only [go_sem,awp_seq,Nat.reduceBNe,Nat.reduceBEq,Nat.reduceAdd,Nat.reduceSub,Nat.reduceMul,Nat.reduceLeDiff,Nat.reduceLT,Nat.reduceEqDiff,Nat.reduceBneDiff,Int.reduceLE,Int.reduceLT,Int.reduceToNat,Int.reduceBEq,Int.reduceBNe,Int.reduceAdd,Int.reduceSub,Int.cast_ofNat_Int]
theorem line_key (hg:g.one=true) (hl:g.noLimb=true) (hn:in64Z n) (ha:in64Z a) (hb:in64Z b):AT 218 [.agg [i64 a,i64 b,g,i64 n]] (str (textT [107,101,121] [n,a,b])):=by
 have T:AT 32 [str [107,101,121],.sl 1 [i64 n,i64 a,i64 b]] _:=text_n [107,101,121] [n,a,b] (by simp) (by simp) (fun m hm=>by simp at hm;rcases hm with rfl|rfl|rfl <;> assumption)
 refine ACalls.of ⟨3,[],[]⟩ (fn:=Tryz.f218) Tryz.func218 rfl rfl rfl (by kernel_rfl) (by kernel_rfl) (Nat.le_of_ble_eq_true rfl) ?_
 simp (maxSteps:=1000000) -implicitDefEqProofs only [hg,hl,go_sem,awp_seq,Nat.reduceBNe,Nat.reduceBEq,Nat.reduceAdd,Nat.reduceSub,Nat.reduceMul,Nat.reduceLeDiff,Nat.reduceLT,Nat.reduceEqDiff,Nat.reduceBneDiff,Int.reduceLE,Int.reduceLT,Int.reduceToNat,Int.reduceBEq,Int.reduceBNe,Int.reduceAdd,Int.reduceSub,Int.cast_ofNat_Int]
 refine callA_tt T ?_
 simp (maxSteps:=1000000) -implicitDefEqProofs only [go_sem,awp_seq,Nat.reduceBNe,Nat.reduceBEq,Nat.reduceAdd,Nat.reduceSub,Nat.reduceMul,Nat.reduceLeDiff,Nat.reduceLT,Nat.reduceEqDiff,Nat.reduceBneDiff,Int.reduceLE,Int.reduceLT,Int.reduceToNat,Int.reduceBEq,Int.reduceBNe,Int.reduceAdd,Int.reduceSub,Int.cast_ofNat_Int]
theorem line_set (hn:in64Z n) (ha:in64Z a) (hb:in64Z b):AT 222 [.agg [i64 a,i64 b,i64 n]] (str (textT [115,101,116] [n,a,b])):=by
 have T:AT 32 [str [115,101,116],.sl 1 [i64 n,i64 a,i64 b]] _:=text_n [115,101,116] [n,a,b] (by simp) (by simp) (fun m hm=>by simp at hm;rcases hm with rfl|rfl|rfl <;> assumption)
 refine ACalls.of ⟨3,[],[]⟩ (fn:=Tryz.f222) Tryz.func222 rfl rfl rfl (by kernel_rfl) (by kernel_rfl) (Nat.le_of_ble_eq_true rfl) ?_
 simp (maxSteps:=1000000) -implicitDefEqProofs only [go_sem,awp_seq,Nat.reduceBNe,Nat.reduceBEq,Nat.reduceAdd,Nat.reduceSub,Nat.reduceMul,Nat.reduceLeDiff,Nat.reduceLT,Nat.reduceEqDiff,Nat.reduceBneDiff,Int.reduceLE,Int.reduceLT,Int.reduceToNat,Int.reduceBEq,Int.reduceBNe,Int.reduceAdd,Int.reduceSub,Int.cast_ofNat_Int]
 refine callA_tt T ?_
 simp (maxSteps:=1000000) -implicitDefEqProofs only [go_sem,awp_seq,Nat.reduceBNe,Nat.reduceBEq,Nat.reduceAdd,Nat.reduceSub,Nat.reduceMul,Nat.reduceLeDiff,Nat.reduceLT,Nat.reduceEqDiff,Nat.reduceBneDiff,Int.reduceLE,Int.reduceLT,Int.reduceToNat,Int.reduceBEq,Int.reduceBNe,Int.reduceAdd,Int.reduceSub,Int.cast_ofNat_Int]
theorem line_include (hn:in64Z n):AT 228 [.agg [i64 n]] (str (textT [105,110,99,108,117,100,101] [n])):=by
 have T:AT 32 [str [105,110,99,108,117,100,101],.sl 1 [i64 n]] _:=text_n [105,110,99,108,117,100,101] [n] (by simp) (by simp) (fun m hm=>by simp at hm;rcases hm with rfl <;> assumption)
 refine ACalls.of ⟨3,[],[]⟩ (fn:=Tryz.f228) Tryz.func228 rfl rfl rfl (by kernel_rfl) (by kernel_rfl) (Nat.le_of_ble_eq_true rfl) ?_
 simp (maxSteps:=1000000) -implicitDefEqProofs only [go_sem,awp_seq,Nat.reduceBNe,Nat.reduceBEq,Nat.reduceAdd,Nat.reduceSub,Nat.reduceMul,Nat.reduceLeDiff,Nat.reduceLT,Nat.reduceEqDiff,Nat.reduceBneDiff,Int.reduceLE,Int.reduceLT,Int.reduceToNat,Int.reduceBEq,Int.reduceBNe,Int.reduceAdd,Int.reduceSub,Int.cast_ofNat_Int]
 refine callA_tt T ?_
 simp (maxSteps:=1000000) -implicitDefEqProofs only [go_sem,awp_seq,Nat.reduceBNe,Nat.reduceBEq,Nat.reduceAdd,Nat.reduceSub,Nat.reduceMul,Nat.reduceLeDiff,Nat.reduceLT,Nat.reduceEqDiff,Nat.reduceBneDiff,Int.reduceLE,Int.reduceLT,Int.reduceToNat,Int.reduceBEq,Int.reduceBNe,Int.reduceAdd,Int.reduceSub,Int.cast_ofNat_Int]
theorem line_exclude (hn:in64Z n):AT 237 [.agg [i64 n]] (str (textT [101,120,99,108,117,100,101] [n])):=by
 have T:AT 32 [str [101,120,99,108,117,100,101],.sl 1 [i64 n]] _:=text_n [101,120,99,108,117,100,101] [n] (by simp) (by simp) (fun m hm=>by simp at hm;rcases hm with rfl <;> assumption)
 refine ACalls.of ⟨3,[],[]⟩ (fn:=Tryz.f237) Tryz.func237 rfl rfl rfl (by kernel_rfl) (by kernel_rfl) (Nat.le_of_ble_eq_true rfl) ?_
 simp (maxSteps:=1000000) -implicitDefEqProofs only [go_sem,awp_seq,Nat.reduceBNe,Nat.reduceBEq,Nat.reduceAdd,Nat.reduceSub,Nat.reduceMul,Nat.reduceLeDiff,Nat.reduceLT,Nat.reduceEqDiff,Nat.reduceBneDiff,Int.reduceLE,Int.reduceLT,Int.reduceToNat,Int.reduceBEq,Int.reduceBNe,Int.reduceAdd,Int.reduceSub,Int.cast_ofNat_Int]
 refine callA_tt T ?_
 simp (maxSteps:=1000000) -implicitDefEqProofs only [go_sem,awp_seq,Nat.reduceBNe,Nat.reduceBEq,Nat.reduceAdd,Nat.reduceSub,Nat.reduceMul,Nat.reduceLeDiff,Nat.reduceLT,Nat.reduceEqDiff,Nat.reduceBneDiff,Int.reduceLE,Int.reduceLT,Int.reduceToNat,Int.reduceBEq,Int.reduceBNe,Int.reduceAdd,Int.reduceSub,Int.cast_ofNat_Int]
theorem line_families:AT 243 [.agg []] (str (textT [102,97,109,105,108,105,101,115] [])):=by
 have T:AT 32 [str [102,97,109,105,108,105,101,115],.sl 1 []] _:=text_n [102,97,109,105,108,105,101,115] [] (by simp) (by simp) (fun m hm=>by simp at hm)
 refine ACalls.of ⟨3,[],[]⟩ (fn:=Tryz.f243) Tryz.func243 rfl rfl rfl (by kernel_rfl) (by kernel_rfl) (Nat.le_of_ble_eq_true rfl) ?_
 simp (maxSteps:=1000000) -implicitDefEqProofs only [go_sem,awp_seq,Nat.reduceBNe,Nat.reduceBEq,Nat.reduceAdd,Nat.reduceSub,Nat.reduceMul,Nat.reduceLeDiff,Nat.reduceLT,Nat.reduceEqDiff,Nat.reduceBneDiff,Int.reduceLE,Int.reduceLT,Int.reduceToNat,Int.reduceBEq,Int.reduceBNe,Int.reduceAdd,Int.reduceSub,Int.cast_ofNat_Int]
 refine callA_tt T ?_
 simp (maxSteps:=1000000) -implicitDefEqProofs only [go_sem,awp_seq,Nat.reduceBNe,Nat.reduceBEq,Nat.reduceAdd,Nat.reduceSub,Nat.reduceMul,Nat.reduceLeDiff,Nat.reduceLT,Nat.reduceEqDiff,Nat.reduceBneDiff,Int.reduceLE,Int.reduceLT,Int.reduceToNat,Int.reduceBEq,Int.reduceBNe,Int.reduceAdd,Int.reduceSub,Int.cast_ofNat_Int]
end
end Go.Proofs.YtcaahphghaddgaaGreatDoor
set_option linter.unusedSimpArgs false
set_option linter.unusedVariables false
namespace Go.Proofs.YtcaahphghaddgaaGreatDoor
open Go.RowKit Lim
theorem dem_c (r:RuleV):AT 38 [ruleA r] (.tup [demV r,boo (demOk r)]):=by
 by_cases h0:r.k<1∨9<r.k
 ·have e:demOk r=false:=by unfold demOk;repeat rw [if_neg (by omega)]
  have e2:demV r=.lit .nilIface:=by unfold demV;repeat rw [if_neg (by omega)]
  rw [e,e2]
  exact demNone r h0
 have h:r.k=1∨r.k=2∨r.k=3∨r.k=4∨r.k=5∨r.k=6∨r.k=7∨r.k=8∨r.k=9:=by omega
 unfold demV demOk
 rcases h with h|h|h|h|h|h|h|h|h
 ·have D:=dem1 r h
  repeat first|rw [if_pos h]|rw [if_neg (by omega)]
  exact D
 ·have D:=dem2 r h
  repeat first|rw [if_pos h]|rw [if_neg (by omega)]
  exact D
 ·have D:=dem3 r h
  repeat first|rw [if_pos h]|rw [if_neg (by omega)]
  exact D
 ·have D:=dem4 r h
  repeat first|rw [if_pos h]|rw [if_neg (by omega)]
  exact D
 ·have D:=dem5 r h
  repeat first|rw [if_pos h]|rw [if_neg (by omega)]
  exact D
 ·have D:=dem6 r h
  repeat first|rw [if_pos h]|rw [if_neg (by omega)]
  exact D
 ·have D:=dem7 r h
  repeat first|rw [if_pos h]|rw [if_neg (by omega)]
  exact D
 ·have D:=dem8 r h
  repeat first|rw [if_pos h]|rw [if_neg (by omega)]
  exact D
 ·have D:=dem9 r h
  repeat first|rw [if_pos h]|rw [if_neg (by omega)]
  exact D
theorem demands_c (n:Int) (rs:List RuleV) (hl:rs.length≤20) (hok:∀r∈rs,demOk r=true):AT 33 [.agg [i64 n,rulesA rs]] (.sl 1 (rs.map demV)):=by
 have h1:(0:Int)≤(rs.length:Nat):=by omega
 refine ACalls.of ⟨16,[],[]⟩ (fn:=Tryz.f33) Tryz.func33 rfl rfl rfl (by kernel_rfl) (by kernel_rfl) (Nat.le_of_ble_eq_true rfl) ?_
 simp (maxSteps:=1000000) -implicitDefEqProofs only [List.length_map,h1,go_sem,awp_seq,Nat.reduceBNe,Nat.reduceBEq,Nat.reduceAdd,Nat.reduceSub,Nat.reduceMul,Nat.reduceLeDiff,Nat.reduceLT,Nat.reduceEqDiff,Nat.reduceBneDiff,Int.reduceLE,Int.reduceLT,Int.reduceToNat,Int.reduceBEq,Int.reduceBNe,Int.reduceAdd,Int.reduceSub,Int.cast_ofNat_Int]
 refine ⟨by omega,by omega,?_⟩
 have tk:∀k (hk:k<rs.length),(rs.take (k+1)).map demV=(rs.take k).map demV ++ [demV rs[k]]:=fun k hk=>by
  rw [List.take_succ_eq_append_getElem hk,List.map_append]
  rfl
 have one:∀r,(demV r).one=true:=fun r=>by
  unfold demV
  repeat' split
  all_goals rfl
 have nrm:∀r,normA Go.Proofs.YtcaahphghaddgaaGreatDoor.tab 74 (demV r)=demV r:=fun r=>by
  unfold demV
  repeat' split
  all_goals rfl
 have nol:∀r,(demV r).noLimb=true:=fun r=>by
  unfold demV
  repeat' split
  all_goals rfl
 refine loop_mk (α:={k:Nat // k≤rs.length}) (fun k=>[(0,some (.av (.agg [i64 n,rulesA rs]))),(1,some (.ref 1 0)),(2,some (.av (.lit (.slice none 0 0)))),(3,some (bif k.1 == 0 then .osl 11 1 0 0 else .osl 28 1 0 k.1)),(13,some (.av (rulesA rs))),(14,some (.av (i64 (rs.length:Nat)))),(15,some (.av (i64 (k.1:Nat))))]) (fun _=>[(1,[i64 n,rulesA rs])]) (fun k=>bif k.1 == 0 then [(11,.row 74 1 [])] else [(28,.row 74 1 ((rs.take k.1).map demV))]) (fun k=>rs.length-k.1) ⟨0,Nat.zero_le _⟩ ?_ ?_
 ·have b0:((0:Nat) == 0)=true:=rfl
  simp (maxSteps:=1000000) -implicitDefEqProofs only [b0,cond_true,go_sem,awp_seq,Nat.reduceBNe,Nat.reduceBEq,Nat.reduceAdd,Nat.reduceSub,Nat.reduceMul,Nat.reduceLeDiff,Nat.reduceLT,Nat.reduceEqDiff,Nat.reduceBneDiff,Int.reduceLE,Int.reduceLT,Int.reduceToNat,Int.reduceBEq,Int.reduceBNe,Int.reduceAdd,Int.reduceSub,Int.cast_ofNat_Int]
 ·rintro ⟨k,hk⟩
  by_cases hlt:k<rs.length
  ·have g1:decide (((k:Nat):Int)<(rs.length:Nat))=true:=by simp;omega
   have e1:=map_get ruleA rs hlt
   have w1:IntKind.i64.wrap ((k:Int)+1)=((k+1:Nat):Int):=by rw [IntWalk.i64_in _ (by omega)];omega
   have D:=dem_c rs[k]
   rw [hok _ (List.getElem_mem hlt)]at D
   have t1:=tk k hlt
   have o1:=one rs[k]
   have o2:=nrm rs[k]
   have o3:=nol rs[k]
   have o4:=AV.cells_one o1
   have hq:((rs.take k).map demV).length=k:=by rw [List.length_map,List.length_take];omega
   generalize demV rs[k]=d at *
   generalize rs[k]=r at *
   have o5:mkEl 1 [d]=d:=rfl
   cases k with
   | zero =>
    have b0:((0:Nat) == 0)=true:=rfl
    have b1:((0+1:Nat) == 0)=false:=rfl
    have g0:decide ((0:Int)<(rs.length:Nat))=true:=g1
    have w0:IntKind.i64.wrap ((0:Int)+1)=1:=rfl
    have z0:((0:Int)).toNat=0:=rfl
    simp (maxSteps:=1000000) -implicitDefEqProofs only [g0,e1,b0,z0,cond_true,Int.toNat_natCast,Int.natCast_nonneg,Int.le_refl,Int.ofNat_zero,Int.natCast_zero,go_sem,awp_seq,Nat.reduceBNe,Nat.reduceBEq,Nat.reduceAdd,Nat.reduceSub,Nat.reduceMul,Nat.reduceLeDiff,Nat.reduceLT,Nat.reduceEqDiff,Nat.reduceBneDiff,Int.reduceLE,Int.reduceLT,Int.reduceToNat,Int.reduceBEq,Int.reduceBNe,Int.reduceAdd,Int.reduceSub,Int.cast_ofNat_Int]
    refine callA_tt D ?_
    have w3:IntKind.i64.wrap 1=1:=rfl
    have b3:((1:Nat) == 0)=false:=rfl
    have t2:(rs.take 1).map demV=[d]:=by rw [t1,List.take_zero];rfl
    have w4:((1:Nat):Int)=1:=rfl
    simp (maxSteps:=1000000) -implicitDefEqProofs only [o1,o2,o3,o4,o5,w0,w3,List.all_cons,List.all_nil,Bool.and_self,go_sem,awp_seq,Nat.reduceBNe,Nat.reduceBEq,Nat.reduceAdd,Nat.reduceSub,Nat.reduceMul,Nat.reduceLeDiff,Nat.reduceLT,Nat.reduceEqDiff,Nat.reduceBneDiff,Int.reduceLE,Int.reduceLT,Int.reduceToNat,Int.reduceBEq,Int.reduceBNe,Int.reduceAdd,Int.reduceSub,Int.cast_ofNat_Int]
    refine roundK_mk ⟨1,by omega⟩ ?_ (by show rs.length-1<rs.length-0;omega)
    simp (maxSteps:=1000000) -implicitDefEqProofs only [b3,t2,w4,cond_false,go_sem,awp_seq,Nat.reduceBNe,Nat.reduceBEq,Nat.reduceAdd,Nat.reduceSub,Nat.reduceMul,Nat.reduceLeDiff,Nat.reduceLT,Nat.reduceEqDiff,Nat.reduceBneDiff,Int.reduceLE,Int.reduceLT,Int.reduceToNat,Int.reduceBEq,Int.reduceBNe,Int.reduceAdd,Int.reduceSub,Int.cast_ofNat_Int]
   | succ j =>
    have b0:((j+1:Nat) == 0)=false:=rfl
    have b1:((j+1+1:Nat) == 0)=false:=rfl
    simp (maxSteps:=1000000) -implicitDefEqProofs only [g1,e1,b0,cond_false,Int.toNat_natCast,Int.natCast_nonneg,go_sem,awp_seq,Nat.reduceBNe,Nat.reduceBEq,Nat.reduceAdd,Nat.reduceSub,Nat.reduceMul,Nat.reduceLeDiff,Nat.reduceLT,Nat.reduceEqDiff,Nat.reduceBneDiff,Int.reduceLE,Int.reduceLT,Int.reduceToNat,Int.reduceBEq,Int.reduceBNe,Int.reduceAdd,Int.reduceSub,Int.cast_ofNat_Int]
    refine callA_tt D ?_
    simp (maxSteps:=1000000) -implicitDefEqProofs only [o1,o2,o3,o4,o5,w1,hq,List.all_cons,List.all_nil,Bool.and_self,go_sem,awp_seq,Nat.reduceBNe,Nat.reduceBEq,Nat.reduceAdd,Nat.reduceSub,Nat.reduceMul,Nat.reduceLeDiff,Nat.reduceLT,Nat.reduceEqDiff,Nat.reduceBneDiff,Int.reduceLE,Int.reduceLT,Int.reduceToNat,Int.reduceBEq,Int.reduceBNe,Int.reduceAdd,Int.reduceSub,Int.cast_ofNat_Int]
    refine ⟨by omega,by omega,?_⟩
    refine roundK_mk ⟨j+1+1,by omega⟩ ?_ (by show rs.length-(j+1+1)<rs.length-(j+1);omega)
    simp (maxSteps:=1000000) -implicitDefEqProofs only [b1,t1,cond_false,go_sem,awp_seq,Nat.reduceBNe,Nat.reduceBEq,Nat.reduceAdd,Nat.reduceSub,Nat.reduceMul,Nat.reduceLeDiff,Nat.reduceLT,Nat.reduceEqDiff,Nat.reduceBneDiff,Int.reduceLE,Int.reduceLT,Int.reduceToNat,Int.reduceBEq,Int.reduceBNe,Int.reduceAdd,Int.reduceSub,Int.cast_ofNat_Int]
  ·obtain rfl:k=rs.length:=by omega
   have g1:decide (((rs.length:Nat):Int)<(rs.length:Nat))=false:=by simp
   cases hk0:rs.length == 0 with
   | true =>
    have e0:rs=[]:=by simpa using hk0
    subst e0
    simp (maxSteps:=1000000) -implicitDefEqProofs only [List.length_nil,List.map_nil,List.take_nil,cond_true,go_sem,awp_seq,Nat.reduceBNe,Nat.reduceBEq,Nat.reduceAdd,Nat.reduceSub,Nat.reduceMul,Nat.reduceLeDiff,Nat.reduceLT,Nat.reduceEqDiff,Nat.reduceBneDiff,Int.reduceLE,Int.reduceLT,Int.reduceToNat,Int.reduceBEq,Int.reduceBNe,Int.reduceAdd,Int.reduceSub,Int.cast_ofNat_Int]
   | false =>
    have hq:(rs.take rs.length).map demV=rs.map demV:=by rw [List.take_length]
    simp (maxSteps:=1000000) -implicitDefEqProofs only [g1,hq,cond_false,List.length_map,go_sem,awp_seq,Nat.reduceBNe,Nat.reduceBEq,Nat.reduceAdd,Nat.reduceSub,Nat.reduceMul,Nat.reduceLeDiff,Nat.reduceLT,Nat.reduceEqDiff,Nat.reduceBneDiff,Int.reduceLE,Int.reduceLT,Int.reduceToNat,Int.reduceBEq,Int.reduceBNe,Int.reduceAdd,Int.reduceSub,Int.cast_ofNat_Int]
    rw [List.take_of_length_le (by simp)]
end Go.Proofs.YtcaahphghaddgaaGreatDoor
set_option linter.unusedSimpArgs false
set_option linter.unusedVariables false
namespace Go.Proofs.YtcaahphghaddgaaGreatDoor
open Go.RowKit Lim
abbrev lin : String := "examboard/blueprint.line"
section
variable {a b c d:AV}
theorem lmeth_content:Meth Tryz.prog 131 lin (.agg [a,b,c,d]) 213 (.agg [a,b,c,d]):=fun w Z v h=>⟨v,by kernel_rfl,h⟩
theorem lmeth_words:Meth Tryz.prog 133 lin (.agg [a,b,c]) 214 (.agg [a,b,c]):=fun w Z v h=>⟨v,by kernel_rfl,h⟩
theorem lmeth_seconds:Meth Tryz.prog 134 lin (.agg [a,b,c]) 215 (.agg [a,b,c]):=fun w Z v h=>⟨v,by kernel_rfl,h⟩
theorem lmeth_points:Meth Tryz.prog 135 lin (.agg [a,b,c]) 216 (.agg [a,b,c]):=fun w Z v h=>⟨v,by kernel_rfl,h⟩
theorem lmeth_key:Meth Tryz.prog 137 lin (.agg [a,b,c,d]) 218 (.agg [a,b,c,d]):=fun w Z v h=>⟨v,by kernel_rfl,h⟩
theorem lmeth_set:Meth Tryz.prog 139 lin (.agg [a,b,c]) 222 (.agg [a,b,c]):=fun w Z v h=>⟨v,by kernel_rfl,h⟩
theorem lmeth_inc:Meth Tryz.prog 141 lin (.agg [a]) 228 (.agg [a]):=fun w Z v h=>⟨v,by kernel_rfl,h⟩
theorem lmeth_exc:Meth Tryz.prog 142 lin (.agg [a]) 237 (.agg [a]):=fun w Z v h=>⟨v,by kernel_rfl,h⟩
theorem lmeth_fam:Meth Tryz.prog 144 lin (.agg []) 243 (.agg []):=fun w Z v h=>⟨v,by kernel_rfl,h⟩
end
def lineT (r:RuleV):List UInt8 :=
 if r.k=1 then textT ([99,111,110,116,101,110,116,32] ++ r.code) [r.lo,r.hi] else
 if r.k=2 then textT [119,111,114,100,115] [r.hi] else
 if r.k=3 then textT [115,101,99,111,110,100,115] [r.hi] else
 if r.k=4 then textT [112,111,105,110,116,115] [r.lo,r.hi] else
 if r.k=5 then textT [107,101,121] [r.n,r.lo,r.hi] else
 if r.k=6 then textT [115,101,116] [r.n,r.lo,r.hi] else
 if r.k=7 then textT [105,110,99,108,117,100,101] [r.n] else
 if r.k=8 then textT [101,120,99,108,117,100,101] [r.n] else textT [102,97,109,105,108,105,101,115] []
structure RIn (r:RuleV):Prop where
 n:in64Z r.n
 lo:in64Z r.lo
 hi:in64Z r.hi
 code:r.code.length≤1048576
theorem dem_kind {r:RuleV} (h:demOk r=true):r.k=1∨r.k=2∨r.k=3∨r.k=4∨r.k=5∨r.k=6∨r.k=7∨r.k=8∨r.k=9:=by
 by_cases h0:r.k<1∨9<r.k
 ·have e:demOk r=false:=by unfold demOk;repeat rw [if_neg (by omega)]
  rw [e]at h;cases h
 ·omega
theorem lineR_c (r:RuleV) (hr:RIn r) (hk:demOk r=true):∃t a a' f l,demV r=.ifc t a∧some (lineT r)=some l∧Meth Tryz.prog t lin a f a'∧AT f [a'] (str l):=by
 unfold demV lineT
 rcases dem_kind hk with h|h|h|h|h|h|h|h|h
 ·repeat first|rw [if_pos h]|rw [if_neg (by omega)]
  exact ⟨_,_,_,_,_,rfl,rfl,lmeth_content,line_content _ _ _ _ rfl rfl hr.lo hr.hi hr.code⟩
 ·repeat first|rw [if_pos h]|rw [if_neg (by omega)]
  exact ⟨_,_,_,_,_,rfl,rfl,lmeth_words,line_words _ _ _ rfl rfl hr.hi⟩
 ·repeat first|rw [if_pos h]|rw [if_neg (by omega)]
  exact ⟨_,_,_,_,_,rfl,rfl,lmeth_seconds,line_seconds _ _ _ rfl rfl hr.hi⟩
 ·repeat first|rw [if_pos h]|rw [if_neg (by omega)]
  exact ⟨_,_,_,_,_,rfl,rfl,lmeth_points,line_points _ _ _ rfl rfl hr.lo hr.hi⟩
 ·repeat first|rw [if_pos h]|rw [if_neg (by omega)]
  exact ⟨_,_,_,_,_,rfl,rfl,lmeth_key,line_key _ _ _ _ rfl rfl hr.n hr.lo hr.hi⟩
 ·repeat first|rw [if_pos h]|rw [if_neg (by omega)]
  exact ⟨_,_,_,_,_,rfl,rfl,lmeth_set,line_set _ _ _ hr.n hr.lo hr.hi⟩
 ·repeat first|rw [if_pos h]|rw [if_neg (by omega)]
  exact ⟨_,_,_,_,_,rfl,rfl,lmeth_inc,line_include _ hr.n⟩
 ·repeat first|rw [if_pos h]|rw [if_neg (by omega)]
  exact ⟨_,_,_,_,_,rfl,rfl,lmeth_exc,line_exclude _ hr.n⟩
 ·repeat first|rw [if_pos h]|rw [if_neg (by omega)]
  exact ⟨_,_,_,_,_,rfl,rfl,lmeth_fam,line_families⟩
theorem lineT_len (r:RuleV) (hr:RIn r):(lineT r).length≤8000004:=by
 have hn:=hr.n
 have hlo:=hr.lo
 have hhi:=hr.hi
 have hc:=hr.code
 unfold lineT
 repeat' split
 all_goals refine textT_len _ _ (by first|(simp;omega)|simp) (by simp) (fun m hm=>?_)
 all_goals simp at hm
 all_goals first
  | (rcases hm with rfl|rfl|rfl <;> assumption)
  | (rcases hm with rfl|rfl <;> assumption)
  | (subst hm;assumption)
theorem rules_ok:∀{rs:List RuleV},rulesE rs=0→∀r∈rs,demOk r=true
 | [],_,r,hr=>absurd hr List.not_mem_nil
 | x :: rs,h,r,hr=>by
  unfold rulesE at h
  by_cases h1:ruleE x≠0
  ·rw [if_pos h1]at h;exact absurd h h1
  rw [if_neg h1]at h
  rcases List.mem_cons.1 hr with rfl|hr
  ·cases hd:demOk r with
   | true=>rfl
   | false=>rw [chk_no hd]at h1;exact absurd (by decide:(1:Int)≠0) h1
  ·exact rules_ok h r hr
theorem spec_ok {n:Int} {rs:List RuleV} (h:specE n rs=0):rs.length≤20∧∀r∈rs,demOk r=true:=by
 unfold specE at h
 split at h
 ·exact absurd h (by decide)
 ·split at h
  ·exact absurd h (by decide)
  ·exact ⟨by omega,rules_ok h⟩
def specT (n:Int) (rs:List RuleV):List UInt8:=wrt (textT [108,101,110,103,116,104] [n]) (rs.map lineT)
theorem wrt_flat (m:Nat):∀(ls:List (List UInt8)),(∀l∈ls,l.length≤m)→(ls.flatMap fun l=>l ++ [10]).length≤ls.length*(m+1)
 | [],_=>by simp
 | l :: ls,h=>by
  have h1:=wrt_flat m ls fun y hy=>h y (by simp [hy])
  have h2:=h l (by simp)
  have h3:(ls.length+1)*(m+1)=ls.length*(m+1)+(m+1):=Nat.succ_mul _ _
  simp only [List.flatMap_cons,List.length_append,List.length_cons,List.length_nil]
  omega
theorem bprint_c (n:Int) (rs:List RuleV) (hn:in64Z n) (hr:∀r∈rs,RIn r) (h0:specE n rs=0):AT 10 [.agg [i64 n,rulesA rs]] (.tup [str (specT n rs),i64 0]):=by
 obtain ⟨hl,hok⟩:=spec_ok h0
 have V:=bvalid_c n rs
 rw [h0]at V
 have hm:∀m∈[n],in64Z m:=fun m hm=>by simp at hm;subst hm;exact hn
 have T:AT 32 [str [108,101,110,103,116,104],.sl 1 [i64 n]] _:=text_n [108,101,110,103,116,104] [n] (by simp) (by simp) hm
 refine print_c V T (demands_c n rs hl hok) (fun d hd=>?_) (fun i hi=>?_) (by simp) (by simp;omega) ?_
 ·obtain ⟨r,hr1,rfl⟩:=List.mem_map.1 hd
  obtain ⟨t,a,_,_,_,e,_⟩:=lineR_c r (hr r hr1) (hok r hr1)
  rw [e];rfl
 ·have hi':i<rs.length:=by simpa using hi
  obtain ⟨t,a,a',f,l,e1,e2,e3,e4⟩:=lineR_c rs[i] (hr _ (List.getElem_mem hi')) (hok _ (List.getElem_mem hi'))
  exact ⟨t,a,a',f,l,by rw [List.getElem_map];exact e1,by rw [List.getElem?_map,List.getElem?_eq_getElem hi'];exact e2,e3,e4⟩
 ·have h1:=textT_len [108,101,110,103,116,104] [n] (by simp) (by simp) hm
  have h2:=wrt_flat 8000004 (rs.map lineT) (fun l hl=>by obtain ⟨r,hr1,rfl⟩:=List.mem_map.1 hl;exact lineT_len r (hr r hr1))
  have h3:(rs.map lineT).length*(8000004+1)≤20*(8000004+1):=Nat.mul_le_mul_right _ (by simpa using hl)
  unfold wrt
  rw [List.length_append,List.length_append,List.length_singleton]
  omega
theorem bprint_e (n:Int) (rs:List RuleV) (h0:specE n rs≠0):AT 10 [.agg [i64 n,rulesA rs]] (.tup [str [],i64 (specE n rs)]):=by
 have V:=bvalid_c n rs
 have g:(specE n rs != 0)=true:=by simpa using h0
 generalize specE n rs=e at *
 refine ACalls.of ⟨23,[],[]⟩ (fn:=Tryz.f10) Tryz.func10 rfl rfl rfl (by kernel_rfl) (by kernel_rfl) (Nat.le_of_ble_eq_true rfl) ?_
 simp (maxSteps:=1000000) -implicitDefEqProofs only [go_sem,awp_seq,Nat.reduceBNe,Nat.reduceBEq,Nat.reduceAdd,Nat.reduceSub,Nat.reduceMul,Nat.reduceLeDiff,Nat.reduceLT,Nat.reduceEqDiff,Nat.reduceBneDiff,Int.reduceLE,Int.reduceLT,Int.reduceToNat,Int.reduceBEq,Int.reduceBNe,Int.reduceAdd,Int.reduceSub,Int.cast_ofNat_Int]
 refine callA_tt V ?_
 simp (maxSteps:=1000000) -implicitDefEqProofs only [g,go_sem,awp_seq,Nat.reduceBNe,Nat.reduceBEq,Nat.reduceAdd,Nat.reduceSub,Nat.reduceMul,Nat.reduceLeDiff,Nat.reduceLT,Nat.reduceEqDiff,Nat.reduceBneDiff,Int.reduceLE,Int.reduceLT,Int.reduceToNat,Int.reduceBEq,Int.reduceBNe,Int.reduceAdd,Int.reduceSub,Int.cast_ofNat_Int]
 rfl
end Go.Proofs.YtcaahphghaddgaaGreatDoor
set_option linter.unusedSimpArgs false
set_option linter.unusedVariables false
namespace Go.Proofs.YtcaahphghaddgaaGreatDoor
open Go.RowKit Lim
set_option maxHeartbeats 1000000 in
theorem r13_c (s:List UInt8):AT 76 [str s] (boo (r13V s)):=by
 unfold r13V
 cases c1:decide ((24:Int)<(s.length:Nat))with
 | true =>
  refine ACalls.of ⟨7,[],[]⟩ (fn:=Tryz.f76) Tryz.func76 rfl rfl rfl (by kernel_rfl) (by kernel_rfl) (Nat.le_of_ble_eq_true rfl) ?_
  simp (maxSteps:=1000000) -implicitDefEqProofs only [bs_size,c1,go_sem,awp_seq,Nat.reduceBNe,Nat.reduceBEq,Nat.reduceAdd,Nat.reduceSub,Nat.reduceMul,Nat.reduceLeDiff,Nat.reduceLT,Nat.reduceEqDiff,Nat.reduceBneDiff,Int.reduceLE,Int.reduceLT,Int.reduceToNat,Int.reduceBEq,Int.reduceBNe,Int.reduceAdd,Int.reduceSub,Int.cast_ofNat_Int]
 | false =>
  have hs:s.length≤24:=by simp at c1;omega
  obtain ⟨R,hR⟩:∃R,R=r13 s 1 0:=⟨_,rfl⟩
  rw [←hR]
  refine ACalls.of ⟨7,[],[]⟩ (fn:=Tryz.f76) Tryz.func76 rfl rfl rfl (by kernel_rfl) (by kernel_rfl) (Nat.le_of_ble_eq_true rfl) ?_
  simp (maxSteps:=1000000) -implicitDefEqProofs only [bs_size,c1,go_sem,awp_seq,Nat.reduceBNe,Nat.reduceBEq,Nat.reduceAdd,Nat.reduceSub,Nat.reduceMul,Nat.reduceLeDiff,Nat.reduceLT,Nat.reduceEqDiff,Nat.reduceBneDiff,Int.reduceLE,Int.reduceLT,Int.reduceToNat,Int.reduceBEq,Int.reduceBNe,Int.reduceAdd,Int.reduceSub,Int.cast_ofNat_Int]
  refine loop_mk (α:={x:Nat × Nat × Nat // x.1≤s.length∧x.2.1≤x.1+1∧x.2.2≤x.1∧R=r13 (s.drop x.1) x.2.1 x.2.2}) (fun x=>[(0,some (.av (str s))),(2,some (.av (boo false))),(3,some (.av (i64 (x.1.2.1:Nat)))),(4,some (.av (i64 (x.1.2.2:Nat)))),(5,some (.av (i64 (x.1.1:Nat))))]) (fun _=>[]) (fun _=>[]) (fun x=>s.length-x.1.1) ⟨(0,1,0),Nat.zero_le _,by simp,by simp,hR⟩ ?_ ?_
  ·simp (maxSteps:=1000000) -implicitDefEqProofs only [go_sem,awp_seq,Nat.reduceBNe,Nat.reduceBEq,Nat.reduceAdd,Nat.reduceSub,Nat.reduceMul,Nat.reduceLeDiff,Nat.reduceLT,Nat.reduceEqDiff,Nat.reduceBneDiff,Int.reduceLE,Int.reduceLT,Int.reduceToNat,Int.reduceBEq,Int.reduceBNe,Int.reduceAdd,Int.reduceSub,Int.cast_ofNat_Int]
  ·clear hR
   rintro ⟨⟨k,sg,sz⟩,hk,h1,h2,hR⟩
   dsimp only at hk h1 h2 hR
   by_cases hlt:k<s.length
   ·have g1:decide (((k:Nat):Int)<(s.length:Nat))=true:=by simp;omega
    have e1:s[k]? = some s[k]:=List.getElem?_eq_getElem hlt
    have w1:IntKind.i64.wrap ((k:Int)+1)=((k+1:Nat):Int):=by rw [IntWalk.i64_in _ (by omega)];omega
    have w2:IntKind.i64.wrap ((sg:Int)+1)=((sg+1:Nat):Int):=by rw [IntWalk.i64_in _ (by omega)];omega
    have w3:IntKind.i64.wrap ((sz:Int)+1)=((sz+1:Nat):Int):=by rw [IntWalk.i64_in _ (by omega)];omega
    rw [List.drop_eq_getElem_cons hlt]at hR
    generalize s[k]=c at *
    unfold r13 at hR
    by_cases h46:c.toNat=46
    ·have g2:((c.toNat:Int) == 46)=true:=by simp;omega
     rw [if_pos h46]at hR
     by_cases h0:sz=0
     ·have g3:(((sz:Nat):Int) == 0)=true:=by simp;omega
      rw [if_pos h0]at hR
      subst hR
      simp (maxSteps:=1000000) -implicitDefEqProofs only [bs_size,strK_bs,g1,g2,g3,e1,Int.toNat_natCast,Int.natCast_nonneg,go_sem,awp_seq,Nat.reduceBNe,Nat.reduceBEq,Nat.reduceAdd,Nat.reduceSub,Nat.reduceMul,Nat.reduceLeDiff,Nat.reduceLT,Nat.reduceEqDiff,Nat.reduceBneDiff,Int.reduceLE,Int.reduceLT,Int.reduceToNat,Int.reduceBEq,Int.reduceBNe,Int.reduceAdd,Int.reduceSub,Int.cast_ofNat_Int]
     ·have g3:(((sz:Nat):Int) == 0)=false:=by simp;omega
      rw [if_neg h0]at hR
      simp (maxSteps:=1000000) -implicitDefEqProofs only [bs_size,strK_bs,g1,g2,g3,e1,w1,w2,Int.toNat_natCast,Int.natCast_nonneg,go_sem,awp_seq,Nat.reduceBNe,Nat.reduceBEq,Nat.reduceAdd,Nat.reduceSub,Nat.reduceMul,Nat.reduceLeDiff,Nat.reduceLT,Nat.reduceEqDiff,Nat.reduceBneDiff,Int.reduceLE,Int.reduceLT,Int.reduceToNat,Int.reduceBEq,Int.reduceBNe,Int.reduceAdd,Int.reduceSub,Int.cast_ofNat_Int]
      refine roundK_mk ⟨(k+1,sg+1,0),by show k+1≤_;omega,by show sg+1≤k+1+1;omega,by show 0≤k+1;omega,hR⟩ ?_ (by show s.length-(k+1)<s.length-k;omega)
      simp (maxSteps:=1000000) -implicitDefEqProofs only [go_sem,awp_seq,Nat.reduceBNe,Nat.reduceBEq,Nat.reduceAdd,Nat.reduceSub,Nat.reduceMul,Nat.reduceLeDiff,Nat.reduceLT,Nat.reduceEqDiff,Nat.reduceBneDiff,Int.reduceLE,Int.reduceLT,Int.reduceToNat,Int.reduceBEq,Int.reduceBNe,Int.reduceAdd,Int.reduceSub,Int.cast_ofNat_Int]
    ·have g2:((c.toNat:Int) == 46)=false:=by simp;omega
     rw [if_neg h46]at hR
     have fin:okByte c=true→R=(if 8<sz+1 then false else r13 (s.drop (k+1)) sg (sz+1)):=fun h=>by rw [if_neg (by simp [h])]at hR;exact hR
     have bad:okByte c=false→R=false:=fun h=>by rw [if_pos h]at hR;exact hR
     clear hR
     cases b1:decide ((c.toNat:Int)<65)with
     | true =>
      cases b3:decide ((c.toNat:Int)<48)with
      | true =>
       have:=bad (by simp [okByte,b1,b3])
       subst this
       simp (maxSteps:=1000000) -implicitDefEqProofs only [bs_size,strK_bs,g1,g2,e1,b1,b3,Int.toNat_natCast,Int.natCast_nonneg,go_sem,awp_seq,Nat.reduceBNe,Nat.reduceBEq,Nat.reduceAdd,Nat.reduceSub,Nat.reduceMul,Nat.reduceLeDiff,Nat.reduceLT,Nat.reduceEqDiff,Nat.reduceBneDiff,Int.reduceLE,Int.reduceLT,Int.reduceToNat,Int.reduceBEq,Int.reduceBNe,Int.reduceAdd,Int.reduceSub,Int.cast_ofNat_Int]
      | false =>
       cases b4:decide ((57:Int)<c.toNat)with
       | true =>
        have:=bad (by simp [okByte,b1,b4])
        subst this
        simp (maxSteps:=1000000) -implicitDefEqProofs only [bs_size,strK_bs,g1,g2,e1,b1,b3,b4,Int.toNat_natCast,Int.natCast_nonneg,go_sem,awp_seq,Nat.reduceBNe,Nat.reduceBEq,Nat.reduceAdd,Nat.reduceSub,Nat.reduceMul,Nat.reduceLeDiff,Nat.reduceLT,Nat.reduceEqDiff,Nat.reduceBneDiff,Int.reduceLE,Int.reduceLT,Int.reduceToNat,Int.reduceBEq,Int.reduceBNe,Int.reduceAdd,Int.reduceSub,Int.cast_ofNat_Int]
       | false =>
        have hR:=fin (by simp [okByte,b1,b3,b4])
        by_cases h8:8<sz+1
        ·have g8:decide ((8:Int)<((sz+1:Nat):Int))=true:=by simp;omega
         rw [if_pos h8]at hR
         subst hR
         simp (maxSteps:=1000000) -implicitDefEqProofs only [bs_size,strK_bs,g1,g2,e1,b1,b3,b4,w3,g8,Int.toNat_natCast,Int.natCast_nonneg,go_sem,awp_seq,Nat.reduceBNe,Nat.reduceBEq,Nat.reduceAdd,Nat.reduceSub,Nat.reduceMul,Nat.reduceLeDiff,Nat.reduceLT,Nat.reduceEqDiff,Nat.reduceBneDiff,Int.reduceLE,Int.reduceLT,Int.reduceToNat,Int.reduceBEq,Int.reduceBNe,Int.reduceAdd,Int.reduceSub,Int.cast_ofNat_Int]
        ·have g8:decide ((8:Int)<((sz+1:Nat):Int))=false:=by simp;omega
         rw [if_neg h8]at hR
         simp (maxSteps:=1000000) -implicitDefEqProofs only [bs_size,strK_bs,g1,g2,e1,b1,b3,b4,w1,w3,g8,Int.toNat_natCast,Int.natCast_nonneg,go_sem,awp_seq,Nat.reduceBNe,Nat.reduceBEq,Nat.reduceAdd,Nat.reduceSub,Nat.reduceMul,Nat.reduceLeDiff,Nat.reduceLT,Nat.reduceEqDiff,Nat.reduceBneDiff,Int.reduceLE,Int.reduceLT,Int.reduceToNat,Int.reduceBEq,Int.reduceBNe,Int.reduceAdd,Int.reduceSub,Int.cast_ofNat_Int]
         refine roundK_mk ⟨(k+1,sg,sz+1),by show k+1≤_;omega,by show sg≤k+1+1;omega,by show sz+1≤k+1;omega,hR⟩ ?_ (by show s.length-(k+1)<s.length-k;omega)
         simp (maxSteps:=1000000) -implicitDefEqProofs only [go_sem,awp_seq,Nat.reduceBNe,Nat.reduceBEq,Nat.reduceAdd,Nat.reduceSub,Nat.reduceMul,Nat.reduceLeDiff,Nat.reduceLT,Nat.reduceEqDiff,Nat.reduceBneDiff,Int.reduceLE,Int.reduceLT,Int.reduceToNat,Int.reduceBEq,Int.reduceBNe,Int.reduceAdd,Int.reduceSub,Int.cast_ofNat_Int]
     | false =>
      cases b2:decide ((90:Int)<c.toNat)with
      | true =>
       cases b3:decide ((c.toNat:Int)<48)with
       | true =>
        have:=bad (by simp [okByte,b2,b3])
        subst this
        simp (maxSteps:=1000000) -implicitDefEqProofs only [bs_size,strK_bs,g1,g2,e1,b1,b2,b3,Int.toNat_natCast,Int.natCast_nonneg,go_sem,awp_seq,Nat.reduceBNe,Nat.reduceBEq,Nat.reduceAdd,Nat.reduceSub,Nat.reduceMul,Nat.reduceLeDiff,Nat.reduceLT,Nat.reduceEqDiff,Nat.reduceBneDiff,Int.reduceLE,Int.reduceLT,Int.reduceToNat,Int.reduceBEq,Int.reduceBNe,Int.reduceAdd,Int.reduceSub,Int.cast_ofNat_Int]
       | false =>
        cases b4:decide ((57:Int)<c.toNat)with
        | true =>
         have:=bad (by simp [okByte,b2,b4])
         subst this
         simp (maxSteps:=1000000) -implicitDefEqProofs only [bs_size,strK_bs,g1,g2,e1,b1,b2,b3,b4,Int.toNat_natCast,Int.natCast_nonneg,go_sem,awp_seq,Nat.reduceBNe,Nat.reduceBEq,Nat.reduceAdd,Nat.reduceSub,Nat.reduceMul,Nat.reduceLeDiff,Nat.reduceLT,Nat.reduceEqDiff,Nat.reduceBneDiff,Int.reduceLE,Int.reduceLT,Int.reduceToNat,Int.reduceBEq,Int.reduceBNe,Int.reduceAdd,Int.reduceSub,Int.cast_ofNat_Int]
        | false =>
         have hR:=fin (by simp [okByte,b1,b2,b3,b4])
         by_cases h8:8<sz+1
         ·have g8:decide ((8:Int)<((sz+1:Nat):Int))=true:=by simp;omega
          rw [if_pos h8]at hR
          subst hR
          simp (maxSteps:=1000000) -implicitDefEqProofs only [bs_size,strK_bs,g1,g2,e1,b1,b2,b3,b4,w3,g8,Int.toNat_natCast,Int.natCast_nonneg,go_sem,awp_seq,Nat.reduceBNe,Nat.reduceBEq,Nat.reduceAdd,Nat.reduceSub,Nat.reduceMul,Nat.reduceLeDiff,Nat.reduceLT,Nat.reduceEqDiff,Nat.reduceBneDiff,Int.reduceLE,Int.reduceLT,Int.reduceToNat,Int.reduceBEq,Int.reduceBNe,Int.reduceAdd,Int.reduceSub,Int.cast_ofNat_Int]
         ·have g8:decide ((8:Int)<((sz+1:Nat):Int))=false:=by simp;omega
          rw [if_neg h8]at hR
          simp (maxSteps:=1000000) -implicitDefEqProofs only [bs_size,strK_bs,g1,g2,e1,b1,b2,b3,b4,w1,w3,g8,Int.toNat_natCast,Int.natCast_nonneg,go_sem,awp_seq,Nat.reduceBNe,Nat.reduceBEq,Nat.reduceAdd,Nat.reduceSub,Nat.reduceMul,Nat.reduceLeDiff,Nat.reduceLT,Nat.reduceEqDiff,Nat.reduceBneDiff,Int.reduceLE,Int.reduceLT,Int.reduceToNat,Int.reduceBEq,Int.reduceBNe,Int.reduceAdd,Int.reduceSub,Int.cast_ofNat_Int]
          refine roundK_mk ⟨(k+1,sg,sz+1),by show k+1≤_;omega,by show sg≤k+1+1;omega,by show sz+1≤k+1;omega,hR⟩ ?_ (by show s.length-(k+1)<s.length-k;omega)
          simp (maxSteps:=1000000) -implicitDefEqProofs only [go_sem,awp_seq,Nat.reduceBNe,Nat.reduceBEq,Nat.reduceAdd,Nat.reduceSub,Nat.reduceMul,Nat.reduceLeDiff,Nat.reduceLT,Nat.reduceEqDiff,Nat.reduceBneDiff,Int.reduceLE,Int.reduceLT,Int.reduceToNat,Int.reduceBEq,Int.reduceBNe,Int.reduceAdd,Int.reduceSub,Int.cast_ofNat_Int]
      | false =>
       have hR:=fin (by simp [okByte,b1,b2])
       by_cases h8:8<sz+1
       ·have g8:decide ((8:Int)<((sz+1:Nat):Int))=true:=by simp;omega
        rw [if_pos h8]at hR
        subst hR
        simp (maxSteps:=1000000) -implicitDefEqProofs only [bs_size,strK_bs,g1,g2,e1,b1,b2,w3,g8,Int.toNat_natCast,Int.natCast_nonneg,go_sem,awp_seq,Nat.reduceBNe,Nat.reduceBEq,Nat.reduceAdd,Nat.reduceSub,Nat.reduceMul,Nat.reduceLeDiff,Nat.reduceLT,Nat.reduceEqDiff,Nat.reduceBneDiff,Int.reduceLE,Int.reduceLT,Int.reduceToNat,Int.reduceBEq,Int.reduceBNe,Int.reduceAdd,Int.reduceSub,Int.cast_ofNat_Int]
       ·have g8:decide ((8:Int)<((sz+1:Nat):Int))=false:=by simp;omega
        rw [if_neg h8]at hR
        simp (maxSteps:=1000000) -implicitDefEqProofs only [bs_size,strK_bs,g1,g2,e1,b1,b2,w1,w3,g8,Int.toNat_natCast,Int.natCast_nonneg,go_sem,awp_seq,Nat.reduceBNe,Nat.reduceBEq,Nat.reduceAdd,Nat.reduceSub,Nat.reduceMul,Nat.reduceLeDiff,Nat.reduceLT,Nat.reduceEqDiff,Nat.reduceBneDiff,Int.reduceLE,Int.reduceLT,Int.reduceToNat,Int.reduceBEq,Int.reduceBNe,Int.reduceAdd,Int.reduceSub,Int.cast_ofNat_Int]
        refine roundK_mk ⟨(k+1,sg,sz+1),by show k+1≤_;omega,by show sg≤k+1+1;omega,by show sz+1≤k+1;omega,hR⟩ ?_ (by show s.length-(k+1)<s.length-k;omega)
        simp (maxSteps:=1000000) -implicitDefEqProofs only [go_sem,awp_seq,Nat.reduceBNe,Nat.reduceBEq,Nat.reduceAdd,Nat.reduceSub,Nat.reduceMul,Nat.reduceLeDiff,Nat.reduceLT,Nat.reduceEqDiff,Nat.reduceBneDiff,Int.reduceLE,Int.reduceLT,Int.reduceToNat,Int.reduceBEq,Int.reduceBNe,Int.reduceAdd,Int.reduceSub,Int.cast_ofNat_Int]
   ·have g1:decide (((k:Nat):Int)<(s.length:Nat))=false:=by simp;omega
    rw [List.drop_of_length_le (by omega)]at hR
    unfold r13 at hR
    subst hR
    have q1:decide ((0:Int)<((sz:Nat):Int))=decide (0<sz):=by simp
    have q2:decide (((sg:Nat):Int)≤5)=decide (sg≤5):=by simp;omega
    rcases Bool.eq_false_or_eq_true (decide (0<sz))with c3|c3
    ·simp (maxSteps:=1000000) -implicitDefEqProofs only [bs_size,g1,q1,q2,c3,go_sem,awp_seq,Nat.reduceBNe,Nat.reduceBEq,Nat.reduceAdd,Nat.reduceSub,Nat.reduceMul,Nat.reduceLeDiff,Nat.reduceLT,Nat.reduceEqDiff,Nat.reduceBneDiff,Int.reduceLE,Int.reduceLT,Int.reduceToNat,Int.reduceBEq,Int.reduceBNe,Int.reduceAdd,Int.reduceSub,Int.cast_ofNat_Int]
    ·simp (maxSteps:=1000000) -implicitDefEqProofs only [bs_size,g1,q1,q2,c3,go_sem,awp_seq,Nat.reduceBNe,Nat.reduceBEq,Nat.reduceAdd,Nat.reduceSub,Nat.reduceMul,Nat.reduceLeDiff,Nat.reduceLT,Nat.reduceEqDiff,Nat.reduceBneDiff,Int.reduceLE,Int.reduceLT,Int.reduceToNat,Int.reduceBEq,Int.reduceBNe,Int.reduceAdd,Int.reduceSub,Int.cast_ofNat_Int]
end Go.Proofs.YtcaahphghaddgaaGreatDoor
set_option linter.unusedSimpArgs false
set_option linter.unusedVariables false
namespace Go.Proofs.YtcaahphghaddgaaGreatDoor
open Go.RowKit Lim
def withinB (n lo hi:Int):Bool:=decide (lo≤n) && decide (n≤hi)
theorem within33_c (n lo hi:Int):AT 39 [i64 n,i64 lo,i64 hi] (boo (withinB n lo hi)):=by
 unfold withinB
 cases c1:decide (lo≤n)with
 | true =>
  refine ACalls.of ⟨7,[],[]⟩ (fn:=Tryz.f39) Tryz.func39 rfl rfl rfl (by kernel_rfl) (by kernel_rfl) (Nat.le_of_ble_eq_true rfl) ?_
  simp (maxSteps:=1000000) -implicitDefEqProofs only [c1,go_sem,awp_seq,Nat.reduceBNe,Nat.reduceBEq,Nat.reduceAdd,Nat.reduceSub,Nat.reduceMul,Nat.reduceLeDiff,Nat.reduceLT,Nat.reduceEqDiff,Nat.reduceBneDiff,Int.reduceLE,Int.reduceLT,Int.reduceToNat,Int.reduceBEq,Int.reduceBNe,Int.reduceAdd,Int.reduceSub,Int.cast_ofNat_Int]
 | false =>
  refine ACalls.of ⟨7,[],[]⟩ (fn:=Tryz.f39) Tryz.func39 rfl rfl rfl (by kernel_rfl) (by kernel_rfl) (Nat.le_of_ble_eq_true rfl) ?_
  simp (maxSteps:=1000000) -implicitDefEqProofs only [c1,go_sem,awp_seq,Nat.reduceBNe,Nat.reduceBEq,Nat.reduceAdd,Nat.reduceSub,Nat.reduceMul,Nat.reduceLeDiff,Nat.reduceLT,Nat.reduceEqDiff,Nat.reduceBneDiff,Int.reduceLE,Int.reduceLT,Int.reduceToNat,Int.reduceBEq,Int.reduceBNe,Int.reduceAdd,Int.reduceSub,Int.cast_ofNat_Int]
theorem uses1:AT 36 [i64 1] (.tup [boo true,boo false,boo true,boo true]):=by
 refine ACalls.of ⟨18,[],[]⟩ (fn:=Tryz.f36) Tryz.func36 rfl rfl rfl (by kernel_rfl) (by kernel_rfl) (Nat.le_of_ble_eq_true rfl) ?_
 simp (maxSteps:=1000000) -implicitDefEqProofs only [go_sem,awp_seq,Nat.reduceBNe,Nat.reduceBEq,Nat.reduceAdd,Nat.reduceSub,Nat.reduceMul,Nat.reduceLeDiff,Nat.reduceLT,Nat.reduceEqDiff,Nat.reduceBneDiff,Int.reduceLE,Int.reduceLT,Int.reduceToNat,Int.reduceBEq,Int.reduceBNe,Int.reduceAdd,Int.reduceSub,Int.cast_ofNat_Int]
theorem uses2:AT 36 [i64 2] (.tup [boo false,boo false,boo false,boo true]):=by
 refine ACalls.of ⟨18,[],[]⟩ (fn:=Tryz.f36) Tryz.func36 rfl rfl rfl (by kernel_rfl) (by kernel_rfl) (Nat.le_of_ble_eq_true rfl) ?_
 simp (maxSteps:=1000000) -implicitDefEqProofs only [go_sem,awp_seq,Nat.reduceBNe,Nat.reduceBEq,Nat.reduceAdd,Nat.reduceSub,Nat.reduceMul,Nat.reduceLeDiff,Nat.reduceLT,Nat.reduceEqDiff,Nat.reduceBneDiff,Int.reduceLE,Int.reduceLT,Int.reduceToNat,Int.reduceBEq,Int.reduceBNe,Int.reduceAdd,Int.reduceSub,Int.cast_ofNat_Int]
theorem uses3:AT 36 [i64 3] (.tup [boo false,boo false,boo false,boo true]):=by
 refine ACalls.of ⟨18,[],[]⟩ (fn:=Tryz.f36) Tryz.func36 rfl rfl rfl (by kernel_rfl) (by kernel_rfl) (Nat.le_of_ble_eq_true rfl) ?_
 simp (maxSteps:=1000000) -implicitDefEqProofs only [go_sem,awp_seq,Nat.reduceBNe,Nat.reduceBEq,Nat.reduceAdd,Nat.reduceSub,Nat.reduceMul,Nat.reduceLeDiff,Nat.reduceLT,Nat.reduceEqDiff,Nat.reduceBneDiff,Int.reduceLE,Int.reduceLT,Int.reduceToNat,Int.reduceBEq,Int.reduceBNe,Int.reduceAdd,Int.reduceSub,Int.cast_ofNat_Int]
theorem uses4:AT 36 [i64 4] (.tup [boo false,boo false,boo true,boo true]):=by
 refine ACalls.of ⟨18,[],[]⟩ (fn:=Tryz.f36) Tryz.func36 rfl rfl rfl (by kernel_rfl) (by kernel_rfl) (Nat.le_of_ble_eq_true rfl) ?_
 simp (maxSteps:=1000000) -implicitDefEqProofs only [go_sem,awp_seq,Nat.reduceBNe,Nat.reduceBEq,Nat.reduceAdd,Nat.reduceSub,Nat.reduceMul,Nat.reduceLeDiff,Nat.reduceLT,Nat.reduceEqDiff,Nat.reduceBneDiff,Int.reduceLE,Int.reduceLT,Int.reduceToNat,Int.reduceBEq,Int.reduceBNe,Int.reduceAdd,Int.reduceSub,Int.cast_ofNat_Int]
theorem uses5:AT 36 [i64 5] (.tup [boo false,boo true,boo true,boo true]):=by
 refine ACalls.of ⟨18,[],[]⟩ (fn:=Tryz.f36) Tryz.func36 rfl rfl rfl (by kernel_rfl) (by kernel_rfl) (Nat.le_of_ble_eq_true rfl) ?_
 simp (maxSteps:=1000000) -implicitDefEqProofs only [go_sem,awp_seq,Nat.reduceBNe,Nat.reduceBEq,Nat.reduceAdd,Nat.reduceSub,Nat.reduceMul,Nat.reduceLeDiff,Nat.reduceLT,Nat.reduceEqDiff,Nat.reduceBneDiff,Int.reduceLE,Int.reduceLT,Int.reduceToNat,Int.reduceBEq,Int.reduceBNe,Int.reduceAdd,Int.reduceSub,Int.cast_ofNat_Int]
theorem uses6:AT 36 [i64 6] (.tup [boo false,boo true,boo true,boo true]):=by
 refine ACalls.of ⟨18,[],[]⟩ (fn:=Tryz.f36) Tryz.func36 rfl rfl rfl (by kernel_rfl) (by kernel_rfl) (Nat.le_of_ble_eq_true rfl) ?_
 simp (maxSteps:=1000000) -implicitDefEqProofs only [go_sem,awp_seq,Nat.reduceBNe,Nat.reduceBEq,Nat.reduceAdd,Nat.reduceSub,Nat.reduceMul,Nat.reduceLeDiff,Nat.reduceLT,Nat.reduceEqDiff,Nat.reduceBneDiff,Int.reduceLE,Int.reduceLT,Int.reduceToNat,Int.reduceBEq,Int.reduceBNe,Int.reduceAdd,Int.reduceSub,Int.cast_ofNat_Int]
theorem uses7:AT 36 [i64 7] (.tup [boo false,boo true,boo false,boo false]):=by
 refine ACalls.of ⟨18,[],[]⟩ (fn:=Tryz.f36) Tryz.func36 rfl rfl rfl (by kernel_rfl) (by kernel_rfl) (Nat.le_of_ble_eq_true rfl) ?_
 simp (maxSteps:=1000000) -implicitDefEqProofs only [go_sem,awp_seq,Nat.reduceBNe,Nat.reduceBEq,Nat.reduceAdd,Nat.reduceSub,Nat.reduceMul,Nat.reduceLeDiff,Nat.reduceLT,Nat.reduceEqDiff,Nat.reduceBneDiff,Int.reduceLE,Int.reduceLT,Int.reduceToNat,Int.reduceBEq,Int.reduceBNe,Int.reduceAdd,Int.reduceSub,Int.cast_ofNat_Int]
theorem uses8:AT 36 [i64 8] (.tup [boo false,boo true,boo false,boo false]):=by
 refine ACalls.of ⟨18,[],[]⟩ (fn:=Tryz.f36) Tryz.func36 rfl rfl rfl (by kernel_rfl) (by kernel_rfl) (Nat.le_of_ble_eq_true rfl) ?_
 simp (maxSteps:=1000000) -implicitDefEqProofs only [go_sem,awp_seq,Nat.reduceBNe,Nat.reduceBEq,Nat.reduceAdd,Nat.reduceSub,Nat.reduceMul,Nat.reduceLeDiff,Nat.reduceLT,Nat.reduceEqDiff,Nat.reduceBneDiff,Int.reduceLE,Int.reduceLT,Int.reduceToNat,Int.reduceBEq,Int.reduceBNe,Int.reduceAdd,Int.reduceSub,Int.cast_ofNat_Int]
theorem uses9:AT 36 [i64 9] (.tup [boo false,boo false,boo false,boo false]):=by
 refine ACalls.of ⟨18,[],[]⟩ (fn:=Tryz.f36) Tryz.func36 rfl rfl rfl (by kernel_rfl) (by kernel_rfl) (Nat.le_of_ble_eq_true rfl) ?_
 simp (maxSteps:=1000000) -implicitDefEqProofs only [go_sem,awp_seq,Nat.reduceBNe,Nat.reduceBEq,Nat.reduceAdd,Nat.reduceSub,Nat.reduceMul,Nat.reduceLeDiff,Nat.reduceLT,Nat.reduceEqDiff,Nat.reduceBneDiff,Int.reduceLE,Int.reduceLT,Int.reduceToNat,Int.reduceBEq,Int.reduceBNe,Int.reduceAdd,Int.reduceSub,Int.cast_ofNat_Int]
def r33E1 (n lo hi:Int) (code:List UInt8):Int:=bif (n != 0) then 1 else bif !(r13V code) then 2 else bif !(withinB lo 0 9999999) then 3 else bif !(withinB hi 0 9999999) then 3 else bif decide (hi<lo) then 23 else 0
set_option maxRecDepth 10000 in
set_option maxHeartbeats 2000000 in
theorem rule1_c (n lo hi:Int) (code:List UInt8):AT 40 [ruleA ⟨1,n,lo,hi,code⟩] (i64 (r33E1 n lo hi code)):=by
 unfold r33E1
 have W0:=within33_c 1 1 9
 rw [show withinB 1 1 9=true from rfl]at W0
 have C1:=r13_c code
 have C2:=within33_c lo 0 9999999
 have C3:=within33_c hi 0 9999999
 generalize r13V code=q1 at *
 generalize withinB lo 0 9999999=q2 at *
 generalize withinB hi 0 9999999=q3 at *
 refine ACalls.of ⟨8,[],[]⟩ (fn:=Tryz.f40) Tryz.func40 rfl rfl rfl (by kernel_rfl) (by kernel_rfl) (Nat.le_of_ble_eq_true rfl) ?_
 simp (maxSteps:=1000000) -implicitDefEqProofs only [go_sem,awp_seq,Nat.reduceBNe,Nat.reduceBEq,Nat.reduceAdd,Nat.reduceSub,Nat.reduceMul,Nat.reduceLeDiff,Nat.reduceLT,Nat.reduceEqDiff,Nat.reduceBneDiff,Int.reduceLE,Int.reduceLT,Int.reduceToNat,Int.reduceBEq,Int.reduceBNe,Int.reduceAdd,Int.reduceSub,Int.cast_ofNat_Int]
 refine callA_tt W0 ?_
 simp (maxSteps:=1000000) -implicitDefEqProofs only [go_sem,awp_seq,Nat.reduceBNe,Nat.reduceBEq,Nat.reduceAdd,Nat.reduceSub,Nat.reduceMul,Nat.reduceLeDiff,Nat.reduceLT,Nat.reduceEqDiff,Nat.reduceBneDiff,Int.reduceLE,Int.reduceLT,Int.reduceToNat,Int.reduceBEq,Int.reduceBNe,Int.reduceAdd,Int.reduceSub,Int.cast_ofNat_Int]
 refine callA_tt uses1 ?_
 simp (maxSteps:=1000000) -implicitDefEqProofs only [mk_bs,toList_bs,seq_nil,go_sem,awp_seq,Nat.reduceBNe,Nat.reduceBEq,Nat.reduceAdd,Nat.reduceSub,Nat.reduceMul,Nat.reduceLeDiff,Nat.reduceLT,Nat.reduceEqDiff,Nat.reduceBneDiff,Int.reduceLE,Int.reduceLT,Int.reduceToNat,Int.reduceBEq,Int.reduceBNe,Int.reduceAdd,Int.reduceSub,Int.cast_ofNat_Int]
 cases c0:(n != 0)with
 | true=>simp (maxSteps:=1000000) -implicitDefEqProofs only [c0,go_sem,awp_seq,Nat.reduceBNe,Nat.reduceBEq,Nat.reduceAdd,Nat.reduceSub,Nat.reduceMul,Nat.reduceLeDiff,Nat.reduceLT,Nat.reduceEqDiff,Nat.reduceBneDiff,Int.reduceLE,Int.reduceLT,Int.reduceToNat,Int.reduceBEq,Int.reduceBNe,Int.reduceAdd,Int.reduceSub,Int.cast_ofNat_Int]
 | false =>
 simp (maxSteps:=1000000) -implicitDefEqProofs only [c0,go_sem,awp_seq,Nat.reduceBNe,Nat.reduceBEq,Nat.reduceAdd,Nat.reduceSub,Nat.reduceMul,Nat.reduceLeDiff,Nat.reduceLT,Nat.reduceEqDiff,Nat.reduceBneDiff,Int.reduceLE,Int.reduceLT,Int.reduceToNat,Int.reduceBEq,Int.reduceBNe,Int.reduceAdd,Int.reduceSub,Int.cast_ofNat_Int]
 refine callA_tt C1 ?_
 cases q1 with
 | false=>simp (maxSteps:=1000000) -implicitDefEqProofs only [go_sem,awp_seq,Nat.reduceBNe,Nat.reduceBEq,Nat.reduceAdd,Nat.reduceSub,Nat.reduceMul,Nat.reduceLeDiff,Nat.reduceLT,Nat.reduceEqDiff,Nat.reduceBneDiff,Int.reduceLE,Int.reduceLT,Int.reduceToNat,Int.reduceBEq,Int.reduceBNe,Int.reduceAdd,Int.reduceSub,Int.cast_ofNat_Int]
 | true =>
 simp (maxSteps:=1000000) -implicitDefEqProofs only [go_sem,awp_seq,Nat.reduceBNe,Nat.reduceBEq,Nat.reduceAdd,Nat.reduceSub,Nat.reduceMul,Nat.reduceLeDiff,Nat.reduceLT,Nat.reduceEqDiff,Nat.reduceBneDiff,Int.reduceLE,Int.reduceLT,Int.reduceToNat,Int.reduceBEq,Int.reduceBNe,Int.reduceAdd,Int.reduceSub,Int.cast_ofNat_Int]
 refine callA_tt C2 ?_
 cases q2 with
 | false=>simp (maxSteps:=1000000) -implicitDefEqProofs only [go_sem,awp_seq,Nat.reduceBNe,Nat.reduceBEq,Nat.reduceAdd,Nat.reduceSub,Nat.reduceMul,Nat.reduceLeDiff,Nat.reduceLT,Nat.reduceEqDiff,Nat.reduceBneDiff,Int.reduceLE,Int.reduceLT,Int.reduceToNat,Int.reduceBEq,Int.reduceBNe,Int.reduceAdd,Int.reduceSub,Int.cast_ofNat_Int]
 | true =>
 simp (maxSteps:=1000000) -implicitDefEqProofs only [go_sem,awp_seq,Nat.reduceBNe,Nat.reduceBEq,Nat.reduceAdd,Nat.reduceSub,Nat.reduceMul,Nat.reduceLeDiff,Nat.reduceLT,Nat.reduceEqDiff,Nat.reduceBneDiff,Int.reduceLE,Int.reduceLT,Int.reduceToNat,Int.reduceBEq,Int.reduceBNe,Int.reduceAdd,Int.reduceSub,Int.cast_ofNat_Int]
 refine callA_tt C3 ?_
 cases q3 with
 | false=>simp (maxSteps:=1000000) -implicitDefEqProofs only [go_sem,awp_seq,Nat.reduceBNe,Nat.reduceBEq,Nat.reduceAdd,Nat.reduceSub,Nat.reduceMul,Nat.reduceLeDiff,Nat.reduceLT,Nat.reduceEqDiff,Nat.reduceBneDiff,Int.reduceLE,Int.reduceLT,Int.reduceToNat,Int.reduceBEq,Int.reduceBNe,Int.reduceAdd,Int.reduceSub,Int.cast_ofNat_Int]
 | true =>
 simp (maxSteps:=1000000) -implicitDefEqProofs only [go_sem,awp_seq,Nat.reduceBNe,Nat.reduceBEq,Nat.reduceAdd,Nat.reduceSub,Nat.reduceMul,Nat.reduceLeDiff,Nat.reduceLT,Nat.reduceEqDiff,Nat.reduceBneDiff,Int.reduceLE,Int.reduceLT,Int.reduceToNat,Int.reduceBEq,Int.reduceBNe,Int.reduceAdd,Int.reduceSub,Int.cast_ofNat_Int]
 cases c4:decide (hi<lo)with
 | true=>simp (maxSteps:=1000000) -implicitDefEqProofs only [c4,go_sem,awp_seq,Nat.reduceBNe,Nat.reduceBEq,Nat.reduceAdd,Nat.reduceSub,Nat.reduceMul,Nat.reduceLeDiff,Nat.reduceLT,Nat.reduceEqDiff,Nat.reduceBneDiff,Int.reduceLE,Int.reduceLT,Int.reduceToNat,Int.reduceBEq,Int.reduceBNe,Int.reduceAdd,Int.reduceSub,Int.cast_ofNat_Int]
 | false=>simp (maxSteps:=1000000) -implicitDefEqProofs only [c4,go_sem,awp_seq,Nat.reduceBNe,Nat.reduceBEq,Nat.reduceAdd,Nat.reduceSub,Nat.reduceMul,Nat.reduceLeDiff,Nat.reduceLT,Nat.reduceEqDiff,Nat.reduceBneDiff,Int.reduceLE,Int.reduceLT,Int.reduceToNat,Int.reduceBEq,Int.reduceBNe,Int.reduceAdd,Int.reduceSub,Int.cast_ofNat_Int]
def r33E2 (n lo hi:Int) (code:List UInt8):Int:=bif !(code.isEmpty) then 1 else bif (n != 0) then 1 else bif (lo != 0) then 1 else bif !(withinB lo 0 9999999) then 3 else bif !(withinB hi 0 9999999) then 3 else bif decide (hi<lo) then 23 else 0
set_option maxRecDepth 10000 in
set_option maxHeartbeats 2000000 in
theorem rule2_c (n lo hi:Int) (code:List UInt8):AT 40 [ruleA ⟨2,n,lo,hi,code⟩] (i64 (r33E2 n lo hi code)):=by
 unfold r33E2
 have W0:=within33_c 2 1 9
 rw [show withinB 2 1 9=true from rfl]at W0
 have C3:=within33_c lo 0 9999999
 have C4:=within33_c hi 0 9999999
 generalize withinB lo 0 9999999=q3 at *
 generalize withinB hi 0 9999999=q4 at *
 refine ACalls.of ⟨8,[],[]⟩ (fn:=Tryz.f40) Tryz.func40 rfl rfl rfl (by kernel_rfl) (by kernel_rfl) (Nat.le_of_ble_eq_true rfl) ?_
 simp (maxSteps:=1000000) -implicitDefEqProofs only [go_sem,awp_seq,Nat.reduceBNe,Nat.reduceBEq,Nat.reduceAdd,Nat.reduceSub,Nat.reduceMul,Nat.reduceLeDiff,Nat.reduceLT,Nat.reduceEqDiff,Nat.reduceBneDiff,Int.reduceLE,Int.reduceLT,Int.reduceToNat,Int.reduceBEq,Int.reduceBNe,Int.reduceAdd,Int.reduceSub,Int.cast_ofNat_Int]
 refine callA_tt W0 ?_
 simp (maxSteps:=1000000) -implicitDefEqProofs only [go_sem,awp_seq,Nat.reduceBNe,Nat.reduceBEq,Nat.reduceAdd,Nat.reduceSub,Nat.reduceMul,Nat.reduceLeDiff,Nat.reduceLT,Nat.reduceEqDiff,Nat.reduceBneDiff,Int.reduceLE,Int.reduceLT,Int.reduceToNat,Int.reduceBEq,Int.reduceBNe,Int.reduceAdd,Int.reduceSub,Int.cast_ofNat_Int]
 refine callA_tt uses2 ?_
 simp (maxSteps:=1000000) -implicitDefEqProofs only [mk_bs,toList_bs,seq_nil,go_sem,awp_seq,Nat.reduceBNe,Nat.reduceBEq,Nat.reduceAdd,Nat.reduceSub,Nat.reduceMul,Nat.reduceLeDiff,Nat.reduceLT,Nat.reduceEqDiff,Nat.reduceBneDiff,Int.reduceLE,Int.reduceLT,Int.reduceToNat,Int.reduceBEq,Int.reduceBNe,Int.reduceAdd,Int.reduceSub,Int.cast_ofNat_Int]
 cases c0:code.isEmpty with
 | false=>simp (maxSteps:=1000000) -implicitDefEqProofs only [c0,go_sem,awp_seq,Nat.reduceBNe,Nat.reduceBEq,Nat.reduceAdd,Nat.reduceSub,Nat.reduceMul,Nat.reduceLeDiff,Nat.reduceLT,Nat.reduceEqDiff,Nat.reduceBneDiff,Int.reduceLE,Int.reduceLT,Int.reduceToNat,Int.reduceBEq,Int.reduceBNe,Int.reduceAdd,Int.reduceSub,Int.cast_ofNat_Int]
 | true =>
 simp (maxSteps:=1000000) -implicitDefEqProofs only [c0,go_sem,awp_seq,Nat.reduceBNe,Nat.reduceBEq,Nat.reduceAdd,Nat.reduceSub,Nat.reduceMul,Nat.reduceLeDiff,Nat.reduceLT,Nat.reduceEqDiff,Nat.reduceBneDiff,Int.reduceLE,Int.reduceLT,Int.reduceToNat,Int.reduceBEq,Int.reduceBNe,Int.reduceAdd,Int.reduceSub,Int.cast_ofNat_Int]
 cases c1:(n != 0)with
 | true=>simp (maxSteps:=1000000) -implicitDefEqProofs only [c1,go_sem,awp_seq,Nat.reduceBNe,Nat.reduceBEq,Nat.reduceAdd,Nat.reduceSub,Nat.reduceMul,Nat.reduceLeDiff,Nat.reduceLT,Nat.reduceEqDiff,Nat.reduceBneDiff,Int.reduceLE,Int.reduceLT,Int.reduceToNat,Int.reduceBEq,Int.reduceBNe,Int.reduceAdd,Int.reduceSub,Int.cast_ofNat_Int]
 | false =>
 simp (maxSteps:=1000000) -implicitDefEqProofs only [c1,go_sem,awp_seq,Nat.reduceBNe,Nat.reduceBEq,Nat.reduceAdd,Nat.reduceSub,Nat.reduceMul,Nat.reduceLeDiff,Nat.reduceLT,Nat.reduceEqDiff,Nat.reduceBneDiff,Int.reduceLE,Int.reduceLT,Int.reduceToNat,Int.reduceBEq,Int.reduceBNe,Int.reduceAdd,Int.reduceSub,Int.cast_ofNat_Int]
 cases c2:(lo != 0)with
 | true=>simp (maxSteps:=1000000) -implicitDefEqProofs only [c2,go_sem,awp_seq,Nat.reduceBNe,Nat.reduceBEq,Nat.reduceAdd,Nat.reduceSub,Nat.reduceMul,Nat.reduceLeDiff,Nat.reduceLT,Nat.reduceEqDiff,Nat.reduceBneDiff,Int.reduceLE,Int.reduceLT,Int.reduceToNat,Int.reduceBEq,Int.reduceBNe,Int.reduceAdd,Int.reduceSub,Int.cast_ofNat_Int]
 | false =>
 simp (maxSteps:=1000000) -implicitDefEqProofs only [c2,go_sem,awp_seq,Nat.reduceBNe,Nat.reduceBEq,Nat.reduceAdd,Nat.reduceSub,Nat.reduceMul,Nat.reduceLeDiff,Nat.reduceLT,Nat.reduceEqDiff,Nat.reduceBneDiff,Int.reduceLE,Int.reduceLT,Int.reduceToNat,Int.reduceBEq,Int.reduceBNe,Int.reduceAdd,Int.reduceSub,Int.cast_ofNat_Int]
 refine callA_tt C3 ?_
 cases q3 with
 | false=>simp (maxSteps:=1000000) -implicitDefEqProofs only [go_sem,awp_seq,Nat.reduceBNe,Nat.reduceBEq,Nat.reduceAdd,Nat.reduceSub,Nat.reduceMul,Nat.reduceLeDiff,Nat.reduceLT,Nat.reduceEqDiff,Nat.reduceBneDiff,Int.reduceLE,Int.reduceLT,Int.reduceToNat,Int.reduceBEq,Int.reduceBNe,Int.reduceAdd,Int.reduceSub,Int.cast_ofNat_Int]
 | true =>
 simp (maxSteps:=1000000) -implicitDefEqProofs only [go_sem,awp_seq,Nat.reduceBNe,Nat.reduceBEq,Nat.reduceAdd,Nat.reduceSub,Nat.reduceMul,Nat.reduceLeDiff,Nat.reduceLT,Nat.reduceEqDiff,Nat.reduceBneDiff,Int.reduceLE,Int.reduceLT,Int.reduceToNat,Int.reduceBEq,Int.reduceBNe,Int.reduceAdd,Int.reduceSub,Int.cast_ofNat_Int]
 refine callA_tt C4 ?_
 cases q4 with
 | false=>simp (maxSteps:=1000000) -implicitDefEqProofs only [go_sem,awp_seq,Nat.reduceBNe,Nat.reduceBEq,Nat.reduceAdd,Nat.reduceSub,Nat.reduceMul,Nat.reduceLeDiff,Nat.reduceLT,Nat.reduceEqDiff,Nat.reduceBneDiff,Int.reduceLE,Int.reduceLT,Int.reduceToNat,Int.reduceBEq,Int.reduceBNe,Int.reduceAdd,Int.reduceSub,Int.cast_ofNat_Int]
 | true =>
 simp (maxSteps:=1000000) -implicitDefEqProofs only [go_sem,awp_seq,Nat.reduceBNe,Nat.reduceBEq,Nat.reduceAdd,Nat.reduceSub,Nat.reduceMul,Nat.reduceLeDiff,Nat.reduceLT,Nat.reduceEqDiff,Nat.reduceBneDiff,Int.reduceLE,Int.reduceLT,Int.reduceToNat,Int.reduceBEq,Int.reduceBNe,Int.reduceAdd,Int.reduceSub,Int.cast_ofNat_Int]
 cases c5:decide (hi<lo)with
 | true=>simp (maxSteps:=1000000) -implicitDefEqProofs only [c5,go_sem,awp_seq,Nat.reduceBNe,Nat.reduceBEq,Nat.reduceAdd,Nat.reduceSub,Nat.reduceMul,Nat.reduceLeDiff,Nat.reduceLT,Nat.reduceEqDiff,Nat.reduceBneDiff,Int.reduceLE,Int.reduceLT,Int.reduceToNat,Int.reduceBEq,Int.reduceBNe,Int.reduceAdd,Int.reduceSub,Int.cast_ofNat_Int]
 | false=>simp (maxSteps:=1000000) -implicitDefEqProofs only [c5,go_sem,awp_seq,Nat.reduceBNe,Nat.reduceBEq,Nat.reduceAdd,Nat.reduceSub,Nat.reduceMul,Nat.reduceLeDiff,Nat.reduceLT,Nat.reduceEqDiff,Nat.reduceBneDiff,Int.reduceLE,Int.reduceLT,Int.reduceToNat,Int.reduceBEq,Int.reduceBNe,Int.reduceAdd,Int.reduceSub,Int.cast_ofNat_Int]
def r33E3 (n lo hi:Int) (code:List UInt8):Int:=bif !(code.isEmpty) then 1 else bif (n != 0) then 1 else bif (lo != 0) then 1 else bif !(withinB lo 0 9999999) then 3 else bif !(withinB hi 0 9999999) then 3 else bif decide (hi<lo) then 23 else 0
set_option maxRecDepth 10000 in
set_option maxHeartbeats 2000000 in
theorem rule3_c (n lo hi:Int) (code:List UInt8):AT 40 [ruleA ⟨3,n,lo,hi,code⟩] (i64 (r33E3 n lo hi code)):=by
 unfold r33E3
 have W0:=within33_c 3 1 9
 rw [show withinB 3 1 9=true from rfl]at W0
 have C3:=within33_c lo 0 9999999
 have C4:=within33_c hi 0 9999999
 generalize withinB lo 0 9999999=q3 at *
 generalize withinB hi 0 9999999=q4 at *
 refine ACalls.of ⟨8,[],[]⟩ (fn:=Tryz.f40) Tryz.func40 rfl rfl rfl (by kernel_rfl) (by kernel_rfl) (Nat.le_of_ble_eq_true rfl) ?_
 simp (maxSteps:=1000000) -implicitDefEqProofs only [go_sem,awp_seq,Nat.reduceBNe,Nat.reduceBEq,Nat.reduceAdd,Nat.reduceSub,Nat.reduceMul,Nat.reduceLeDiff,Nat.reduceLT,Nat.reduceEqDiff,Nat.reduceBneDiff,Int.reduceLE,Int.reduceLT,Int.reduceToNat,Int.reduceBEq,Int.reduceBNe,Int.reduceAdd,Int.reduceSub,Int.cast_ofNat_Int]
 refine callA_tt W0 ?_
 simp (maxSteps:=1000000) -implicitDefEqProofs only [go_sem,awp_seq,Nat.reduceBNe,Nat.reduceBEq,Nat.reduceAdd,Nat.reduceSub,Nat.reduceMul,Nat.reduceLeDiff,Nat.reduceLT,Nat.reduceEqDiff,Nat.reduceBneDiff,Int.reduceLE,Int.reduceLT,Int.reduceToNat,Int.reduceBEq,Int.reduceBNe,Int.reduceAdd,Int.reduceSub,Int.cast_ofNat_Int]
 refine callA_tt uses3 ?_
 simp (maxSteps:=1000000) -implicitDefEqProofs only [mk_bs,toList_bs,seq_nil,go_sem,awp_seq,Nat.reduceBNe,Nat.reduceBEq,Nat.reduceAdd,Nat.reduceSub,Nat.reduceMul,Nat.reduceLeDiff,Nat.reduceLT,Nat.reduceEqDiff,Nat.reduceBneDiff,Int.reduceLE,Int.reduceLT,Int.reduceToNat,Int.reduceBEq,Int.reduceBNe,Int.reduceAdd,Int.reduceSub,Int.cast_ofNat_Int]
 cases c0:code.isEmpty with
 | false=>simp (maxSteps:=1000000) -implicitDefEqProofs only [c0,go_sem,awp_seq,Nat.reduceBNe,Nat.reduceBEq,Nat.reduceAdd,Nat.reduceSub,Nat.reduceMul,Nat.reduceLeDiff,Nat.reduceLT,Nat.reduceEqDiff,Nat.reduceBneDiff,Int.reduceLE,Int.reduceLT,Int.reduceToNat,Int.reduceBEq,Int.reduceBNe,Int.reduceAdd,Int.reduceSub,Int.cast_ofNat_Int]
 | true =>
 simp (maxSteps:=1000000) -implicitDefEqProofs only [c0,go_sem,awp_seq,Nat.reduceBNe,Nat.reduceBEq,Nat.reduceAdd,Nat.reduceSub,Nat.reduceMul,Nat.reduceLeDiff,Nat.reduceLT,Nat.reduceEqDiff,Nat.reduceBneDiff,Int.reduceLE,Int.reduceLT,Int.reduceToNat,Int.reduceBEq,Int.reduceBNe,Int.reduceAdd,Int.reduceSub,Int.cast_ofNat_Int]
 cases c1:(n != 0)with
 | true=>simp (maxSteps:=1000000) -implicitDefEqProofs only [c1,go_sem,awp_seq,Nat.reduceBNe,Nat.reduceBEq,Nat.reduceAdd,Nat.reduceSub,Nat.reduceMul,Nat.reduceLeDiff,Nat.reduceLT,Nat.reduceEqDiff,Nat.reduceBneDiff,Int.reduceLE,Int.reduceLT,Int.reduceToNat,Int.reduceBEq,Int.reduceBNe,Int.reduceAdd,Int.reduceSub,Int.cast_ofNat_Int]
 | false =>
 simp (maxSteps:=1000000) -implicitDefEqProofs only [c1,go_sem,awp_seq,Nat.reduceBNe,Nat.reduceBEq,Nat.reduceAdd,Nat.reduceSub,Nat.reduceMul,Nat.reduceLeDiff,Nat.reduceLT,Nat.reduceEqDiff,Nat.reduceBneDiff,Int.reduceLE,Int.reduceLT,Int.reduceToNat,Int.reduceBEq,Int.reduceBNe,Int.reduceAdd,Int.reduceSub,Int.cast_ofNat_Int]
 cases c2:(lo != 0)with
 | true=>simp (maxSteps:=1000000) -implicitDefEqProofs only [c2,go_sem,awp_seq,Nat.reduceBNe,Nat.reduceBEq,Nat.reduceAdd,Nat.reduceSub,Nat.reduceMul,Nat.reduceLeDiff,Nat.reduceLT,Nat.reduceEqDiff,Nat.reduceBneDiff,Int.reduceLE,Int.reduceLT,Int.reduceToNat,Int.reduceBEq,Int.reduceBNe,Int.reduceAdd,Int.reduceSub,Int.cast_ofNat_Int]
 | false =>
 simp (maxSteps:=1000000) -implicitDefEqProofs only [c2,go_sem,awp_seq,Nat.reduceBNe,Nat.reduceBEq,Nat.reduceAdd,Nat.reduceSub,Nat.reduceMul,Nat.reduceLeDiff,Nat.reduceLT,Nat.reduceEqDiff,Nat.reduceBneDiff,Int.reduceLE,Int.reduceLT,Int.reduceToNat,Int.reduceBEq,Int.reduceBNe,Int.reduceAdd,Int.reduceSub,Int.cast_ofNat_Int]
 refine callA_tt C3 ?_
 cases q3 with
 | false=>simp (maxSteps:=1000000) -implicitDefEqProofs only [go_sem,awp_seq,Nat.reduceBNe,Nat.reduceBEq,Nat.reduceAdd,Nat.reduceSub,Nat.reduceMul,Nat.reduceLeDiff,Nat.reduceLT,Nat.reduceEqDiff,Nat.reduceBneDiff,Int.reduceLE,Int.reduceLT,Int.reduceToNat,Int.reduceBEq,Int.reduceBNe,Int.reduceAdd,Int.reduceSub,Int.cast_ofNat_Int]
 | true =>
 simp (maxSteps:=1000000) -implicitDefEqProofs only [go_sem,awp_seq,Nat.reduceBNe,Nat.reduceBEq,Nat.reduceAdd,Nat.reduceSub,Nat.reduceMul,Nat.reduceLeDiff,Nat.reduceLT,Nat.reduceEqDiff,Nat.reduceBneDiff,Int.reduceLE,Int.reduceLT,Int.reduceToNat,Int.reduceBEq,Int.reduceBNe,Int.reduceAdd,Int.reduceSub,Int.cast_ofNat_Int]
 refine callA_tt C4 ?_
 cases q4 with
 | false=>simp (maxSteps:=1000000) -implicitDefEqProofs only [go_sem,awp_seq,Nat.reduceBNe,Nat.reduceBEq,Nat.reduceAdd,Nat.reduceSub,Nat.reduceMul,Nat.reduceLeDiff,Nat.reduceLT,Nat.reduceEqDiff,Nat.reduceBneDiff,Int.reduceLE,Int.reduceLT,Int.reduceToNat,Int.reduceBEq,Int.reduceBNe,Int.reduceAdd,Int.reduceSub,Int.cast_ofNat_Int]
 | true =>
 simp (maxSteps:=1000000) -implicitDefEqProofs only [go_sem,awp_seq,Nat.reduceBNe,Nat.reduceBEq,Nat.reduceAdd,Nat.reduceSub,Nat.reduceMul,Nat.reduceLeDiff,Nat.reduceLT,Nat.reduceEqDiff,Nat.reduceBneDiff,Int.reduceLE,Int.reduceLT,Int.reduceToNat,Int.reduceBEq,Int.reduceBNe,Int.reduceAdd,Int.reduceSub,Int.cast_ofNat_Int]
 cases c5:decide (hi<lo)with
 | true=>simp (maxSteps:=1000000) -implicitDefEqProofs only [c5,go_sem,awp_seq,Nat.reduceBNe,Nat.reduceBEq,Nat.reduceAdd,Nat.reduceSub,Nat.reduceMul,Nat.reduceLeDiff,Nat.reduceLT,Nat.reduceEqDiff,Nat.reduceBneDiff,Int.reduceLE,Int.reduceLT,Int.reduceToNat,Int.reduceBEq,Int.reduceBNe,Int.reduceAdd,Int.reduceSub,Int.cast_ofNat_Int]
 | false=>simp (maxSteps:=1000000) -implicitDefEqProofs only [c5,go_sem,awp_seq,Nat.reduceBNe,Nat.reduceBEq,Nat.reduceAdd,Nat.reduceSub,Nat.reduceMul,Nat.reduceLeDiff,Nat.reduceLT,Nat.reduceEqDiff,Nat.reduceBneDiff,Int.reduceLE,Int.reduceLT,Int.reduceToNat,Int.reduceBEq,Int.reduceBNe,Int.reduceAdd,Int.reduceSub,Int.cast_ofNat_Int]
def r33E4 (n lo hi:Int) (code:List UInt8):Int:=bif !(code.isEmpty) then 1 else bif (n != 0) then 1 else bif !(withinB lo 0 9999999) then 3 else bif !(withinB hi 0 9999999) then 3 else bif decide (hi<lo) then 23 else 0
set_option maxRecDepth 10000 in
set_option maxHeartbeats 2000000 in
theorem rule4_c (n lo hi:Int) (code:List UInt8):AT 40 [ruleA ⟨4,n,lo,hi,code⟩] (i64 (r33E4 n lo hi code)):=by
 unfold r33E4
 have W0:=within33_c 4 1 9
 rw [show withinB 4 1 9=true from rfl]at W0
 have C2:=within33_c lo 0 9999999
 have C3:=within33_c hi 0 9999999
 generalize withinB lo 0 9999999=q2 at *
 generalize withinB hi 0 9999999=q3 at *
 refine ACalls.of ⟨8,[],[]⟩ (fn:=Tryz.f40) Tryz.func40 rfl rfl rfl (by kernel_rfl) (by kernel_rfl) (Nat.le_of_ble_eq_true rfl) ?_
 simp (maxSteps:=1000000) -implicitDefEqProofs only [go_sem,awp_seq,Nat.reduceBNe,Nat.reduceBEq,Nat.reduceAdd,Nat.reduceSub,Nat.reduceMul,Nat.reduceLeDiff,Nat.reduceLT,Nat.reduceEqDiff,Nat.reduceBneDiff,Int.reduceLE,Int.reduceLT,Int.reduceToNat,Int.reduceBEq,Int.reduceBNe,Int.reduceAdd,Int.reduceSub,Int.cast_ofNat_Int]
 refine callA_tt W0 ?_
 simp (maxSteps:=1000000) -implicitDefEqProofs only [go_sem,awp_seq,Nat.reduceBNe,Nat.reduceBEq,Nat.reduceAdd,Nat.reduceSub,Nat.reduceMul,Nat.reduceLeDiff,Nat.reduceLT,Nat.reduceEqDiff,Nat.reduceBneDiff,Int.reduceLE,Int.reduceLT,Int.reduceToNat,Int.reduceBEq,Int.reduceBNe,Int.reduceAdd,Int.reduceSub,Int.cast_ofNat_Int]
 refine callA_tt uses4 ?_
 simp (maxSteps:=1000000) -implicitDefEqProofs only [mk_bs,toList_bs,seq_nil,go_sem,awp_seq,Nat.reduceBNe,Nat.reduceBEq,Nat.reduceAdd,Nat.reduceSub,Nat.reduceMul,Nat.reduceLeDiff,Nat.reduceLT,Nat.reduceEqDiff,Nat.reduceBneDiff,Int.reduceLE,Int.reduceLT,Int.reduceToNat,Int.reduceBEq,Int.reduceBNe,Int.reduceAdd,Int.reduceSub,Int.cast_ofNat_Int]
 cases c0:code.isEmpty with
 | false=>simp (maxSteps:=1000000) -implicitDefEqProofs only [c0,go_sem,awp_seq,Nat.reduceBNe,Nat.reduceBEq,Nat.reduceAdd,Nat.reduceSub,Nat.reduceMul,Nat.reduceLeDiff,Nat.reduceLT,Nat.reduceEqDiff,Nat.reduceBneDiff,Int.reduceLE,Int.reduceLT,Int.reduceToNat,Int.reduceBEq,Int.reduceBNe,Int.reduceAdd,Int.reduceSub,Int.cast_ofNat_Int]
 | true =>
 simp (maxSteps:=1000000) -implicitDefEqProofs only [c0,go_sem,awp_seq,Nat.reduceBNe,Nat.reduceBEq,Nat.reduceAdd,Nat.reduceSub,Nat.reduceMul,Nat.reduceLeDiff,Nat.reduceLT,Nat.reduceEqDiff,Nat.reduceBneDiff,Int.reduceLE,Int.reduceLT,Int.reduceToNat,Int.reduceBEq,Int.reduceBNe,Int.reduceAdd,Int.reduceSub,Int.cast_ofNat_Int]
 cases c1:(n != 0)with
 | true=>simp (maxSteps:=1000000) -implicitDefEqProofs only [c1,go_sem,awp_seq,Nat.reduceBNe,Nat.reduceBEq,Nat.reduceAdd,Nat.reduceSub,Nat.reduceMul,Nat.reduceLeDiff,Nat.reduceLT,Nat.reduceEqDiff,Nat.reduceBneDiff,Int.reduceLE,Int.reduceLT,Int.reduceToNat,Int.reduceBEq,Int.reduceBNe,Int.reduceAdd,Int.reduceSub,Int.cast_ofNat_Int]
 | false =>
 simp (maxSteps:=1000000) -implicitDefEqProofs only [c1,go_sem,awp_seq,Nat.reduceBNe,Nat.reduceBEq,Nat.reduceAdd,Nat.reduceSub,Nat.reduceMul,Nat.reduceLeDiff,Nat.reduceLT,Nat.reduceEqDiff,Nat.reduceBneDiff,Int.reduceLE,Int.reduceLT,Int.reduceToNat,Int.reduceBEq,Int.reduceBNe,Int.reduceAdd,Int.reduceSub,Int.cast_ofNat_Int]
 refine callA_tt C2 ?_
 cases q2 with
 | false=>simp (maxSteps:=1000000) -implicitDefEqProofs only [go_sem,awp_seq,Nat.reduceBNe,Nat.reduceBEq,Nat.reduceAdd,Nat.reduceSub,Nat.reduceMul,Nat.reduceLeDiff,Nat.reduceLT,Nat.reduceEqDiff,Nat.reduceBneDiff,Int.reduceLE,Int.reduceLT,Int.reduceToNat,Int.reduceBEq,Int.reduceBNe,Int.reduceAdd,Int.reduceSub,Int.cast_ofNat_Int]
 | true =>
 simp (maxSteps:=1000000) -implicitDefEqProofs only [go_sem,awp_seq,Nat.reduceBNe,Nat.reduceBEq,Nat.reduceAdd,Nat.reduceSub,Nat.reduceMul,Nat.reduceLeDiff,Nat.reduceLT,Nat.reduceEqDiff,Nat.reduceBneDiff,Int.reduceLE,Int.reduceLT,Int.reduceToNat,Int.reduceBEq,Int.reduceBNe,Int.reduceAdd,Int.reduceSub,Int.cast_ofNat_Int]
 refine callA_tt C3 ?_
 cases q3 with
 | false=>simp (maxSteps:=1000000) -implicitDefEqProofs only [go_sem,awp_seq,Nat.reduceBNe,Nat.reduceBEq,Nat.reduceAdd,Nat.reduceSub,Nat.reduceMul,Nat.reduceLeDiff,Nat.reduceLT,Nat.reduceEqDiff,Nat.reduceBneDiff,Int.reduceLE,Int.reduceLT,Int.reduceToNat,Int.reduceBEq,Int.reduceBNe,Int.reduceAdd,Int.reduceSub,Int.cast_ofNat_Int]
 | true =>
 simp (maxSteps:=1000000) -implicitDefEqProofs only [go_sem,awp_seq,Nat.reduceBNe,Nat.reduceBEq,Nat.reduceAdd,Nat.reduceSub,Nat.reduceMul,Nat.reduceLeDiff,Nat.reduceLT,Nat.reduceEqDiff,Nat.reduceBneDiff,Int.reduceLE,Int.reduceLT,Int.reduceToNat,Int.reduceBEq,Int.reduceBNe,Int.reduceAdd,Int.reduceSub,Int.cast_ofNat_Int]
 cases c4:decide (hi<lo)with
 | true=>simp (maxSteps:=1000000) -implicitDefEqProofs only [c4,go_sem,awp_seq,Nat.reduceBNe,Nat.reduceBEq,Nat.reduceAdd,Nat.reduceSub,Nat.reduceMul,Nat.reduceLeDiff,Nat.reduceLT,Nat.reduceEqDiff,Nat.reduceBneDiff,Int.reduceLE,Int.reduceLT,Int.reduceToNat,Int.reduceBEq,Int.reduceBNe,Int.reduceAdd,Int.reduceSub,Int.cast_ofNat_Int]
 | false=>simp (maxSteps:=1000000) -implicitDefEqProofs only [c4,go_sem,awp_seq,Nat.reduceBNe,Nat.reduceBEq,Nat.reduceAdd,Nat.reduceSub,Nat.reduceMul,Nat.reduceLeDiff,Nat.reduceLT,Nat.reduceEqDiff,Nat.reduceBneDiff,Int.reduceLE,Int.reduceLT,Int.reduceToNat,Int.reduceBEq,Int.reduceBNe,Int.reduceAdd,Int.reduceSub,Int.cast_ofNat_Int]
def r33E5 (n lo hi:Int) (code:List UInt8):Int:=bif !(code.isEmpty) then 1 else bif !(withinB lo 0 9999999) then 3 else bif !(withinB hi 0 9999999) then 3 else bif !(withinB n 1 10) then 3 else bif decide (hi<lo) then 23 else 0
set_option maxRecDepth 10000 in
set_option maxHeartbeats 2000000 in
theorem rule5_c (n lo hi:Int) (code:List UInt8):AT 40 [ruleA ⟨5,n,lo,hi,code⟩] (i64 (r33E5 n lo hi code)):=by
 unfold r33E5
 have W0:=within33_c 5 1 9
 rw [show withinB 5 1 9=true from rfl]at W0
 have C1:=within33_c lo 0 9999999
 have C2:=within33_c hi 0 9999999
 have C3:=within33_c n 1 10
 generalize withinB lo 0 9999999=q1 at *
 generalize withinB hi 0 9999999=q2 at *
 generalize withinB n 1 10=q3 at *
 refine ACalls.of ⟨8,[],[]⟩ (fn:=Tryz.f40) Tryz.func40 rfl rfl rfl (by kernel_rfl) (by kernel_rfl) (Nat.le_of_ble_eq_true rfl) ?_
 simp (maxSteps:=1000000) -implicitDefEqProofs only [go_sem,awp_seq,Nat.reduceBNe,Nat.reduceBEq,Nat.reduceAdd,Nat.reduceSub,Nat.reduceMul,Nat.reduceLeDiff,Nat.reduceLT,Nat.reduceEqDiff,Nat.reduceBneDiff,Int.reduceLE,Int.reduceLT,Int.reduceToNat,Int.reduceBEq,Int.reduceBNe,Int.reduceAdd,Int.reduceSub,Int.cast_ofNat_Int]
 refine callA_tt W0 ?_
 simp (maxSteps:=1000000) -implicitDefEqProofs only [go_sem,awp_seq,Nat.reduceBNe,Nat.reduceBEq,Nat.reduceAdd,Nat.reduceSub,Nat.reduceMul,Nat.reduceLeDiff,Nat.reduceLT,Nat.reduceEqDiff,Nat.reduceBneDiff,Int.reduceLE,Int.reduceLT,Int.reduceToNat,Int.reduceBEq,Int.reduceBNe,Int.reduceAdd,Int.reduceSub,Int.cast_ofNat_Int]
 refine callA_tt uses5 ?_
 simp (maxSteps:=1000000) -implicitDefEqProofs only [mk_bs,toList_bs,seq_nil,go_sem,awp_seq,Nat.reduceBNe,Nat.reduceBEq,Nat.reduceAdd,Nat.reduceSub,Nat.reduceMul,Nat.reduceLeDiff,Nat.reduceLT,Nat.reduceEqDiff,Nat.reduceBneDiff,Int.reduceLE,Int.reduceLT,Int.reduceToNat,Int.reduceBEq,Int.reduceBNe,Int.reduceAdd,Int.reduceSub,Int.cast_ofNat_Int]
 cases c0:code.isEmpty with
 | false=>simp (maxSteps:=1000000) -implicitDefEqProofs only [c0,go_sem,awp_seq,Nat.reduceBNe,Nat.reduceBEq,Nat.reduceAdd,Nat.reduceSub,Nat.reduceMul,Nat.reduceLeDiff,Nat.reduceLT,Nat.reduceEqDiff,Nat.reduceBneDiff,Int.reduceLE,Int.reduceLT,Int.reduceToNat,Int.reduceBEq,Int.reduceBNe,Int.reduceAdd,Int.reduceSub,Int.cast_ofNat_Int]
 | true =>
 simp (maxSteps:=1000000) -implicitDefEqProofs only [c0,go_sem,awp_seq,Nat.reduceBNe,Nat.reduceBEq,Nat.reduceAdd,Nat.reduceSub,Nat.reduceMul,Nat.reduceLeDiff,Nat.reduceLT,Nat.reduceEqDiff,Nat.reduceBneDiff,Int.reduceLE,Int.reduceLT,Int.reduceToNat,Int.reduceBEq,Int.reduceBNe,Int.reduceAdd,Int.reduceSub,Int.cast_ofNat_Int]
 refine callA_tt C1 ?_
 cases q1 with
 | false=>simp (maxSteps:=1000000) -implicitDefEqProofs only [go_sem,awp_seq,Nat.reduceBNe,Nat.reduceBEq,Nat.reduceAdd,Nat.reduceSub,Nat.reduceMul,Nat.reduceLeDiff,Nat.reduceLT,Nat.reduceEqDiff,Nat.reduceBneDiff,Int.reduceLE,Int.reduceLT,Int.reduceToNat,Int.reduceBEq,Int.reduceBNe,Int.reduceAdd,Int.reduceSub,Int.cast_ofNat_Int]
 | true =>
 simp (maxSteps:=1000000) -implicitDefEqProofs only [go_sem,awp_seq,Nat.reduceBNe,Nat.reduceBEq,Nat.reduceAdd,Nat.reduceSub,Nat.reduceMul,Nat.reduceLeDiff,Nat.reduceLT,Nat.reduceEqDiff,Nat.reduceBneDiff,Int.reduceLE,Int.reduceLT,Int.reduceToNat,Int.reduceBEq,Int.reduceBNe,Int.reduceAdd,Int.reduceSub,Int.cast_ofNat_Int]
 refine callA_tt C2 ?_
 cases q2 with
 | false=>simp (maxSteps:=1000000) -implicitDefEqProofs only [go_sem,awp_seq,Nat.reduceBNe,Nat.reduceBEq,Nat.reduceAdd,Nat.reduceSub,Nat.reduceMul,Nat.reduceLeDiff,Nat.reduceLT,Nat.reduceEqDiff,Nat.reduceBneDiff,Int.reduceLE,Int.reduceLT,Int.reduceToNat,Int.reduceBEq,Int.reduceBNe,Int.reduceAdd,Int.reduceSub,Int.cast_ofNat_Int]
 | true =>
 simp (maxSteps:=1000000) -implicitDefEqProofs only [go_sem,awp_seq,Nat.reduceBNe,Nat.reduceBEq,Nat.reduceAdd,Nat.reduceSub,Nat.reduceMul,Nat.reduceLeDiff,Nat.reduceLT,Nat.reduceEqDiff,Nat.reduceBneDiff,Int.reduceLE,Int.reduceLT,Int.reduceToNat,Int.reduceBEq,Int.reduceBNe,Int.reduceAdd,Int.reduceSub,Int.cast_ofNat_Int]
 refine callA_tt C3 ?_
 cases q3 with
 | false=>simp (maxSteps:=1000000) -implicitDefEqProofs only [go_sem,awp_seq,Nat.reduceBNe,Nat.reduceBEq,Nat.reduceAdd,Nat.reduceSub,Nat.reduceMul,Nat.reduceLeDiff,Nat.reduceLT,Nat.reduceEqDiff,Nat.reduceBneDiff,Int.reduceLE,Int.reduceLT,Int.reduceToNat,Int.reduceBEq,Int.reduceBNe,Int.reduceAdd,Int.reduceSub,Int.cast_ofNat_Int]
 | true =>
 simp (maxSteps:=1000000) -implicitDefEqProofs only [go_sem,awp_seq,Nat.reduceBNe,Nat.reduceBEq,Nat.reduceAdd,Nat.reduceSub,Nat.reduceMul,Nat.reduceLeDiff,Nat.reduceLT,Nat.reduceEqDiff,Nat.reduceBneDiff,Int.reduceLE,Int.reduceLT,Int.reduceToNat,Int.reduceBEq,Int.reduceBNe,Int.reduceAdd,Int.reduceSub,Int.cast_ofNat_Int]
 cases c4:decide (hi<lo)with
 | true=>simp (maxSteps:=1000000) -implicitDefEqProofs only [c4,go_sem,awp_seq,Nat.reduceBNe,Nat.reduceBEq,Nat.reduceAdd,Nat.reduceSub,Nat.reduceMul,Nat.reduceLeDiff,Nat.reduceLT,Nat.reduceEqDiff,Nat.reduceBneDiff,Int.reduceLE,Int.reduceLT,Int.reduceToNat,Int.reduceBEq,Int.reduceBNe,Int.reduceAdd,Int.reduceSub,Int.cast_ofNat_Int]
 | false=>simp (maxSteps:=1000000) -implicitDefEqProofs only [c4,go_sem,awp_seq,Nat.reduceBNe,Nat.reduceBEq,Nat.reduceAdd,Nat.reduceSub,Nat.reduceMul,Nat.reduceLeDiff,Nat.reduceLT,Nat.reduceEqDiff,Nat.reduceBneDiff,Int.reduceLE,Int.reduceLT,Int.reduceToNat,Int.reduceBEq,Int.reduceBNe,Int.reduceAdd,Int.reduceSub,Int.cast_ofNat_Int]
def r33E6 (n lo hi:Int) (code:List UInt8):Int:=bif !(code.isEmpty) then 1 else bif !(withinB lo 0 9999999) then 3 else bif !(withinB hi 0 9999999) then 3 else bif !(withinB n 1 9999999) then 3 else bif (lo == 0) then 3 else bif decide (hi<lo) then 23 else 0
set_option maxRecDepth 10000 in
set_option maxHeartbeats 2000000 in
theorem rule6_c (n lo hi:Int) (code:List UInt8):AT 40 [ruleA ⟨6,n,lo,hi,code⟩] (i64 (r33E6 n lo hi code)):=by
 unfold r33E6
 have W0:=within33_c 6 1 9
 rw [show withinB 6 1 9=true from rfl]at W0
 have C1:=within33_c lo 0 9999999
 have C2:=within33_c hi 0 9999999
 have C3:=within33_c n 1 9999999
 generalize withinB lo 0 9999999=q1 at *
 generalize withinB hi 0 9999999=q2 at *
 generalize withinB n 1 9999999=q3 at *
 refine ACalls.of ⟨8,[],[]⟩ (fn:=Tryz.f40) Tryz.func40 rfl rfl rfl (by kernel_rfl) (by kernel_rfl) (Nat.le_of_ble_eq_true rfl) ?_
 simp (maxSteps:=1000000) -implicitDefEqProofs only [go_sem,awp_seq,Nat.reduceBNe,Nat.reduceBEq,Nat.reduceAdd,Nat.reduceSub,Nat.reduceMul,Nat.reduceLeDiff,Nat.reduceLT,Nat.reduceEqDiff,Nat.reduceBneDiff,Int.reduceLE,Int.reduceLT,Int.reduceToNat,Int.reduceBEq,Int.reduceBNe,Int.reduceAdd,Int.reduceSub,Int.cast_ofNat_Int]
 refine callA_tt W0 ?_
 simp (maxSteps:=1000000) -implicitDefEqProofs only [go_sem,awp_seq,Nat.reduceBNe,Nat.reduceBEq,Nat.reduceAdd,Nat.reduceSub,Nat.reduceMul,Nat.reduceLeDiff,Nat.reduceLT,Nat.reduceEqDiff,Nat.reduceBneDiff,Int.reduceLE,Int.reduceLT,Int.reduceToNat,Int.reduceBEq,Int.reduceBNe,Int.reduceAdd,Int.reduceSub,Int.cast_ofNat_Int]
 refine callA_tt uses6 ?_
 simp (maxSteps:=1000000) -implicitDefEqProofs only [mk_bs,toList_bs,seq_nil,go_sem,awp_seq,Nat.reduceBNe,Nat.reduceBEq,Nat.reduceAdd,Nat.reduceSub,Nat.reduceMul,Nat.reduceLeDiff,Nat.reduceLT,Nat.reduceEqDiff,Nat.reduceBneDiff,Int.reduceLE,Int.reduceLT,Int.reduceToNat,Int.reduceBEq,Int.reduceBNe,Int.reduceAdd,Int.reduceSub,Int.cast_ofNat_Int]
 cases c0:code.isEmpty with
 | false=>simp (maxSteps:=1000000) -implicitDefEqProofs only [c0,go_sem,awp_seq,Nat.reduceBNe,Nat.reduceBEq,Nat.reduceAdd,Nat.reduceSub,Nat.reduceMul,Nat.reduceLeDiff,Nat.reduceLT,Nat.reduceEqDiff,Nat.reduceBneDiff,Int.reduceLE,Int.reduceLT,Int.reduceToNat,Int.reduceBEq,Int.reduceBNe,Int.reduceAdd,Int.reduceSub,Int.cast_ofNat_Int]
 | true =>
 simp (maxSteps:=1000000) -implicitDefEqProofs only [c0,go_sem,awp_seq,Nat.reduceBNe,Nat.reduceBEq,Nat.reduceAdd,Nat.reduceSub,Nat.reduceMul,Nat.reduceLeDiff,Nat.reduceLT,Nat.reduceEqDiff,Nat.reduceBneDiff,Int.reduceLE,Int.reduceLT,Int.reduceToNat,Int.reduceBEq,Int.reduceBNe,Int.reduceAdd,Int.reduceSub,Int.cast_ofNat_Int]
 refine callA_tt C1 ?_
 cases q1 with
 | false=>simp (maxSteps:=1000000) -implicitDefEqProofs only [go_sem,awp_seq,Nat.reduceBNe,Nat.reduceBEq,Nat.reduceAdd,Nat.reduceSub,Nat.reduceMul,Nat.reduceLeDiff,Nat.reduceLT,Nat.reduceEqDiff,Nat.reduceBneDiff,Int.reduceLE,Int.reduceLT,Int.reduceToNat,Int.reduceBEq,Int.reduceBNe,Int.reduceAdd,Int.reduceSub,Int.cast_ofNat_Int]
 | true =>
 simp (maxSteps:=1000000) -implicitDefEqProofs only [go_sem,awp_seq,Nat.reduceBNe,Nat.reduceBEq,Nat.reduceAdd,Nat.reduceSub,Nat.reduceMul,Nat.reduceLeDiff,Nat.reduceLT,Nat.reduceEqDiff,Nat.reduceBneDiff,Int.reduceLE,Int.reduceLT,Int.reduceToNat,Int.reduceBEq,Int.reduceBNe,Int.reduceAdd,Int.reduceSub,Int.cast_ofNat_Int]
 refine callA_tt C2 ?_
 cases q2 with
 | false=>simp (maxSteps:=1000000) -implicitDefEqProofs only [go_sem,awp_seq,Nat.reduceBNe,Nat.reduceBEq,Nat.reduceAdd,Nat.reduceSub,Nat.reduceMul,Nat.reduceLeDiff,Nat.reduceLT,Nat.reduceEqDiff,Nat.reduceBneDiff,Int.reduceLE,Int.reduceLT,Int.reduceToNat,Int.reduceBEq,Int.reduceBNe,Int.reduceAdd,Int.reduceSub,Int.cast_ofNat_Int]
 | true =>
 simp (maxSteps:=1000000) -implicitDefEqProofs only [go_sem,awp_seq,Nat.reduceBNe,Nat.reduceBEq,Nat.reduceAdd,Nat.reduceSub,Nat.reduceMul,Nat.reduceLeDiff,Nat.reduceLT,Nat.reduceEqDiff,Nat.reduceBneDiff,Int.reduceLE,Int.reduceLT,Int.reduceToNat,Int.reduceBEq,Int.reduceBNe,Int.reduceAdd,Int.reduceSub,Int.cast_ofNat_Int]
 refine callA_tt C3 ?_
 cases q3 with
 | false=>simp (maxSteps:=1000000) -implicitDefEqProofs only [go_sem,awp_seq,Nat.reduceBNe,Nat.reduceBEq,Nat.reduceAdd,Nat.reduceSub,Nat.reduceMul,Nat.reduceLeDiff,Nat.reduceLT,Nat.reduceEqDiff,Nat.reduceBneDiff,Int.reduceLE,Int.reduceLT,Int.reduceToNat,Int.reduceBEq,Int.reduceBNe,Int.reduceAdd,Int.reduceSub,Int.cast_ofNat_Int]
 | true =>
 simp (maxSteps:=1000000) -implicitDefEqProofs only [go_sem,awp_seq,Nat.reduceBNe,Nat.reduceBEq,Nat.reduceAdd,Nat.reduceSub,Nat.reduceMul,Nat.reduceLeDiff,Nat.reduceLT,Nat.reduceEqDiff,Nat.reduceBneDiff,Int.reduceLE,Int.reduceLT,Int.reduceToNat,Int.reduceBEq,Int.reduceBNe,Int.reduceAdd,Int.reduceSub,Int.cast_ofNat_Int]
 cases c4:(lo == 0)with
 | true=>simp (maxSteps:=1000000) -implicitDefEqProofs only [c4,go_sem,awp_seq,Nat.reduceBNe,Nat.reduceBEq,Nat.reduceAdd,Nat.reduceSub,Nat.reduceMul,Nat.reduceLeDiff,Nat.reduceLT,Nat.reduceEqDiff,Nat.reduceBneDiff,Int.reduceLE,Int.reduceLT,Int.reduceToNat,Int.reduceBEq,Int.reduceBNe,Int.reduceAdd,Int.reduceSub,Int.cast_ofNat_Int]
 | false =>
 simp (maxSteps:=1000000) -implicitDefEqProofs only [c4,go_sem,awp_seq,Nat.reduceBNe,Nat.reduceBEq,Nat.reduceAdd,Nat.reduceSub,Nat.reduceMul,Nat.reduceLeDiff,Nat.reduceLT,Nat.reduceEqDiff,Nat.reduceBneDiff,Int.reduceLE,Int.reduceLT,Int.reduceToNat,Int.reduceBEq,Int.reduceBNe,Int.reduceAdd,Int.reduceSub,Int.cast_ofNat_Int]
 cases c5:decide (hi<lo)with
 | true=>simp (maxSteps:=1000000) -implicitDefEqProofs only [c5,go_sem,awp_seq,Nat.reduceBNe,Nat.reduceBEq,Nat.reduceAdd,Nat.reduceSub,Nat.reduceMul,Nat.reduceLeDiff,Nat.reduceLT,Nat.reduceEqDiff,Nat.reduceBneDiff,Int.reduceLE,Int.reduceLT,Int.reduceToNat,Int.reduceBEq,Int.reduceBNe,Int.reduceAdd,Int.reduceSub,Int.cast_ofNat_Int]
 | false=>simp (maxSteps:=1000000) -implicitDefEqProofs only [c5,go_sem,awp_seq,Nat.reduceBNe,Nat.reduceBEq,Nat.reduceAdd,Nat.reduceSub,Nat.reduceMul,Nat.reduceLeDiff,Nat.reduceLT,Nat.reduceEqDiff,Nat.reduceBneDiff,Int.reduceLE,Int.reduceLT,Int.reduceToNat,Int.reduceBEq,Int.reduceBNe,Int.reduceAdd,Int.reduceSub,Int.cast_ofNat_Int]
def r33E7 (n lo hi:Int) (code:List UInt8):Int:=bif !(code.isEmpty) then 1 else bif (lo != 0) then 1 else bif (hi != 0) then 1 else bif !(withinB lo 0 9999999) then 3 else bif !(withinB hi 0 9999999) then 3 else bif !(withinB n 1 9999999) then 3 else bif decide (hi<lo) then 23 else 0
set_option maxRecDepth 10000 in
set_option maxHeartbeats 2000000 in
theorem rule7_c (n lo hi:Int) (code:List UInt8):AT 40 [ruleA ⟨7,n,lo,hi,code⟩] (i64 (r33E7 n lo hi code)):=by
 unfold r33E7
 have W0:=within33_c 7 1 9
 rw [show withinB 7 1 9=true from rfl]at W0
 have C3:=within33_c lo 0 9999999
 have C4:=within33_c hi 0 9999999
 have C5:=within33_c n 1 9999999
 generalize withinB lo 0 9999999=q3 at *
 generalize withinB hi 0 9999999=q4 at *
 generalize withinB n 1 9999999=q5 at *
 refine ACalls.of ⟨8,[],[]⟩ (fn:=Tryz.f40) Tryz.func40 rfl rfl rfl (by kernel_rfl) (by kernel_rfl) (Nat.le_of_ble_eq_true rfl) ?_
 simp (maxSteps:=1000000) -implicitDefEqProofs only [go_sem,awp_seq,Nat.reduceBNe,Nat.reduceBEq,Nat.reduceAdd,Nat.reduceSub,Nat.reduceMul,Nat.reduceLeDiff,Nat.reduceLT,Nat.reduceEqDiff,Nat.reduceBneDiff,Int.reduceLE,Int.reduceLT,Int.reduceToNat,Int.reduceBEq,Int.reduceBNe,Int.reduceAdd,Int.reduceSub,Int.cast_ofNat_Int]
 refine callA_tt W0 ?_
 simp (maxSteps:=1000000) -implicitDefEqProofs only [go_sem,awp_seq,Nat.reduceBNe,Nat.reduceBEq,Nat.reduceAdd,Nat.reduceSub,Nat.reduceMul,Nat.reduceLeDiff,Nat.reduceLT,Nat.reduceEqDiff,Nat.reduceBneDiff,Int.reduceLE,Int.reduceLT,Int.reduceToNat,Int.reduceBEq,Int.reduceBNe,Int.reduceAdd,Int.reduceSub,Int.cast_ofNat_Int]
 refine callA_tt uses7 ?_
 simp (maxSteps:=1000000) -implicitDefEqProofs only [mk_bs,toList_bs,seq_nil,go_sem,awp_seq,Nat.reduceBNe,Nat.reduceBEq,Nat.reduceAdd,Nat.reduceSub,Nat.reduceMul,Nat.reduceLeDiff,Nat.reduceLT,Nat.reduceEqDiff,Nat.reduceBneDiff,Int.reduceLE,Int.reduceLT,Int.reduceToNat,Int.reduceBEq,Int.reduceBNe,Int.reduceAdd,Int.reduceSub,Int.cast_ofNat_Int]
 cases c0:code.isEmpty with
 | false=>simp (maxSteps:=1000000) -implicitDefEqProofs only [c0,go_sem,awp_seq,Nat.reduceBNe,Nat.reduceBEq,Nat.reduceAdd,Nat.reduceSub,Nat.reduceMul,Nat.reduceLeDiff,Nat.reduceLT,Nat.reduceEqDiff,Nat.reduceBneDiff,Int.reduceLE,Int.reduceLT,Int.reduceToNat,Int.reduceBEq,Int.reduceBNe,Int.reduceAdd,Int.reduceSub,Int.cast_ofNat_Int]
 | true =>
 simp (maxSteps:=1000000) -implicitDefEqProofs only [c0,go_sem,awp_seq,Nat.reduceBNe,Nat.reduceBEq,Nat.reduceAdd,Nat.reduceSub,Nat.reduceMul,Nat.reduceLeDiff,Nat.reduceLT,Nat.reduceEqDiff,Nat.reduceBneDiff,Int.reduceLE,Int.reduceLT,Int.reduceToNat,Int.reduceBEq,Int.reduceBNe,Int.reduceAdd,Int.reduceSub,Int.cast_ofNat_Int]
 cases c1:(lo != 0)with
 | true=>simp (maxSteps:=1000000) -implicitDefEqProofs only [c1,go_sem,awp_seq,Nat.reduceBNe,Nat.reduceBEq,Nat.reduceAdd,Nat.reduceSub,Nat.reduceMul,Nat.reduceLeDiff,Nat.reduceLT,Nat.reduceEqDiff,Nat.reduceBneDiff,Int.reduceLE,Int.reduceLT,Int.reduceToNat,Int.reduceBEq,Int.reduceBNe,Int.reduceAdd,Int.reduceSub,Int.cast_ofNat_Int]
 | false =>
 simp (maxSteps:=1000000) -implicitDefEqProofs only [c1,go_sem,awp_seq,Nat.reduceBNe,Nat.reduceBEq,Nat.reduceAdd,Nat.reduceSub,Nat.reduceMul,Nat.reduceLeDiff,Nat.reduceLT,Nat.reduceEqDiff,Nat.reduceBneDiff,Int.reduceLE,Int.reduceLT,Int.reduceToNat,Int.reduceBEq,Int.reduceBNe,Int.reduceAdd,Int.reduceSub,Int.cast_ofNat_Int]
 cases c2:(hi != 0)with
 | true=>simp (maxSteps:=1000000) -implicitDefEqProofs only [c2,go_sem,awp_seq,Nat.reduceBNe,Nat.reduceBEq,Nat.reduceAdd,Nat.reduceSub,Nat.reduceMul,Nat.reduceLeDiff,Nat.reduceLT,Nat.reduceEqDiff,Nat.reduceBneDiff,Int.reduceLE,Int.reduceLT,Int.reduceToNat,Int.reduceBEq,Int.reduceBNe,Int.reduceAdd,Int.reduceSub,Int.cast_ofNat_Int]
 | false =>
 simp (maxSteps:=1000000) -implicitDefEqProofs only [c2,go_sem,awp_seq,Nat.reduceBNe,Nat.reduceBEq,Nat.reduceAdd,Nat.reduceSub,Nat.reduceMul,Nat.reduceLeDiff,Nat.reduceLT,Nat.reduceEqDiff,Nat.reduceBneDiff,Int.reduceLE,Int.reduceLT,Int.reduceToNat,Int.reduceBEq,Int.reduceBNe,Int.reduceAdd,Int.reduceSub,Int.cast_ofNat_Int]
 refine callA_tt C3 ?_
 cases q3 with
 | false=>simp (maxSteps:=1000000) -implicitDefEqProofs only [go_sem,awp_seq,Nat.reduceBNe,Nat.reduceBEq,Nat.reduceAdd,Nat.reduceSub,Nat.reduceMul,Nat.reduceLeDiff,Nat.reduceLT,Nat.reduceEqDiff,Nat.reduceBneDiff,Int.reduceLE,Int.reduceLT,Int.reduceToNat,Int.reduceBEq,Int.reduceBNe,Int.reduceAdd,Int.reduceSub,Int.cast_ofNat_Int]
 | true =>
 simp (maxSteps:=1000000) -implicitDefEqProofs only [go_sem,awp_seq,Nat.reduceBNe,Nat.reduceBEq,Nat.reduceAdd,Nat.reduceSub,Nat.reduceMul,Nat.reduceLeDiff,Nat.reduceLT,Nat.reduceEqDiff,Nat.reduceBneDiff,Int.reduceLE,Int.reduceLT,Int.reduceToNat,Int.reduceBEq,Int.reduceBNe,Int.reduceAdd,Int.reduceSub,Int.cast_ofNat_Int]
 refine callA_tt C4 ?_
 cases q4 with
 | false=>simp (maxSteps:=1000000) -implicitDefEqProofs only [go_sem,awp_seq,Nat.reduceBNe,Nat.reduceBEq,Nat.reduceAdd,Nat.reduceSub,Nat.reduceMul,Nat.reduceLeDiff,Nat.reduceLT,Nat.reduceEqDiff,Nat.reduceBneDiff,Int.reduceLE,Int.reduceLT,Int.reduceToNat,Int.reduceBEq,Int.reduceBNe,Int.reduceAdd,Int.reduceSub,Int.cast_ofNat_Int]
 | true =>
 simp (maxSteps:=1000000) -implicitDefEqProofs only [go_sem,awp_seq,Nat.reduceBNe,Nat.reduceBEq,Nat.reduceAdd,Nat.reduceSub,Nat.reduceMul,Nat.reduceLeDiff,Nat.reduceLT,Nat.reduceEqDiff,Nat.reduceBneDiff,Int.reduceLE,Int.reduceLT,Int.reduceToNat,Int.reduceBEq,Int.reduceBNe,Int.reduceAdd,Int.reduceSub,Int.cast_ofNat_Int]
 refine callA_tt C5 ?_
 cases q5 with
 | false=>simp (maxSteps:=1000000) -implicitDefEqProofs only [go_sem,awp_seq,Nat.reduceBNe,Nat.reduceBEq,Nat.reduceAdd,Nat.reduceSub,Nat.reduceMul,Nat.reduceLeDiff,Nat.reduceLT,Nat.reduceEqDiff,Nat.reduceBneDiff,Int.reduceLE,Int.reduceLT,Int.reduceToNat,Int.reduceBEq,Int.reduceBNe,Int.reduceAdd,Int.reduceSub,Int.cast_ofNat_Int]
 | true =>
 simp (maxSteps:=1000000) -implicitDefEqProofs only [go_sem,awp_seq,Nat.reduceBNe,Nat.reduceBEq,Nat.reduceAdd,Nat.reduceSub,Nat.reduceMul,Nat.reduceLeDiff,Nat.reduceLT,Nat.reduceEqDiff,Nat.reduceBneDiff,Int.reduceLE,Int.reduceLT,Int.reduceToNat,Int.reduceBEq,Int.reduceBNe,Int.reduceAdd,Int.reduceSub,Int.cast_ofNat_Int]
 cases c6:decide (hi<lo)with
 | true=>simp (maxSteps:=1000000) -implicitDefEqProofs only [c6,go_sem,awp_seq,Nat.reduceBNe,Nat.reduceBEq,Nat.reduceAdd,Nat.reduceSub,Nat.reduceMul,Nat.reduceLeDiff,Nat.reduceLT,Nat.reduceEqDiff,Nat.reduceBneDiff,Int.reduceLE,Int.reduceLT,Int.reduceToNat,Int.reduceBEq,Int.reduceBNe,Int.reduceAdd,Int.reduceSub,Int.cast_ofNat_Int]
 | false=>simp (maxSteps:=1000000) -implicitDefEqProofs only [c6,go_sem,awp_seq,Nat.reduceBNe,Nat.reduceBEq,Nat.reduceAdd,Nat.reduceSub,Nat.reduceMul,Nat.reduceLeDiff,Nat.reduceLT,Nat.reduceEqDiff,Nat.reduceBneDiff,Int.reduceLE,Int.reduceLT,Int.reduceToNat,Int.reduceBEq,Int.reduceBNe,Int.reduceAdd,Int.reduceSub,Int.cast_ofNat_Int]
def r33E8 (n lo hi:Int) (code:List UInt8):Int:=bif !(code.isEmpty) then 1 else bif (lo != 0) then 1 else bif (hi != 0) then 1 else bif !(withinB lo 0 9999999) then 3 else bif !(withinB hi 0 9999999) then 3 else bif !(withinB n 1 9999999) then 3 else bif decide (hi<lo) then 23 else 0
set_option maxRecDepth 10000 in
set_option maxHeartbeats 2000000 in
theorem rule8_c (n lo hi:Int) (code:List UInt8):AT 40 [ruleA ⟨8,n,lo,hi,code⟩] (i64 (r33E8 n lo hi code)):=by
 unfold r33E8
 have W0:=within33_c 8 1 9
 rw [show withinB 8 1 9=true from rfl]at W0
 have C3:=within33_c lo 0 9999999
 have C4:=within33_c hi 0 9999999
 have C5:=within33_c n 1 9999999
 generalize withinB lo 0 9999999=q3 at *
 generalize withinB hi 0 9999999=q4 at *
 generalize withinB n 1 9999999=q5 at *
 refine ACalls.of ⟨8,[],[]⟩ (fn:=Tryz.f40) Tryz.func40 rfl rfl rfl (by kernel_rfl) (by kernel_rfl) (Nat.le_of_ble_eq_true rfl) ?_
 simp (maxSteps:=1000000) -implicitDefEqProofs only [go_sem,awp_seq,Nat.reduceBNe,Nat.reduceBEq,Nat.reduceAdd,Nat.reduceSub,Nat.reduceMul,Nat.reduceLeDiff,Nat.reduceLT,Nat.reduceEqDiff,Nat.reduceBneDiff,Int.reduceLE,Int.reduceLT,Int.reduceToNat,Int.reduceBEq,Int.reduceBNe,Int.reduceAdd,Int.reduceSub,Int.cast_ofNat_Int]
 refine callA_tt W0 ?_
 simp (maxSteps:=1000000) -implicitDefEqProofs only [go_sem,awp_seq,Nat.reduceBNe,Nat.reduceBEq,Nat.reduceAdd,Nat.reduceSub,Nat.reduceMul,Nat.reduceLeDiff,Nat.reduceLT,Nat.reduceEqDiff,Nat.reduceBneDiff,Int.reduceLE,Int.reduceLT,Int.reduceToNat,Int.reduceBEq,Int.reduceBNe,Int.reduceAdd,Int.reduceSub,Int.cast_ofNat_Int]
 refine callA_tt uses8 ?_
 simp (maxSteps:=1000000) -implicitDefEqProofs only [mk_bs,toList_bs,seq_nil,go_sem,awp_seq,Nat.reduceBNe,Nat.reduceBEq,Nat.reduceAdd,Nat.reduceSub,Nat.reduceMul,Nat.reduceLeDiff,Nat.reduceLT,Nat.reduceEqDiff,Nat.reduceBneDiff,Int.reduceLE,Int.reduceLT,Int.reduceToNat,Int.reduceBEq,Int.reduceBNe,Int.reduceAdd,Int.reduceSub,Int.cast_ofNat_Int]
 cases c0:code.isEmpty with
 | false=>simp (maxSteps:=1000000) -implicitDefEqProofs only [c0,go_sem,awp_seq,Nat.reduceBNe,Nat.reduceBEq,Nat.reduceAdd,Nat.reduceSub,Nat.reduceMul,Nat.reduceLeDiff,Nat.reduceLT,Nat.reduceEqDiff,Nat.reduceBneDiff,Int.reduceLE,Int.reduceLT,Int.reduceToNat,Int.reduceBEq,Int.reduceBNe,Int.reduceAdd,Int.reduceSub,Int.cast_ofNat_Int]
 | true =>
 simp (maxSteps:=1000000) -implicitDefEqProofs only [c0,go_sem,awp_seq,Nat.reduceBNe,Nat.reduceBEq,Nat.reduceAdd,Nat.reduceSub,Nat.reduceMul,Nat.reduceLeDiff,Nat.reduceLT,Nat.reduceEqDiff,Nat.reduceBneDiff,Int.reduceLE,Int.reduceLT,Int.reduceToNat,Int.reduceBEq,Int.reduceBNe,Int.reduceAdd,Int.reduceSub,Int.cast_ofNat_Int]
 cases c1:(lo != 0)with
 | true=>simp (maxSteps:=1000000) -implicitDefEqProofs only [c1,go_sem,awp_seq,Nat.reduceBNe,Nat.reduceBEq,Nat.reduceAdd,Nat.reduceSub,Nat.reduceMul,Nat.reduceLeDiff,Nat.reduceLT,Nat.reduceEqDiff,Nat.reduceBneDiff,Int.reduceLE,Int.reduceLT,Int.reduceToNat,Int.reduceBEq,Int.reduceBNe,Int.reduceAdd,Int.reduceSub,Int.cast_ofNat_Int]
 | false =>
 simp (maxSteps:=1000000) -implicitDefEqProofs only [c1,go_sem,awp_seq,Nat.reduceBNe,Nat.reduceBEq,Nat.reduceAdd,Nat.reduceSub,Nat.reduceMul,Nat.reduceLeDiff,Nat.reduceLT,Nat.reduceEqDiff,Nat.reduceBneDiff,Int.reduceLE,Int.reduceLT,Int.reduceToNat,Int.reduceBEq,Int.reduceBNe,Int.reduceAdd,Int.reduceSub,Int.cast_ofNat_Int]
 cases c2:(hi != 0)with
 | true=>simp (maxSteps:=1000000) -implicitDefEqProofs only [c2,go_sem,awp_seq,Nat.reduceBNe,Nat.reduceBEq,Nat.reduceAdd,Nat.reduceSub,Nat.reduceMul,Nat.reduceLeDiff,Nat.reduceLT,Nat.reduceEqDiff,Nat.reduceBneDiff,Int.reduceLE,Int.reduceLT,Int.reduceToNat,Int.reduceBEq,Int.reduceBNe,Int.reduceAdd,Int.reduceSub,Int.cast_ofNat_Int]
 | false =>
 simp (maxSteps:=1000000) -implicitDefEqProofs only [c2,go_sem,awp_seq,Nat.reduceBNe,Nat.reduceBEq,Nat.reduceAdd,Nat.reduceSub,Nat.reduceMul,Nat.reduceLeDiff,Nat.reduceLT,Nat.reduceEqDiff,Nat.reduceBneDiff,Int.reduceLE,Int.reduceLT,Int.reduceToNat,Int.reduceBEq,Int.reduceBNe,Int.reduceAdd,Int.reduceSub,Int.cast_ofNat_Int]
 refine callA_tt C3 ?_
 cases q3 with
 | false=>simp (maxSteps:=1000000) -implicitDefEqProofs only [go_sem,awp_seq,Nat.reduceBNe,Nat.reduceBEq,Nat.reduceAdd,Nat.reduceSub,Nat.reduceMul,Nat.reduceLeDiff,Nat.reduceLT,Nat.reduceEqDiff,Nat.reduceBneDiff,Int.reduceLE,Int.reduceLT,Int.reduceToNat,Int.reduceBEq,Int.reduceBNe,Int.reduceAdd,Int.reduceSub,Int.cast_ofNat_Int]
 | true =>
 simp (maxSteps:=1000000) -implicitDefEqProofs only [go_sem,awp_seq,Nat.reduceBNe,Nat.reduceBEq,Nat.reduceAdd,Nat.reduceSub,Nat.reduceMul,Nat.reduceLeDiff,Nat.reduceLT,Nat.reduceEqDiff,Nat.reduceBneDiff,Int.reduceLE,Int.reduceLT,Int.reduceToNat,Int.reduceBEq,Int.reduceBNe,Int.reduceAdd,Int.reduceSub,Int.cast_ofNat_Int]
 refine callA_tt C4 ?_
 cases q4 with
 | false=>simp (maxSteps:=1000000) -implicitDefEqProofs only [go_sem,awp_seq,Nat.reduceBNe,Nat.reduceBEq,Nat.reduceAdd,Nat.reduceSub,Nat.reduceMul,Nat.reduceLeDiff,Nat.reduceLT,Nat.reduceEqDiff,Nat.reduceBneDiff,Int.reduceLE,Int.reduceLT,Int.reduceToNat,Int.reduceBEq,Int.reduceBNe,Int.reduceAdd,Int.reduceSub,Int.cast_ofNat_Int]
 | true =>
 simp (maxSteps:=1000000) -implicitDefEqProofs only [go_sem,awp_seq,Nat.reduceBNe,Nat.reduceBEq,Nat.reduceAdd,Nat.reduceSub,Nat.reduceMul,Nat.reduceLeDiff,Nat.reduceLT,Nat.reduceEqDiff,Nat.reduceBneDiff,Int.reduceLE,Int.reduceLT,Int.reduceToNat,Int.reduceBEq,Int.reduceBNe,Int.reduceAdd,Int.reduceSub,Int.cast_ofNat_Int]
 refine callA_tt C5 ?_
 cases q5 with
 | false=>simp (maxSteps:=1000000) -implicitDefEqProofs only [go_sem,awp_seq,Nat.reduceBNe,Nat.reduceBEq,Nat.reduceAdd,Nat.reduceSub,Nat.reduceMul,Nat.reduceLeDiff,Nat.reduceLT,Nat.reduceEqDiff,Nat.reduceBneDiff,Int.reduceLE,Int.reduceLT,Int.reduceToNat,Int.reduceBEq,Int.reduceBNe,Int.reduceAdd,Int.reduceSub,Int.cast_ofNat_Int]
 | true =>
 simp (maxSteps:=1000000) -implicitDefEqProofs only [go_sem,awp_seq,Nat.reduceBNe,Nat.reduceBEq,Nat.reduceAdd,Nat.reduceSub,Nat.reduceMul,Nat.reduceLeDiff,Nat.reduceLT,Nat.reduceEqDiff,Nat.reduceBneDiff,Int.reduceLE,Int.reduceLT,Int.reduceToNat,Int.reduceBEq,Int.reduceBNe,Int.reduceAdd,Int.reduceSub,Int.cast_ofNat_Int]
 cases c6:decide (hi<lo)with
 | true=>simp (maxSteps:=1000000) -implicitDefEqProofs only [c6,go_sem,awp_seq,Nat.reduceBNe,Nat.reduceBEq,Nat.reduceAdd,Nat.reduceSub,Nat.reduceMul,Nat.reduceLeDiff,Nat.reduceLT,Nat.reduceEqDiff,Nat.reduceBneDiff,Int.reduceLE,Int.reduceLT,Int.reduceToNat,Int.reduceBEq,Int.reduceBNe,Int.reduceAdd,Int.reduceSub,Int.cast_ofNat_Int]
 | false=>simp (maxSteps:=1000000) -implicitDefEqProofs only [c6,go_sem,awp_seq,Nat.reduceBNe,Nat.reduceBEq,Nat.reduceAdd,Nat.reduceSub,Nat.reduceMul,Nat.reduceLeDiff,Nat.reduceLT,Nat.reduceEqDiff,Nat.reduceBneDiff,Int.reduceLE,Int.reduceLT,Int.reduceToNat,Int.reduceBEq,Int.reduceBNe,Int.reduceAdd,Int.reduceSub,Int.cast_ofNat_Int]
def r33E9 (n lo hi:Int) (code:List UInt8):Int:=bif !(code.isEmpty) then 1 else bif (n != 0) then 1 else bif (lo != 0) then 1 else bif (hi != 0) then 1 else bif !(withinB lo 0 9999999) then 3 else bif !(withinB hi 0 9999999) then 3 else bif decide (hi<lo) then 23 else 0
set_option maxRecDepth 10000 in
set_option maxHeartbeats 2000000 in
theorem rule9_c (n lo hi:Int) (code:List UInt8):AT 40 [ruleA ⟨9,n,lo,hi,code⟩] (i64 (r33E9 n lo hi code)):=by
 unfold r33E9
 have W0:=within33_c 9 1 9
 rw [show withinB 9 1 9=true from rfl]at W0
 have C4:=within33_c lo 0 9999999
 have C5:=within33_c hi 0 9999999
 generalize withinB lo 0 9999999=q4 at *
 generalize withinB hi 0 9999999=q5 at *
 refine ACalls.of ⟨8,[],[]⟩ (fn:=Tryz.f40) Tryz.func40 rfl rfl rfl (by kernel_rfl) (by kernel_rfl) (Nat.le_of_ble_eq_true rfl) ?_
 simp (maxSteps:=1000000) -implicitDefEqProofs only [go_sem,awp_seq,Nat.reduceBNe,Nat.reduceBEq,Nat.reduceAdd,Nat.reduceSub,Nat.reduceMul,Nat.reduceLeDiff,Nat.reduceLT,Nat.reduceEqDiff,Nat.reduceBneDiff,Int.reduceLE,Int.reduceLT,Int.reduceToNat,Int.reduceBEq,Int.reduceBNe,Int.reduceAdd,Int.reduceSub,Int.cast_ofNat_Int]
 refine callA_tt W0 ?_
 simp (maxSteps:=1000000) -implicitDefEqProofs only [go_sem,awp_seq,Nat.reduceBNe,Nat.reduceBEq,Nat.reduceAdd,Nat.reduceSub,Nat.reduceMul,Nat.reduceLeDiff,Nat.reduceLT,Nat.reduceEqDiff,Nat.reduceBneDiff,Int.reduceLE,Int.reduceLT,Int.reduceToNat,Int.reduceBEq,Int.reduceBNe,Int.reduceAdd,Int.reduceSub,Int.cast_ofNat_Int]
 refine callA_tt uses9 ?_
 simp (maxSteps:=1000000) -implicitDefEqProofs only [mk_bs,toList_bs,seq_nil,go_sem,awp_seq,Nat.reduceBNe,Nat.reduceBEq,Nat.reduceAdd,Nat.reduceSub,Nat.reduceMul,Nat.reduceLeDiff,Nat.reduceLT,Nat.reduceEqDiff,Nat.reduceBneDiff,Int.reduceLE,Int.reduceLT,Int.reduceToNat,Int.reduceBEq,Int.reduceBNe,Int.reduceAdd,Int.reduceSub,Int.cast_ofNat_Int]
 cases c0:code.isEmpty with
 | false=>simp (maxSteps:=1000000) -implicitDefEqProofs only [c0,go_sem,awp_seq,Nat.reduceBNe,Nat.reduceBEq,Nat.reduceAdd,Nat.reduceSub,Nat.reduceMul,Nat.reduceLeDiff,Nat.reduceLT,Nat.reduceEqDiff,Nat.reduceBneDiff,Int.reduceLE,Int.reduceLT,Int.reduceToNat,Int.reduceBEq,Int.reduceBNe,Int.reduceAdd,Int.reduceSub,Int.cast_ofNat_Int]
 | true =>
 simp (maxSteps:=1000000) -implicitDefEqProofs only [c0,go_sem,awp_seq,Nat.reduceBNe,Nat.reduceBEq,Nat.reduceAdd,Nat.reduceSub,Nat.reduceMul,Nat.reduceLeDiff,Nat.reduceLT,Nat.reduceEqDiff,Nat.reduceBneDiff,Int.reduceLE,Int.reduceLT,Int.reduceToNat,Int.reduceBEq,Int.reduceBNe,Int.reduceAdd,Int.reduceSub,Int.cast_ofNat_Int]
 cases c1:(n != 0)with
 | true=>simp (maxSteps:=1000000) -implicitDefEqProofs only [c1,go_sem,awp_seq,Nat.reduceBNe,Nat.reduceBEq,Nat.reduceAdd,Nat.reduceSub,Nat.reduceMul,Nat.reduceLeDiff,Nat.reduceLT,Nat.reduceEqDiff,Nat.reduceBneDiff,Int.reduceLE,Int.reduceLT,Int.reduceToNat,Int.reduceBEq,Int.reduceBNe,Int.reduceAdd,Int.reduceSub,Int.cast_ofNat_Int]
 | false =>
 simp (maxSteps:=1000000) -implicitDefEqProofs only [c1,go_sem,awp_seq,Nat.reduceBNe,Nat.reduceBEq,Nat.reduceAdd,Nat.reduceSub,Nat.reduceMul,Nat.reduceLeDiff,Nat.reduceLT,Nat.reduceEqDiff,Nat.reduceBneDiff,Int.reduceLE,Int.reduceLT,Int.reduceToNat,Int.reduceBEq,Int.reduceBNe,Int.reduceAdd,Int.reduceSub,Int.cast_ofNat_Int]
 cases c2:(lo != 0)with
 | true=>simp (maxSteps:=1000000) -implicitDefEqProofs only [c2,go_sem,awp_seq,Nat.reduceBNe,Nat.reduceBEq,Nat.reduceAdd,Nat.reduceSub,Nat.reduceMul,Nat.reduceLeDiff,Nat.reduceLT,Nat.reduceEqDiff,Nat.reduceBneDiff,Int.reduceLE,Int.reduceLT,Int.reduceToNat,Int.reduceBEq,Int.reduceBNe,Int.reduceAdd,Int.reduceSub,Int.cast_ofNat_Int]
 | false =>
 simp (maxSteps:=1000000) -implicitDefEqProofs only [c2,go_sem,awp_seq,Nat.reduceBNe,Nat.reduceBEq,Nat.reduceAdd,Nat.reduceSub,Nat.reduceMul,Nat.reduceLeDiff,Nat.reduceLT,Nat.reduceEqDiff,Nat.reduceBneDiff,Int.reduceLE,Int.reduceLT,Int.reduceToNat,Int.reduceBEq,Int.reduceBNe,Int.reduceAdd,Int.reduceSub,Int.cast_ofNat_Int]
 cases c3:(hi != 0)with
 | true=>simp (maxSteps:=1000000) -implicitDefEqProofs only [c3,go_sem,awp_seq,Nat.reduceBNe,Nat.reduceBEq,Nat.reduceAdd,Nat.reduceSub,Nat.reduceMul,Nat.reduceLeDiff,Nat.reduceLT,Nat.reduceEqDiff,Nat.reduceBneDiff,Int.reduceLE,Int.reduceLT,Int.reduceToNat,Int.reduceBEq,Int.reduceBNe,Int.reduceAdd,Int.reduceSub,Int.cast_ofNat_Int]
 | false =>
 simp (maxSteps:=1000000) -implicitDefEqProofs only [c3,go_sem,awp_seq,Nat.reduceBNe,Nat.reduceBEq,Nat.reduceAdd,Nat.reduceSub,Nat.reduceMul,Nat.reduceLeDiff,Nat.reduceLT,Nat.reduceEqDiff,Nat.reduceBneDiff,Int.reduceLE,Int.reduceLT,Int.reduceToNat,Int.reduceBEq,Int.reduceBNe,Int.reduceAdd,Int.reduceSub,Int.cast_ofNat_Int]
 refine callA_tt C4 ?_
 cases q4 with
 | false=>simp (maxSteps:=1000000) -implicitDefEqProofs only [go_sem,awp_seq,Nat.reduceBNe,Nat.reduceBEq,Nat.reduceAdd,Nat.reduceSub,Nat.reduceMul,Nat.reduceLeDiff,Nat.reduceLT,Nat.reduceEqDiff,Nat.reduceBneDiff,Int.reduceLE,Int.reduceLT,Int.reduceToNat,Int.reduceBEq,Int.reduceBNe,Int.reduceAdd,Int.reduceSub,Int.cast_ofNat_Int]
 | true =>
 simp (maxSteps:=1000000) -implicitDefEqProofs only [go_sem,awp_seq,Nat.reduceBNe,Nat.reduceBEq,Nat.reduceAdd,Nat.reduceSub,Nat.reduceMul,Nat.reduceLeDiff,Nat.reduceLT,Nat.reduceEqDiff,Nat.reduceBneDiff,Int.reduceLE,Int.reduceLT,Int.reduceToNat,Int.reduceBEq,Int.reduceBNe,Int.reduceAdd,Int.reduceSub,Int.cast_ofNat_Int]
 refine callA_tt C5 ?_
 cases q5 with
 | false=>simp (maxSteps:=1000000) -implicitDefEqProofs only [go_sem,awp_seq,Nat.reduceBNe,Nat.reduceBEq,Nat.reduceAdd,Nat.reduceSub,Nat.reduceMul,Nat.reduceLeDiff,Nat.reduceLT,Nat.reduceEqDiff,Nat.reduceBneDiff,Int.reduceLE,Int.reduceLT,Int.reduceToNat,Int.reduceBEq,Int.reduceBNe,Int.reduceAdd,Int.reduceSub,Int.cast_ofNat_Int]
 | true =>
 simp (maxSteps:=1000000) -implicitDefEqProofs only [go_sem,awp_seq,Nat.reduceBNe,Nat.reduceBEq,Nat.reduceAdd,Nat.reduceSub,Nat.reduceMul,Nat.reduceLeDiff,Nat.reduceLT,Nat.reduceEqDiff,Nat.reduceBneDiff,Int.reduceLE,Int.reduceLT,Int.reduceToNat,Int.reduceBEq,Int.reduceBNe,Int.reduceAdd,Int.reduceSub,Int.cast_ofNat_Int]
 cases c6:decide (hi<lo)with
 | true=>simp (maxSteps:=1000000) -implicitDefEqProofs only [c6,go_sem,awp_seq,Nat.reduceBNe,Nat.reduceBEq,Nat.reduceAdd,Nat.reduceSub,Nat.reduceMul,Nat.reduceLeDiff,Nat.reduceLT,Nat.reduceEqDiff,Nat.reduceBneDiff,Int.reduceLE,Int.reduceLT,Int.reduceToNat,Int.reduceBEq,Int.reduceBNe,Int.reduceAdd,Int.reduceSub,Int.cast_ofNat_Int]
 | false=>simp (maxSteps:=1000000) -implicitDefEqProofs only [c6,go_sem,awp_seq,Nat.reduceBNe,Nat.reduceBEq,Nat.reduceAdd,Nat.reduceSub,Nat.reduceMul,Nat.reduceLeDiff,Nat.reduceLT,Nat.reduceEqDiff,Nat.reduceBneDiff,Int.reduceLE,Int.reduceLT,Int.reduceToNat,Int.reduceBEq,Int.reduceBNe,Int.reduceAdd,Int.reduceSub,Int.cast_ofNat_Int]
theorem ruleNone_c (r:RuleV) (h:r.k<1∨9<r.k):AT 40 [ruleA r] (i64 1):=by
 have W0:=within33_c r.k 1 9
 rw [show withinB r.k 1 9=false by simp [withinB];omega]at W0
 refine ACalls.of ⟨8,[],[]⟩ (fn:=Tryz.f40) Tryz.func40 rfl rfl rfl (by kernel_rfl) (by kernel_rfl) (Nat.le_of_ble_eq_true rfl) ?_
 simp (maxSteps:=1000000) -implicitDefEqProofs only [go_sem,awp_seq,Nat.reduceBNe,Nat.reduceBEq,Nat.reduceAdd,Nat.reduceSub,Nat.reduceMul,Nat.reduceLeDiff,Nat.reduceLT,Nat.reduceEqDiff,Nat.reduceBneDiff,Int.reduceLE,Int.reduceLT,Int.reduceToNat,Int.reduceBEq,Int.reduceBNe,Int.reduceAdd,Int.reduceSub,Int.cast_ofNat_Int]
 refine callA_tt W0 ?_
 simp (maxSteps:=1000000) -implicitDefEqProofs only [go_sem,awp_seq,Nat.reduceBNe,Nat.reduceBEq,Nat.reduceAdd,Nat.reduceSub,Nat.reduceMul,Nat.reduceLeDiff,Nat.reduceLT,Nat.reduceEqDiff,Nat.reduceBneDiff,Int.reduceLE,Int.reduceLT,Int.reduceToNat,Int.reduceBEq,Int.reduceBNe,Int.reduceAdd,Int.reduceSub,Int.cast_ofNat_Int]
end Go.Proofs.YtcaahphghaddgaaGreatDoor
set_option linter.unusedSimpArgs false
set_option linter.unusedVariables false
namespace Go.Proofs.YtcaahphghaddgaaGreatDoor
open Go.RowKit Lim
def bndE (lo hi:Int) (e:Int):Int:=if lo<0∨9999999<lo∨hi<0∨9999999<hi then 3 else e
theorem boundsE_eq (a b:Int):boundsE a b=bndE a b (if b<a then 23 else 0):=by
 unfold boundsE bndE
 simp only [Bool.or_eq_true,decide_eq_true_eq,or_assoc]
theorem within_bnd (lo hi e:Int):(bif !(withinB lo 0 9999999) then 3 else bif !(withinB hi 0 9999999) then 3 else e)=bndE lo hi e:=by
 have h1:withinB lo 0 9999999=decide (0≤lo∧lo≤9999999):=by simp [withinB]
 have h2:withinB hi 0 9999999=decide (0≤hi∧hi≤9999999):=by simp [withinB]
 rw [h1,h2]
 unfold bndE
 by_cases k1:0≤lo∧lo≤9999999
 ·by_cases k2:0≤hi∧hi≤9999999
  ·rw [decide_eq_true k1,decide_eq_true k2,if_neg (by omega)];rfl
  ·rw [decide_eq_true k1,decide_eq_false k2,if_pos (by omega)];rfl
 ·rw [decide_eq_false k1,if_pos (by omega)];rfl
theorem ord_eq (lo hi:Int):(bif decide (hi<lo) then (23:Int) else 0)=if hi<lo then 23 else 0:=by by_cases h:hi<lo <;> simp [h]
theorem within_n (n m:Int):withinB n 1 m=!(decide (n<1) || decide (m<n)):=by
 unfold withinB
 by_cases h1:1≤n <;> by_cases h2:n≤m
 ·rw [decide_eq_true h1,decide_eq_true h2,decide_eq_false (by omega),decide_eq_false (by omega)];rfl
 ·rw [decide_eq_true h1,decide_eq_false h2,decide_eq_false (by omega),decide_eq_true (by omega)];rfl
 ·rw [decide_eq_false h1,decide_eq_true (by omega:n<1)];rfl
 ·rw [decide_eq_false h1,decide_eq_true (by omega:n<1)];rfl
theorem bne_bool (x:Int):(x != 0)=!(x == 0):=rfl
section
variable (n lo hi:Int) (code:List UInt8)
theorem eq1:ruleE ⟨1,n,lo,hi,code⟩=r33E1 n lo hi code:=by
 have e:ruleE ⟨1,n,lo,hi,code⟩=if n == 0 then contE lo hi code else 1:=rfl
 rw [e,r33E1,within_bnd,ord_eq,contE,boundsE_eq,content_r13,bne_bool]
 cases n == 0 <;> cases r13V code <;> rfl
theorem eq2:ruleE ⟨2,n,lo,hi,code⟩=r33E2 n lo hi code:=by
 have e:ruleE ⟨2,n,lo,hi,code⟩=if (n == 0) && (lo == 0) && code.isEmpty then boundsE lo hi else 1:=rfl
 rw [e,r33E2,within_bnd,ord_eq,boundsE_eq,bne_bool,bne_bool]
 cases n == 0 <;> cases lo == 0 <;> cases code.isEmpty <;> rfl
theorem eq3:ruleE ⟨3,n,lo,hi,code⟩=r33E3 n lo hi code:=by
 have e:ruleE ⟨3,n,lo,hi,code⟩=if (n == 0) && (lo == 0) && code.isEmpty then boundsE lo hi else 1:=rfl
 rw [e,r33E3,within_bnd,ord_eq,boundsE_eq,bne_bool,bne_bool]
 cases n == 0 <;> cases lo == 0 <;> cases code.isEmpty <;> rfl
theorem eq4:ruleE ⟨4,n,lo,hi,code⟩=r33E4 n lo hi code:=by
 have e:ruleE ⟨4,n,lo,hi,code⟩=if (n == 0) && code.isEmpty then boundsE lo hi else 1:=rfl
 rw [e,r33E4,within_bnd,ord_eq,boundsE_eq,bne_bool]
 cases n == 0 <;> cases code.isEmpty <;> simp
theorem eq5:ruleE ⟨5,n,lo,hi,code⟩=r33E5 n lo hi code:=by
 have e:ruleE ⟨5,n,lo,hi,code⟩=if code.isEmpty then keyE lo hi n else 1:=by unfold ruleE demOk chkE;simp
 rw [e,r33E5,within_bnd,ord_eq,keyE,boundsE_eq,within_n]
 unfold bndE
 cases code.isEmpty <;> cases (decide (n<1) || decide (10<n)) <;> simp
theorem eq6:ruleE ⟨6,n,lo,hi,code⟩=r33E6 n lo hi code:=by
 have e:ruleE ⟨6,n,lo,hi,code⟩=if code.isEmpty then setE lo hi n else 1:=rfl
 rw [e,r33E6,within_bnd,ord_eq,setE,boundsE_eq,show numB n=withinB n 1 9999999 from rfl]
 unfold bndE
 cases code.isEmpty <;> cases withinB n 1 9999999 <;> cases lo == 0 <;> simp
theorem eq7:ruleE ⟨7,n,lo,hi,code⟩=r33E7 n lo hi code:=by
 have e:ruleE ⟨7,n,lo,hi,code⟩=if (lo == 0) && (hi == 0) && code.isEmpty then (if numB n then 0 else 3) else 1:=rfl
 rw [e,r33E7,within_bnd,ord_eq,show numB n=withinB n 1 9999999 from rfl,bne_bool,bne_bool]
 by_cases h1:lo=0
 ·by_cases h2:hi=0
  ·subst h1 h2;cases code.isEmpty <;> cases withinB n 1 9999999 <;> rfl
  ·have:(hi == 0)=false:=by simp [h2]
   rw [this];cases code.isEmpty <;> cases lo == 0 <;> rfl
 ·have:(lo == 0)=false:=by simp [h1]
  rw [this];cases code.isEmpty <;> rfl
theorem eq8:ruleE ⟨8,n,lo,hi,code⟩=r33E8 n lo hi code:=by
 have e:ruleE ⟨8,n,lo,hi,code⟩=if (lo == 0) && (hi == 0) && code.isEmpty then (if numB n then 0 else 3) else 1:=rfl
 rw [e,r33E8,within_bnd,ord_eq,show numB n=withinB n 1 9999999 from rfl,bne_bool,bne_bool]
 by_cases h1:lo=0
 ·by_cases h2:hi=0
  ·subst h1 h2;cases code.isEmpty <;> cases withinB n 1 9999999 <;> rfl
  ·have:(hi == 0)=false:=by simp [h2]
   rw [this];cases code.isEmpty <;> cases lo == 0 <;> rfl
 ·have:(lo == 0)=false:=by simp [h1]
  rw [this];cases code.isEmpty <;> rfl
theorem eq9:ruleE ⟨9,n,lo,hi,code⟩=r33E9 n lo hi code:=by
 have e:ruleE ⟨9,n,lo,hi,code⟩=if (n == 0) && (lo == 0) && (hi == 0) && code.isEmpty then 0 else 1:=rfl
 rw [e,r33E9,within_bnd,ord_eq,bne_bool,bne_bool,bne_bool]
 by_cases h1:lo=0
 ·by_cases h2:hi=0
  ·subst h1 h2;cases code.isEmpty <;> cases n == 0 <;> rfl
  ·have:(hi == 0)=false:=by simp [h2]
   rw [this];cases code.isEmpty <;> cases lo == 0 <;> cases n == 0 <;> rfl
 ·have:(lo == 0)=false:=by simp [h1]
  rw [this];cases code.isEmpty <;> cases n == 0 <;> rfl
end
theorem rule33_c (r:RuleV):AT 40 [ruleA r] (i64 (ruleE r)):=by
 by_cases h0:r.k<1∨9<r.k
 ·have e:demOk r=false:=by unfold demOk;repeat rw [if_neg (by omega)]
  rw [chk_no e]
  exact ruleNone_c r h0
 obtain ⟨k,n,lo,hi,code⟩:=r
 dsimp only at h0
 have h:k=1∨k=2∨k=3∨k=4∨k=5∨k=6∨k=7∨k=8∨k=9:=by omega
 rcases h with rfl|rfl|rfl|rfl|rfl|rfl|rfl|rfl|rfl
 ·rw [eq1];exact rule1_c n lo hi code
 ·rw [eq2];exact rule2_c n lo hi code
 ·rw [eq3];exact rule3_c n lo hi code
 ·rw [eq4];exact rule4_c n lo hi code
 ·rw [eq5];exact rule5_c n lo hi code
 ·rw [eq6];exact rule6_c n lo hi code
 ·rw [eq7];exact rule7_c n lo hi code
 ·rw [eq8];exact rule8_c n lo hi code
 ·rw [eq9];exact rule9_c n lo hi code
theorem valid33_c (n:Int) (rs:List RuleV):AT 13 [.agg [i64 n,rulesA rs]] (i64 (specE n rs)):=by
 have W:=within33_c n 1 18
 rw [within_n]at W
 unfold specE
 cases c1:(decide (n<1) || decide (18<n))with
 | true =>
  rw [c1]at W
  rw [if_pos rfl]
  refine ACalls.of ⟨18,[],[]⟩ (fn:=Tryz.f13) Tryz.func13 rfl rfl rfl (by kernel_rfl) (by kernel_rfl) (Nat.le_of_ble_eq_true rfl) ?_
  simp (maxSteps:=1000000) -implicitDefEqProofs only [go_sem,awp_seq,Nat.reduceBNe,Nat.reduceBEq,Nat.reduceAdd,Nat.reduceSub,Nat.reduceMul,Nat.reduceLeDiff,Nat.reduceLT,Nat.reduceEqDiff,Nat.reduceBneDiff,Int.reduceLE,Int.reduceLT,Int.reduceToNat,Int.reduceBEq,Int.reduceBNe,Int.reduceAdd,Int.reduceSub,Int.cast_ofNat_Int]
  refine callA_tt W ?_
  simp (maxSteps:=1000000) -implicitDefEqProofs only [go_sem,awp_seq,Nat.reduceBNe,Nat.reduceBEq,Nat.reduceAdd,Nat.reduceSub,Nat.reduceMul,Nat.reduceLeDiff,Nat.reduceLT,Nat.reduceEqDiff,Nat.reduceBneDiff,Int.reduceLE,Int.reduceLT,Int.reduceToNat,Int.reduceBEq,Int.reduceBNe,Int.reduceAdd,Int.reduceSub,Int.cast_ofNat_Int]
 | false =>
 rw [c1]at W
 rw [if_neg (by simp)]
 by_cases h3:20<rs.length
 ·have g3:decide ((20:Int)<(rs.length:Nat))=true:=by simp;omega
  rw [if_pos h3]
  refine ACalls.of ⟨18,[],[]⟩ (fn:=Tryz.f13) Tryz.func13 rfl rfl rfl (by kernel_rfl) (by kernel_rfl) (Nat.le_of_ble_eq_true rfl) ?_
  simp (maxSteps:=1000000) -implicitDefEqProofs only [go_sem,awp_seq,Nat.reduceBNe,Nat.reduceBEq,Nat.reduceAdd,Nat.reduceSub,Nat.reduceMul,Nat.reduceLeDiff,Nat.reduceLT,Nat.reduceEqDiff,Nat.reduceBneDiff,Int.reduceLE,Int.reduceLT,Int.reduceToNat,Int.reduceBEq,Int.reduceBNe,Int.reduceAdd,Int.reduceSub,Int.cast_ofNat_Int]
  refine callA_tt W ?_
  simp (maxSteps:=1000000) -implicitDefEqProofs only [g3,List.length_map,go_sem,awp_seq,Nat.reduceBNe,Nat.reduceBEq,Nat.reduceAdd,Nat.reduceSub,Nat.reduceMul,Nat.reduceLeDiff,Nat.reduceLT,Nat.reduceEqDiff,Nat.reduceBneDiff,Int.reduceLE,Int.reduceLT,Int.reduceToNat,Int.reduceBEq,Int.reduceBNe,Int.reduceAdd,Int.reduceSub,Int.cast_ofNat_Int]
 have g3:decide ((20:Int)<(rs.length:Nat))=false:=by simp;omega
 rw [if_neg h3]
 obtain ⟨R,hR⟩:∃R,R=rulesE rs:=⟨_,rfl⟩
 rw [←hR]
 refine ACalls.of ⟨18,[],[]⟩ (fn:=Tryz.f13) Tryz.func13 rfl rfl rfl (by kernel_rfl) (by kernel_rfl) (Nat.le_of_ble_eq_true rfl) ?_
 simp (maxSteps:=1000000) -implicitDefEqProofs only [go_sem,awp_seq,Nat.reduceBNe,Nat.reduceBEq,Nat.reduceAdd,Nat.reduceSub,Nat.reduceMul,Nat.reduceLeDiff,Nat.reduceLT,Nat.reduceEqDiff,Nat.reduceBneDiff,Int.reduceLE,Int.reduceLT,Int.reduceToNat,Int.reduceBEq,Int.reduceBNe,Int.reduceAdd,Int.reduceSub,Int.cast_ofNat_Int]
 refine callA_tt W ?_
 simp (maxSteps:=1000000) -implicitDefEqProofs only [g3,List.length_map,go_sem,awp_seq,Nat.reduceBNe,Nat.reduceBEq,Nat.reduceAdd,Nat.reduceSub,Nat.reduceMul,Nat.reduceLeDiff,Nat.reduceLT,Nat.reduceEqDiff,Nat.reduceBneDiff,Int.reduceLE,Int.reduceLT,Int.reduceToNat,Int.reduceBEq,Int.reduceBNe,Int.reduceAdd,Int.reduceSub,Int.cast_ofNat_Int]
 refine loop_mk (α:={k:Nat // k≤rs.length∧R=rulesE (rs.drop k)}) (fun k=>[(0,some (.av (.agg [i64 n,rulesA rs]))),(1,some (.ref 1 0)),(2,some (.av (i64 0))),(15,some (.av (rulesA rs))),(16,some (.av (i64 (rs.length:Nat)))),(17,some (.av (i64 (k.1:Nat))))]) (fun _=>[(1,[i64 n,rulesA rs])]) (fun _=>[]) (fun k=>rs.length-k.1) ⟨0,Nat.zero_le _,hR⟩ ?_ ?_
 ·simp (maxSteps:=1000000) -implicitDefEqProofs only [go_sem,awp_seq,Nat.reduceBNe,Nat.reduceBEq,Nat.reduceAdd,Nat.reduceSub,Nat.reduceMul,Nat.reduceLeDiff,Nat.reduceLT,Nat.reduceEqDiff,Nat.reduceBneDiff,Int.reduceLE,Int.reduceLT,Int.reduceToNat,Int.reduceBEq,Int.reduceBNe,Int.reduceAdd,Int.reduceSub,Int.cast_ofNat_Int]
 ·clear hR
  rintro ⟨k,hk,hR⟩
  by_cases hlt:k<rs.length
  ·have g1:decide (((k:Nat):Int)<(rs.length:Nat))=true:=by simp;omega
   have e1:=map_get ruleA rs hlt
   have w1:IntKind.i64.wrap ((k:Int)+1)=((k+1:Nat):Int):=by rw [IntWalk.i64_in _ (by omega)];omega
   rw [List.drop_eq_getElem_cons hlt]at hR
   generalize rs[k]=r at *
   have D:=rule33_c r
   unfold rulesE at hR
   generalize ruleE r=e at *
   by_cases h5:e≠0
   ·have g5:(e != 0)=true:=by simpa using h5
    rw [if_pos h5]at hR
    subst hR
    simp (maxSteps:=1000000) -implicitDefEqProofs only [g1,e1,Int.toNat_natCast,Int.natCast_nonneg,go_sem,awp_seq,Nat.reduceBNe,Nat.reduceBEq,Nat.reduceAdd,Nat.reduceSub,Nat.reduceMul,Nat.reduceLeDiff,Nat.reduceLT,Nat.reduceEqDiff,Nat.reduceBneDiff,Int.reduceLE,Int.reduceLT,Int.reduceToNat,Int.reduceBEq,Int.reduceBNe,Int.reduceAdd,Int.reduceSub,Int.cast_ofNat_Int]
    refine callA_tt D ?_
    simp (maxSteps:=1000000) -implicitDefEqProofs only [g5,go_sem,awp_seq,Nat.reduceBNe,Nat.reduceBEq,Nat.reduceAdd,Nat.reduceSub,Nat.reduceMul,Nat.reduceLeDiff,Nat.reduceLT,Nat.reduceEqDiff,Nat.reduceBneDiff,Int.reduceLE,Int.reduceLT,Int.reduceToNat,Int.reduceBEq,Int.reduceBNe,Int.reduceAdd,Int.reduceSub,Int.cast_ofNat_Int]
   ·have g5:(e != 0)=false:=by simpa using h5
    rw [if_neg h5]at hR
    simp (maxSteps:=1000000) -implicitDefEqProofs only [g1,e1,Int.toNat_natCast,Int.natCast_nonneg,go_sem,awp_seq,Nat.reduceBNe,Nat.reduceBEq,Nat.reduceAdd,Nat.reduceSub,Nat.reduceMul,Nat.reduceLeDiff,Nat.reduceLT,Nat.reduceEqDiff,Nat.reduceBneDiff,Int.reduceLE,Int.reduceLT,Int.reduceToNat,Int.reduceBEq,Int.reduceBNe,Int.reduceAdd,Int.reduceSub,Int.cast_ofNat_Int]
    refine callA_tt D ?_
    simp (maxSteps:=1000000) -implicitDefEqProofs only [g5,w1,go_sem,awp_seq,Nat.reduceBNe,Nat.reduceBEq,Nat.reduceAdd,Nat.reduceSub,Nat.reduceMul,Nat.reduceLeDiff,Nat.reduceLT,Nat.reduceEqDiff,Nat.reduceBneDiff,Int.reduceLE,Int.reduceLT,Int.reduceToNat,Int.reduceBEq,Int.reduceBNe,Int.reduceAdd,Int.reduceSub,Int.cast_ofNat_Int]
    refine roundK_mk ⟨k+1,by omega,hR⟩ ?_ (by show rs.length-(k+1)<rs.length-k;omega)
    simp (maxSteps:=1000000) -implicitDefEqProofs only [go_sem,awp_seq,Nat.reduceBNe,Nat.reduceBEq,Nat.reduceAdd,Nat.reduceSub,Nat.reduceMul,Nat.reduceLeDiff,Nat.reduceLT,Nat.reduceEqDiff,Nat.reduceBneDiff,Int.reduceLE,Int.reduceLT,Int.reduceToNat,Int.reduceBEq,Int.reduceBNe,Int.reduceAdd,Int.reduceSub,Int.cast_ofNat_Int]
  ·have g1:decide (((k:Nat):Int)<(rs.length:Nat))=false:=by simp;omega
   rw [List.drop_of_length_le (by omega)]at hR
   have hR:R=0:=hR
   subst hR
   simp (maxSteps:=1000000) -implicitDefEqProofs only [g1,go_sem,awp_seq,Nat.reduceBNe,Nat.reduceBEq,Nat.reduceAdd,Nat.reduceSub,Nat.reduceMul,Nat.reduceLeDiff,Nat.reduceLT,Nat.reduceEqDiff,Nat.reduceBneDiff,Int.reduceLE,Int.reduceLT,Int.reduceToNat,Int.reduceBEq,Int.reduceBNe,Int.reduceAdd,Int.reduceSub,Int.cast_ofNat_Int]
end Go.Proofs.YtcaahphghaddgaaGreatDoor
set_option linter.unusedSimpArgs false
set_option linter.unusedVariables false
namespace Go.Proofs.YtcaahphghaddgaaGreatDoor
open Go.RowKit Lim
theorem getD_some {l:List Nat} {i:Nat} (h:i<l.length):l[i]? = some (l.getD i 0):=by rw [List.getElem?_eq_getElem h,List.getD_eq_getElem?_getD,List.getElem?_eq_getElem h];rfl
theorem norm_end {l:List Nat} (hd:Dig l) {k:Nat} (hk:k≤l.length) (hz:val (l.drop k)=0) (hn:k=0∨l.getD (k-1) 0≠0):limbs (val l)=l.take k :=
 limbs_take hd hk hz fun h0=>by
  rcases hn with h|h
  ·omega
  ·rw [List.getD_eq_getElem?_getD,List.getElem?_eq_getElem (show k-1<l.length by omega)]at h
   simpa using h
def zrow (k:Nat) (s:List Nat):List Nat:=List.replicate k 0 ++ s
theorem zrow_nil (k:Nat):List.replicate k 0=zrow k []:=by simp [zrow]
theorem zrow_zero (s:List Nat):zrow 0 s=s:=by simp [zrow]
theorem zrow_len (k:Nat) (s:List Nat):(zrow k s).length=k+s.length:=by simp [zrow]
theorem zrow_set (s:List Nat) (k x:Nat):(zrow (k+1) s).set k x=zrow k (x :: s):=by
 unfold zrow
 rw [List.set_append_left _ _ (by simp),List.replicate_succ',List.set_append_right _ _ (by simp)]
 simp
theorem short_next {a s:List Nat} {d k r:Nat} (hk:k<a.length) (hd:0<d) (h:val (a.drop (k+1))=val s*d+r) :
  val (a.drop k)=val ((r*4294967296+a.getD k 0) / d :: s)*d+(r*4294967296+a.getD k 0) % d:=by
 rw [val_drop_cons a k hk,h,val_cons]
 have e:a[k]=a.getD k 0:=by rw [List.getD_eq_getElem?_getD,List.getElem?_eq_getElem hk];rfl
 rw [e]
 generalize a.getD k 0=x
 have:=Nat.div_add_mod (r*4294967296+x) d
 generalize (r*4294967296+x) / d=u at *
 generalize (r*4294967296+x) % d=v at *
 grind
end Go.Proofs.YtcaahphghaddgaaGreatDoor
set_option linter.unusedSimpArgs false
set_option linter.unusedVariables false
namespace Go.Proofs.YtcaahphghaddgaaGreatDoor
open Go.RowKit Lim
theorem r33_number_m {F:Nat} (n0:Nat) (x0:Int):EF F (n0+1) 35 [.o (.c ⟨(.int .i64),x0⟩)] [.c .str]=unwrapA ((EF F n0 69 [.o (.c ⟨VT.int IntKind.u64,IntKind.u64.wrap x0⟩)] [.c tN]).bind fun x=>(EF F n0 68 [vN x.1] [.c tS]).bind fun x=>some (.ret (x.1,()))):=by kernel_rfl
theorem r01_Print_m {F:Nat} (n0:Nat) (x0:List Nat):EF F (n0+1) 68 [.o (.c ⟨.nat,x0⟩)] [.c .str]=unwrapA ((EF F n0 103 [vN x0] [.c tN]).bind fun x=>bif (Nat.cast (R:=Int) (List.length x.1)) == 0 then some (.ret ([48],())) else bif mkB 0 (IntKind.i64.wrap (10*(Nat.cast (R:=Int) (List.length x.1)))) 1 then loopA 0 [VT.sl 1 VT.byte,tN] (fun x_1=>bif decide (0<(Nat.cast (R:=Int) (List.length x_1.2.1))) then (EF F n0 104 [vN x_1.2.1,.o (.c ⟨VT.int IntKind.u64,10⟩)] [.c tN,.c (VT.int IntKind.u64)]).bind fun x_2=>bif byteR (IntKind.u8.wrap (IntKind.u64.wrap (48+x_2.2.1))) && true then bif capB (List.length x_1.1+[UInt8.ofNat (IntKind.u8.wrap (IntKind.u64.wrap (48+x_2.2.1))).toNat].length) 1 then some (.cont 0 [VT.sl 1 VT.byte,tN] (x_1.1 ++ [UInt8.ofNat (IntKind.u8.wrap (IntKind.u64.wrap (48+x_2.2.1))).toNat],x_2.1,())) else none else none else bif mkB ((Nat.cast (R:=Int) (List.length x_1.1))) ((Nat.cast (R:=Int) (List.length x_1.1))) 1 then loopA 0 [tI,VT.sl 1 VT.byte] (fun x_2=>bif decide (x_2.1<(Nat.cast (R:=Int) (List.length x_1.1))) then bif Nat.beq 1 1 && (decide (0≤x_2.1) && decide (Int.toNat x_2.1<List.length x_1.1)) then x_1.1[Int.toNat x_2.1]?.bind fun y=>bif Nat.beq 1 1 && (decide (0≤IntKind.i64.wrap (IntKind.i64.wrap ((Nat.cast (R:=Int) (List.length x_1.1))-1)-x_2.1)) && decide ((IntKind.i64.wrap (IntKind.i64.wrap ((Nat.cast (R:=Int) (List.length x_1.1))-1)-x_2.1)).toNat<List.length x_2.2.1)) then x_2.2.1[(IntKind.i64.wrap (IntKind.i64.wrap ((Nat.cast (R:=Int) (List.length x_1.1))-1)-x_2.1)).toNat]?.bind fun el'=>bif byteR (Nat.cast (R:=Int) y.toNat) && true then some (.cont 0 [tI,VT.sl 1 VT.byte] (IntKind.i64.wrap (x_2.1+1),List.set x_2.2.1 (IntKind.i64.wrap (IntKind.i64.wrap ((Nat.cast (R:=Int) (List.length x_1.1))-1)-x_2.1)).toNat (UInt8.ofNat ((Nat.cast (R:=Int) y.toNat)).toNat),())) else none else none else none else some (.ret (x_2.2.1,()))) F (0,List.replicate ((Nat.cast (R:=Int) (List.length x_1.1))).toNat (UInt8.ofNat (Int.toNat 0)),()) else none) F (List.replicate (Int.toNat 0) (UInt8.ofNat (Int.toNat 0)),x.1,()) else none):=by kernel_rfl
theorem r01_Of_m {F:Nat} (n0:Nat) (x0:Int):EF F (n0+1) 69 [.o (.c ⟨(.int .u64),x0⟩)] [.c .nat]=unwrapA ((bif u32B (IntKind.u32.wrap x0) then Option.map (fun m=>(IntKind.u32.wrap x0).toNat :: m) (bif u32B (IntKind.u32.wrap (Int.fdiv x0 (2 ^ min (Int.toNat 32) IntKind.u64.bits))) then some [(IntKind.u32.wrap (Int.fdiv x0 (2 ^ min (Int.toNat 32) IntKind.u64.bits))).toNat] else none) else none).bind fun ns=>(EF F n0 103 [vN ns] [.c tN]).bind fun x=>some (.ret (x.1,()))):=by kernel_rfl
theorem r01_short_m {F:Nat} (n0:Nat) (x0:List Nat) (x1:Int):EF F (n0+1) 104 [.o (.c ⟨.nat,x0⟩),.o (.c ⟨(.int .u64),x1⟩)] [.c .nat,.c (.int .u64)]=unwrapA (bif mkB ((Nat.cast (R:=Int) (List.length x0))) ((Nat.cast (R:=Int) (List.length x0))) 4 then loopA 0 [tI,VT.int IntKind.u64,tN] (fun x=>bif decide (0≤x.1) then (ix x0 x.1).bind fun y=>bif x1 == 0 then none else bif Nat.beq 1 1 && (decide (0≤x.1) && decide (Int.toNat x.1<List.length x.2.2.1)) then bif Nat.beq 0 0 && decide (Int.toNat x.1<List.length x.2.2.1) then bif u32B (IntKind.u32.wrap (IntKind.u64.wrap ((IntKind.u64.wrap (IntKind.u64.wrap (x.2.1*2 ^ min (Int.toNat 32) IntKind.u64.bits)+IntKind.u64.wrap (Nat.cast (R:=Int) y))).tdiv x1))) then bif x1 == 0 then none else some (.cont 0 [tI,VT.int IntKind.u64,tN] (IntKind.i64.wrap (x.1-1),(IntKind.u64.wrap (IntKind.u64.wrap (x.2.1*2 ^ min (Int.toNat 32) IntKind.u64.bits)+IntKind.u64.wrap (Nat.cast (R:=Int) y))).tmod x1,List.set x.2.2.1 (Int.toNat x.1) (IntKind.u32.wrap (IntKind.u64.wrap ((IntKind.u64.wrap (IntKind.u64.wrap (x.2.1*2 ^ min (Int.toNat 32) IntKind.u64.bits)+IntKind.u64.wrap (Nat.cast (R:=Int) y))).tdiv x1))).toNat,())) else none else none else none else (ev (evwF F) n0 false 103 [vN x.2.2.1] [.c tN]).bind fun x_1=>bif List.isEmpty x_1.1 then some (.ret (x_1.1,x.2.1,())) else some (.ret (x_1.1,x.2.1,()))) F (IntKind.i64.wrap ((Nat.cast (R:=Int) (List.length x0))-1),0,List.replicate ((Nat.cast (R:=Int) (List.length x0))).toNat 0,()) else none):=by kernel_rfl
end Go.Proofs.YtcaahphghaddgaaGreatDoor
set_option linter.unusedSimpArgs false
set_option linter.unusedVariables false
namespace Go.Proofs.YtcaahphghaddgaaGreatDoor
open Go.RowKit Lim
theorem mkN {N:Nat} (h:N≤35184372088832):mkB (N:Int) (N:Int) 4=true:=by
 unfold mkB
 rw [decide_eq_true (show (0:Int)≤(N:Nat)by omega),decide_eq_true (Int.le_refl _),Int.toNat_natCast,Nat.ble_eq_true_of_le (by omega),Nat.ble_eq_true_of_le (by omega)]
 rfl
theorem u32n {m:Nat} (h:m<4294967296):u32B (m:Int)=true:=by
 unfold u32B
 rw [decide_eq_true (show (0:Int)≤(m:Nat)by omega),decide_eq_true (show (m:Int)<4294967296 by omega)]
 rfl
theorem c0 (j:Nat):decide (0≤(j:Int))=true:=decide_eq_true (by omega)
theorem b11:Nat.beq 1 1=true:=rfl
theorem b00:Nat.beq 0 0=true:=rfl
theorem ztshr32 (n:Nat):(n:Int).fdiv 4294967296=((n / 4294967296:Nat):Int):=by
 rw [Int.fdiv_eq_ediv_of_nonneg _ (by omega)];omega
theorem ztw32 (n:Nat):IntKind.u32.wrap (n:Int)=((n % 4294967296:Nat):Int):=by rw [IntKind.wrap_u32];omega
theorem zttwo32:(2:Int) ^ min (Int.toNat 32) IntKind.u64.bits=4294967296:=rfl
theorem emp_self {R:Type} (l:List Nat) (x:Option R):(bif l.isEmpty then x else x)=x:=bif_self _ x
theorem mkB_ok {n m:Int} {b:Nat} (h0:0≤n) (h1:n≤m) (h2:m.toNat*b≤140737488355328) (h3:m.toNat≤9223372036854775807):mkB n m b=true:=by
 unfold mkB
 rw [decide_eq_true h0,decide_eq_true h1,Nat.ble_eq_true_of_le h2,Nat.ble_eq_true_of_le h3]
 rfl
theorem limbsK_mono {l:List Nat} {k:Nat} (h:k≤val l) (hd:Dig l):(limbsK k).length≤l.length:=by
 rw [limbsK_eq]
 exact Nat.le_trans (nlen_mono h) (nlen_val hd)
theorem limbsK_len0 (k:Nat):(limbsK k).length=0 ↔ k=0:=by
 rw [limbsK_eq,List.length_eq_zero_iff]
 exact limbs_eq_nil
theorem set_rep {α:Type} (a v:α) (R:List α):∀k,(List.replicate (k+1) a ++ R).set k v=List.replicate k a ++ v :: R
 | 0=>rfl
 | k+1=>by
  have:=set_rep a v R k
  rw [List.replicate_succ,List.cons_append,List.set_cons_succ,this]
  rfl
theorem rev_loop {step:denL [tI,VT.sl 1 VT.byte]→Option (Ans (denL [tS]))} (b:List UInt8) (hb:b.length<9223372036854775807) (hs:∀(i:Nat) (hi:i<b.length) (o:List UInt8),o.length=b.length→step ((i:Int),o,())=some (.cont 0 [tI,VT.sl 1 VT.byte] (((i+1:Nat):Int),o.set (b.length-1-i) b[i],()))) (he:∀o,step ((b.length:Int),o,())=some (.ret (o,()))) :
  loopA 0 [tI,VT.sl 1 VT.byte] step fuel (0,List.replicate b.length 0,())=some (.ret (b.reverse,())):=by
 refine (congrArg (fun o=>loopA 0 [tI,VT.sl 1 VT.byte] step fuel (0,o,())) (show List.replicate b.length 0=List.replicate (b.length-0) 0 ++ (b.take 0).reverse by simp)).trans ?_
 refine loopA_range (R:=denL [tS]) (ts:=[tI,VT.sl 1 VT.byte]) (N:=b.length) (fun i=>((i:Int),List.replicate (b.length-i) 0 ++ (b.take i).reverse,())) (fun i hi=>?_) ?_ rfl (fuel_lt (by omega))
 ·rw [hs i hi _ (by simp;omega)]
  obtain ⟨j,hj⟩:∃j,b.length-i=j+1:=⟨b.length-i-1,by omega⟩
  rw [hj,show b.length-1-i=j by omega,set_rep,show b.length-(i+1)=j by omega,List.take_add_one,List.getElem?_eq_getElem hi,List.reverse_append]
  rfl
 ·rw [he,Nat.sub_self,List.take_length]
  rfl
def restD (m:Nat):List UInt8:=if m=0 then [] else Lib.decDigits m
theorem restD_step {m:Nat} (h:m≠0):restD m=restD (m / 10) ++ [UInt8.ofNat (48+m % 10)]:=by
 unfold restD
 rw [if_neg h]
 by_cases h10:m<10
 ·rw [if_pos (by omega),Lib.decDigits_one h10,Nat.mod_eq_of_lt h10];rfl
 ·rw [if_neg (by omega),dec_big h10]
theorem r01_Norm_b {F:Nat} (b:Bool) (n0:Nat) (x0:List Nat):ev (evwF F) (n0+1) b 103 [.o (.c ⟨.nat,x0⟩)] [.c .nat]=unwrapA (loopA 0 [tI] (fun x=>bif decide (0<x.1) then (ix x0 (IntKind.i64.wrap (x.1-1))).bind fun y=>bif (Nat.cast (R:=Int) y) == 0 then some (.cont 0 [tI] (IntKind.i64.wrap (x.1-1),())) else bif mkB x.1 x.1 4 then some (.ret (List.take (List.replicate (Int.toNat x.1) 0).length x0 ++ List.drop (List.length x0) (List.replicate (Int.toNat x.1) 0),())) else none else bif mkB x.1 x.1 4 then some (.ret (List.take (List.replicate (Int.toNat x.1) 0).length x0 ++ List.drop (List.length x0) (List.replicate (Int.toNat x.1) 0),())) else none) F ((Nat.cast (R:=Int) (List.length x0)),())):=by kernel_rfl
section
variable (n:Nat)
theorem d1norm (b:Bool) (l:List Nat) (hd:Dig l) (hl:l.length<1099511627776):ev (evwF fuel) (n+1) b 103 [vN l] [.c .nat]=some (limbs (val l),()):=by
 refine (r01_Norm_b b n l).trans ?_
 have fin:∀k:Nat,k≤l.length→val (l.drop k)=0→(k=0∨l.getD (k-1) 0≠0)→(bif mkB (k:Int) k 4 then some (.ret (List.take (List.replicate (Int.toNat k) 0).length l ++ List.drop (List.length l) (List.replicate (Int.toNat k) 0),())) else none:Option (Ans (denL [.nat])))=some (.ret (limbs (val l),())):=fun k hk hz hn=>by
  rw [mkN (by omega),cond_true,Int.toNat_natCast,List.length_replicate,List.drop_eq_nil_of_le (by simp;omega),List.append_nil,norm_end hd hk hz hn]
 refine congrArg (a₂:=some (Ans.ret (limbs (val l),()))) unwrapA ?_
 refine loopA_inv (ts:=[tI]) (fun x=>∃k:Nat,k≤l.length∧val (l.drop k)=0∧x=((k:Int),())) (fun (x:Int × Unit)=>x.1.toNat) (fun x hx=>?_) _ ⟨l.length,Nat.le_refl _,by simp [val],rfl⟩ (fuel_lt (by show ((l.length:Nat):Int).toNat<_;omega))
 obtain ⟨k,hk,hz,rfl⟩:=hx
 dsimp only
 by_cases h0:0<k
 ·have w1:IntKind.i64.wrap ((k:Int)-1)=((k-1:Nat):Int):=by rw [w64 (by omega) (by omega)];omega
  rw [decide_eq_true (show (0:Int)<(k:Int)by omega),cond_true,w1,ix_get (getD_some (show k-1<l.length by omega))]
  simp -implicitDefEqProofs only [Option.bind_some]
  by_cases hx:l.getD (k-1) 0=0
  ·rw [hx]
   refine .inr ⟨(((k-1:Nat):Int),()),rfl,⟨k-1,by omega,?_,rfl⟩,by show ((k-1:Nat):Int).toNat<(k:Int).toNat;omega⟩
   rw [val_drop_cons l (k-1) (by omega),show k-1+1=k by omega,hz]
   rw [List.getD_eq_getElem?_getD,List.getElem?_eq_getElem (show k-1<l.length by omega)]at hx
   simpa using hx
  ·have e2:(((l.getD (k-1) 0:Nat):Int) == 0)=false:=by rw [beq_eq_false_iff_ne];omega
   rw [e2,cond_false]
   exact .inl ⟨fin k hk hz (.inr hx),rfl⟩
 ·rw [decide_eq_false (show ¬(0:Int)<(k:Int)by omega),cond_false]
  exact .inl ⟨fin k hk hz (.inl (by omega)),rfl⟩
theorem d1of (k:Nat) (hk:k<18446744073709551616):EF fuel (n+2) 69 [vU (k:Int)] [.c .nat]=some (limbs k,()):=by
 have hv:val [k % 4294967296,k / 4294967296 % 4294967296]=k:=by simp only [val];omega
 have c1:u32B (((k % 4294967296:Nat):Int))=true:=u32n (by omega)
 have c2:u32B (((k / 4294967296 % 4294967296:Nat):Int))=true:=u32n (by omega)
 refine (r01_Of_m (n+1) k).trans ?_
 simp -implicitDefEqProofs only [zttwo32,ztshr32,ztw32,c1,c2,cond_true,Option.map_some,Option.bind_some,Int.toNat_natCast]
 rw [bind_go (d1norm n true _ (dig_cons.2 ⟨by omega,dig_cons.2 ⟨by omega,dig_nil⟩⟩) (by simp)),hv]
 rfl
theorem d1short (a:List Nat) (d:Nat) (ha:Dig a) (hla:a.length<1000000000000) (hd0:0<d) (hd:d<4294967296):EF fuel (n+2) 104 [vN a,vU (d:Int)] [.c .nat,.c (.int .u64)]=some (limbs (val a / d),((val a % d:Nat):Int),()):=by
 have w0:∀k:Nat,k≤a.length→IntKind.i64.wrap ((k:Int)-1)=((k:Int)-1):=fun k hk=>w64 (by omega) (by omega)
 have hd1:((d:Int) == 0)=false:=by rw [beq_eq_false_iff_ne];omega
 refine (r01_short_m (n+1) a d).trans ?_
 rw [mkN (by omega),cond_true,Int.toNat_natCast,w0 _ (Nat.le_refl _),zrow_nil]
 refine congrArg (a₂:=some (Ans.ret (limbs (val a / d),((val a % d:Nat):Int),()))) unwrapA ?_
 refine loopA_inv (ts:=[tI,tU,tN]) (fun x=>∃(k:Nat) (s:List Nat) (r:Nat),k+s.length=a.length∧Dig s∧r<d∧val (a.drop k)=val s*d+r∧x=((k:Int)-1,(r:Int),zrow k s,())) (fun (x:Int × Int × List Nat × Unit)=>(x.1+1).toNat) (fun x hx=>?_) _ ⟨a.length,[],0,by simp,dig_nil,hd0,by simp [val],rfl⟩ (fuel_lt (by show ((a.length:Int)-1+1).toNat<_;omega))
 obtain ⟨k,s,r,hs,hds,hr,hv,rfl⟩:=hx
 cases k with
 | zero =>
  have hq:val s=val a / d:=by
   rw [List.drop_zero]at hv
   rw [hv,Nat.mul_comm,Nat.mul_add_div hd0,Nat.div_eq_of_lt hr];omega
  have hm:r=val a % d:=by
   rw [List.drop_zero]at hv
   rw [hv,Nat.mul_comm,Nat.mul_add_mod,Nat.mod_eq_of_lt hr]
  dsimp only
  rw [decide_eq_false (show ¬(0:Int)≤((0:Nat):Int)-1 by omega),cond_false,zrow_zero,bind_go (d1norm n false s hds (by omega)),hq,hm]
  exact .inl ⟨emp_self _ _,rfl⟩
 | succ k =>
  have e2:((k+1:Nat):Int)-1=(k:Int):=by omega
  have hk:k<a.length:=by omega
  rw [e2]
  dsimp only
  rw [decide_eq_true (show (0:Int)≤(k:Nat)by omega),cond_true,ix_get (getD_some hk)]
  have dx:=dig_getD ha k
  have hnext:=short_next hk hd0 hv
  generalize a.getD k 0=x at *
  have n1:IntKind.u64.wrap ((r:Int)*4294967296)=((r*4294967296:Nat):Int):=by rw [u64w (by omega) (by omega)];omega
  have n2:IntKind.u64.wrap (x:Int)=(x:Int):=u64w (by omega) (by omega)
  have n3:IntKind.u64.wrap (((r*4294967296:Nat):Int)+(x:Int))=((r*4294967296+x:Nat):Int):=by rw [u64w (by omega) (by omega)];omega
  have hlt:r*4294967296+x<d*4294967296:=by
   have:(r+1)*4294967296≤d*4294967296:=Nat.mul_le_mul_right _ hr
   omega
  have hX:r*4294967296+x<18446744073709551616:=by omega
  generalize hX2:r*4294967296+x=X at *
  have hq:X / d<4294967296:=Nat.div_lt_of_lt_mul hlt
  have hmod:X % d<d:=Nat.mod_lt _ hd0
  have n4:IntKind.u64.wrap ((X:Int).tdiv (d:Int))=((X / d:Nat):Int):=by rw [IntWalk.u64_quo _ _ ⟨by omega,by omega,by omega⟩];simp
  have n5:(X:Int).tmod (d:Int)=((X % d:Nat):Int):=by rw [Int.tmod_eq_emod_of_nonneg (by omega)];simp
  have dj:decide (k<(zrow (k+1) s).length)=true:=decide_eq_true (by rw [zrow_len];omega)
  have hm:X / d % 4294967296=X / d:=Nat.mod_eq_of_lt hq
  have h32:u32B ((X / d:Nat):Int)=true:=u32n hq
  simp -implicitDefEqProofs only [Option.bind_some,zttwo32,n1,n2,n3,n4,n5,hd1,ztw32,hm,w0 k (by omega),Int.toNat_natCast,cond_false,b11,b00,dj,h32,Bool.true_and,cond_true,zrow_set]
  exact .inr ⟨((k:Int)-1,((X % d:Nat):Int),zrow k (X / d :: s),()),rfl,⟨k,X / d :: s,X % d,by simp;omega,dig_cons.2 ⟨hq,hds⟩,hmod,hnext,rfl⟩,by show ((k:Int)-1+1).toNat<((k:Int)+1).toNat;omega⟩
theorem nK (b:Bool) (l:List Nat) (hd:Dig l) (hl:l.length<1099511627776):ev (evwF fuel) (n+1) b 103 [vN l] [.c .nat]=some (limbsK (val l),()):=by
 rw [limbsK_eq];exact d1norm n b l hd hl
theorem shortK (m:Nat) (hm:nlen m<1000000000000):EF fuel (n+2) 104 [vN (limbsK m),.o (.c ⟨.int .u64,10⟩)] [.c .nat,.c (.int .u64)]=some (limbsK (m / 10),((m % 10:Nat):Int),()):=by
 have:=d1short n (limbs m) 10 (dig_limbs m) (by exact hm) (by omega) (by omega)
 rw [val_limbs]at this
 rw [limbsK_eq,limbsK_eq]
 exact this
theorem r1print_e (l:List Nat) (hd:Dig l) (hl:l.length≤1048600):EF fuel (n+3) 68 [vN l] gS=some (decK (val l),()):=by
 refine (r01_Print_m (n+2) l).trans ?_
 rw [bind_go (nK (n+1) true l hd (by omega))]
 dsimp only
 have hlen:=limbsK_mono (Nat.le_refl (val l)) hd
 by_cases h0:val l=0
 ·rw [show (((limbsK (val l)).length:Int) == 0)=true by rw [beq_iff_eq];have:=(limbsK_len0 (val l)).2 h0;omega,cond_true,h0]
  rfl
 rw [show (((limbsK (val l)).length:Int) == 0)=false by rw [beq_eq_false_iff_ne];intro e;exact h0 ((limbsK_len0 (val l)).1 (by omega)),cond_false]
 rw [w64 (z:=10*((limbsK (val l)).length:Int)) (by omega) (by omega),mkB_ok (by omega) (by omega) (by omega) (by omega),cond_true]
 refine congrArg (a₂:=some (Ans.ret (decK (val l),()))) unwrapA ?_
 have hD:(Lib.decDigits (val l)).length≤10995116277761:=dec_len (by have:=nlen_val hd;omega)
 refine loopA_inv (R:=denL [tS]) (ts:=[VT.sl 1 VT.byte,tN]) (fun x=>∃m b,x=(b,limbsK m,())∧m≤val l∧restD m ++ b.reverse=Lib.decDigits (val l)) (fun (x:List UInt8 × List Nat × Unit)=>(restD (val x.2.1)).length) (fun x hx=>?_) _ ⟨val l,[],rfl,Nat.le_refl _,by unfold restD;rw [if_neg h0];simp⟩ ?_
 ·obtain ⟨m,b,rfl,hm,hinv⟩:=hx
  have hbl:b.length≤10995116277761:=by
   have:=congrArg List.length hinv
   rw [List.length_append,List.length_reverse]at this
   omega
  dsimp only
  by_cases hm0:m=0
  ·subst hm0
   refine .inl ⟨?_,rfl⟩
   rw [decide_eq_false (show ¬0<((limbsK 0).length:Int)by have:=(limbsK_len0 0).2 rfl;omega),cond_false,mkB_ok (by omega) (by omega) (by omega) (by omega),cond_true]
   have hr:b.reverse=decK (val l):=by rw [decK_eq,←hinv];rfl
   rw [←hr,Int.toNat_natCast]
   refine rev_loop b (by omega) (fun i hi o ho=>?_) (fun o=>?_)
   ·dsimp only
    have e1:IntKind.i64.wrap (IntKind.i64.wrap ((b.length:Int)-1)-(i:Int))=((b.length-1-i:Nat):Int):=by
     rw [w64 (z:=(b.length:Int)-1) (by omega) (by omega),w64 (by omega) (by omega)]
     omega
    have e2:byteR ((b[i].toNat:Nat):Int)=true:=by
     have:=b[i].toNat_lt
     unfold byteR
     rw [decide_eq_true (by omega),decide_eq_true (by omega)];rfl
    rw [dlt hi,cond_true,Int.toNat_natCast,decide_eq_true (show (0:Int)≤(i:Int)by omega),decide_eq_true (show i<b.length from hi),show (Nat.beq 1 1 && (true && true))=true from rfl,cond_true,List.getElem?_eq_getElem hi,Option.bind_some,e1,Int.toNat_natCast,decide_eq_true (show (0:Int)≤((b.length-1-i:Nat):Int)by omega),decide_eq_true (show b.length-1-i<o.length by omega),show (Nat.beq 1 1 && (true && true))=true from rfl,cond_true,List.getElem?_eq_getElem (show b.length-1-i<o.length by omega),Option.bind_some,e2,Bool.and_true,cond_true,w64n (by omega),Int.toNat_natCast,UInt8.ofNat_toNat]
   ·dsimp only
    rw [dge (Nat.le_refl _),cond_false]
  ·have hs:=restD_step hm0
   have hpos:0<(limbsK m).length:=by
    rcases Nat.eq_zero_or_pos (limbsK m).length with h|h
    ·exact absurd ((limbsK_len0 m).1 h) hm0
    ·exact h
   have hml:=limbsK_mono hm hd
   have e1:IntKind.u8.wrap (IntKind.u64.wrap (48+((m % 10:Nat):Int)))=((48+m % 10:Nat):Int):=by
    rw [u64w (z:=48+((m % 10:Nat):Int)) (by omega) (by omega)]
    simp [IntKind.wrap,IntKind.bits,IntKind.signed]
    omega
   have e2:byteR ((48+m % 10:Nat):Int)=true:=by
    unfold byteR
    rw [decide_eq_true (by omega),decide_eq_true (by omega)];rfl
   refine .inr ⟨(b ++ [UInt8.ofNat (48+m % 10)],limbsK (m / 10),()),?_,⟨m / 10,b ++ [UInt8.ofNat (48+m % 10)],rfl,by omega,?_⟩,?_⟩
   ·rw [decide_eq_true (show 0<((limbsK m).length:Int)by omega),cond_true,bind_go (shortK n m (by have h9:=hml;rw [limbsK_eq]at h9;have h8:nlen m≤l.length:=h9;omega))]
    dsimp only
    rw [e1,e2,Bool.and_true,cond_true,capB_le (by simp only [List.length_cons,List.length_nil];omega),cond_true,Int.toNat_natCast]
   ·rw [List.reverse_append,←hinv,hs]
    simp
   ·show (restD (val (limbsK (m / 10)))).length<(restD (val (limbsK m))).length
    rw [val_K,val_K,hs,List.length_append]
    simp
 ·show (restD (val (limbsK (val l)))).length<fuel
  rw [val_K]
  unfold restD
  rw [if_neg h0]
  exact fuel_lt (by omega)
end
end Go.Proofs.YtcaahphghaddgaaGreatDoor
set_option linter.unusedSimpArgs false
set_option linter.unusedVariables false
namespace Go.Proofs.YtcaahphghaddgaaGreatDoor
open Go.RowKit Lim
theorem number33_e (k:Int) (h0:0≤k) (h1:k≤9223372036854775807):EF fuel 5 35 [vI k] [.c .str]=some (decK k.toNat,()):=by
 refine (r33_number_m 4 k).trans ?_
 have e:IntKind.u64.wrap k=((k.toNat:Nat):Int):=by rw [u64w h0 (by omega)];omega
 rw [e,bind_go (d1of 2 k.toNat (by omega))]
 dsimp only
 have hp:=r1print_e 1 (limbs k.toNat) (dig_limbs _) (by
  have:nlen k.toNat≤2:=nlen_le (by have:pw 2=18446744073709551616:=rfl;omega)
  have e:(limbs k.toNat).length=nlen k.toNat:=rfl
  omega)
 rw [val_limbs]at hp
 rw [bind_go hp]
 rfl
theorem number33_c (k:Int) (h0:0≤k) (h1:k≤9223372036854775807):AC 35 [i64 k] (str (Lib.itoa k)):=by
 have h:=E_ac (number33_e k h0 h1) rfl
 have e:Lib.itoa k=decK k.toNat:=by
  rw [decK_eq]
  unfold Lib.itoa
  rw [if_neg (by omega)]
 rw [e]
 exact h
theorem word1:AT 37 [i64 1] (str [99,111,110,116,101,110,116]):=by
 refine ACalls.of ⟨4,[],[]⟩ (fn:=Tryz.f37) Tryz.func37 rfl rfl rfl (by kernel_rfl) (by kernel_rfl) (Nat.le_of_ble_eq_true rfl) ?_
 simp (maxSteps:=1000000) -implicitDefEqProofs only [mk_bs,go_sem,awp_seq,Nat.reduceBNe,Nat.reduceBEq,Nat.reduceAdd,Nat.reduceSub,Nat.reduceMul,Nat.reduceLeDiff,Nat.reduceLT,Nat.reduceEqDiff,Nat.reduceBneDiff,Int.reduceLE,Int.reduceLT,Int.reduceToNat,Int.reduceBEq,Int.reduceBNe,Int.reduceAdd,Int.reduceSub,Int.cast_ofNat_Int]
theorem word2:AT 37 [i64 2] (str [119,111,114,100,115]):=by
 refine ACalls.of ⟨4,[],[]⟩ (fn:=Tryz.f37) Tryz.func37 rfl rfl rfl (by kernel_rfl) (by kernel_rfl) (Nat.le_of_ble_eq_true rfl) ?_
 simp (maxSteps:=1000000) -implicitDefEqProofs only [mk_bs,go_sem,awp_seq,Nat.reduceBNe,Nat.reduceBEq,Nat.reduceAdd,Nat.reduceSub,Nat.reduceMul,Nat.reduceLeDiff,Nat.reduceLT,Nat.reduceEqDiff,Nat.reduceBneDiff,Int.reduceLE,Int.reduceLT,Int.reduceToNat,Int.reduceBEq,Int.reduceBNe,Int.reduceAdd,Int.reduceSub,Int.cast_ofNat_Int]
theorem word3:AT 37 [i64 3] (str [115,101,99,111,110,100,115]):=by
 refine ACalls.of ⟨4,[],[]⟩ (fn:=Tryz.f37) Tryz.func37 rfl rfl rfl (by kernel_rfl) (by kernel_rfl) (Nat.le_of_ble_eq_true rfl) ?_
 simp (maxSteps:=1000000) -implicitDefEqProofs only [mk_bs,go_sem,awp_seq,Nat.reduceBNe,Nat.reduceBEq,Nat.reduceAdd,Nat.reduceSub,Nat.reduceMul,Nat.reduceLeDiff,Nat.reduceLT,Nat.reduceEqDiff,Nat.reduceBneDiff,Int.reduceLE,Int.reduceLT,Int.reduceToNat,Int.reduceBEq,Int.reduceBNe,Int.reduceAdd,Int.reduceSub,Int.cast_ofNat_Int]
theorem word4:AT 37 [i64 4] (str [112,111,105,110,116,115]):=by
 refine ACalls.of ⟨4,[],[]⟩ (fn:=Tryz.f37) Tryz.func37 rfl rfl rfl (by kernel_rfl) (by kernel_rfl) (Nat.le_of_ble_eq_true rfl) ?_
 simp (maxSteps:=1000000) -implicitDefEqProofs only [mk_bs,go_sem,awp_seq,Nat.reduceBNe,Nat.reduceBEq,Nat.reduceAdd,Nat.reduceSub,Nat.reduceMul,Nat.reduceLeDiff,Nat.reduceLT,Nat.reduceEqDiff,Nat.reduceBneDiff,Int.reduceLE,Int.reduceLT,Int.reduceToNat,Int.reduceBEq,Int.reduceBNe,Int.reduceAdd,Int.reduceSub,Int.cast_ofNat_Int]
theorem word5:AT 37 [i64 5] (str [107,101,121]):=by
 refine ACalls.of ⟨4,[],[]⟩ (fn:=Tryz.f37) Tryz.func37 rfl rfl rfl (by kernel_rfl) (by kernel_rfl) (Nat.le_of_ble_eq_true rfl) ?_
 simp (maxSteps:=1000000) -implicitDefEqProofs only [mk_bs,go_sem,awp_seq,Nat.reduceBNe,Nat.reduceBEq,Nat.reduceAdd,Nat.reduceSub,Nat.reduceMul,Nat.reduceLeDiff,Nat.reduceLT,Nat.reduceEqDiff,Nat.reduceBneDiff,Int.reduceLE,Int.reduceLT,Int.reduceToNat,Int.reduceBEq,Int.reduceBNe,Int.reduceAdd,Int.reduceSub,Int.cast_ofNat_Int]
theorem word6:AT 37 [i64 6] (str [115,101,116]):=by
 refine ACalls.of ⟨4,[],[]⟩ (fn:=Tryz.f37) Tryz.func37 rfl rfl rfl (by kernel_rfl) (by kernel_rfl) (Nat.le_of_ble_eq_true rfl) ?_
 simp (maxSteps:=1000000) -implicitDefEqProofs only [mk_bs,go_sem,awp_seq,Nat.reduceBNe,Nat.reduceBEq,Nat.reduceAdd,Nat.reduceSub,Nat.reduceMul,Nat.reduceLeDiff,Nat.reduceLT,Nat.reduceEqDiff,Nat.reduceBneDiff,Int.reduceLE,Int.reduceLT,Int.reduceToNat,Int.reduceBEq,Int.reduceBNe,Int.reduceAdd,Int.reduceSub,Int.cast_ofNat_Int]
theorem word7:AT 37 [i64 7] (str [105,110,99,108,117,100,101]):=by
 refine ACalls.of ⟨4,[],[]⟩ (fn:=Tryz.f37) Tryz.func37 rfl rfl rfl (by kernel_rfl) (by kernel_rfl) (Nat.le_of_ble_eq_true rfl) ?_
 simp (maxSteps:=1000000) -implicitDefEqProofs only [mk_bs,go_sem,awp_seq,Nat.reduceBNe,Nat.reduceBEq,Nat.reduceAdd,Nat.reduceSub,Nat.reduceMul,Nat.reduceLeDiff,Nat.reduceLT,Nat.reduceEqDiff,Nat.reduceBneDiff,Int.reduceLE,Int.reduceLT,Int.reduceToNat,Int.reduceBEq,Int.reduceBNe,Int.reduceAdd,Int.reduceSub,Int.cast_ofNat_Int]
theorem word8:AT 37 [i64 8] (str [101,120,99,108,117,100,101]):=by
 refine ACalls.of ⟨4,[],[]⟩ (fn:=Tryz.f37) Tryz.func37 rfl rfl rfl (by kernel_rfl) (by kernel_rfl) (Nat.le_of_ble_eq_true rfl) ?_
 simp (maxSteps:=1000000) -implicitDefEqProofs only [mk_bs,go_sem,awp_seq,Nat.reduceBNe,Nat.reduceBEq,Nat.reduceAdd,Nat.reduceSub,Nat.reduceMul,Nat.reduceLeDiff,Nat.reduceLT,Nat.reduceEqDiff,Nat.reduceBneDiff,Int.reduceLE,Int.reduceLT,Int.reduceToNat,Int.reduceBEq,Int.reduceBNe,Int.reduceAdd,Int.reduceSub,Int.cast_ofNat_Int]
theorem word9:AT 37 [i64 9] (str [102,97,109,105,108,105,101,115]):=by
 refine ACalls.of ⟨4,[],[]⟩ (fn:=Tryz.f37) Tryz.func37 rfl rfl rfl (by kernel_rfl) (by kernel_rfl) (Nat.le_of_ble_eq_true rfl) ?_
 simp (maxSteps:=1000000) -implicitDefEqProofs only [mk_bs,go_sem,awp_seq,Nat.reduceBNe,Nat.reduceBEq,Nat.reduceAdd,Nat.reduceSub,Nat.reduceMul,Nat.reduceLeDiff,Nat.reduceLT,Nat.reduceEqDiff,Nat.reduceBneDiff,Int.reduceLE,Int.reduceLT,Int.reduceToNat,Int.reduceBEq,Int.reduceBNe,Int.reduceAdd,Int.reduceSub,Int.cast_ofNat_Int]
end Go.Proofs.YtcaahphghaddgaaGreatDoor
set_option linter.unusedSimpArgs false
set_option linter.unusedVariables false
namespace Go.Proofs.YtcaahphghaddgaaGreatDoor
open Go.RowKit Lim
theorem rules_zero:∀{rs:List RuleV},rulesE rs=0→∀r∈rs,ruleE r=0
 | [],_,r,hr=>absurd hr List.not_mem_nil
 | x :: rs,h,r,hr=>by
  unfold rulesE at h
  by_cases h1:ruleE x≠0
  ·rw [if_pos h1]at h;exact absurd h h1
  rw [if_neg h1]at h
  rcases List.mem_cons.1 hr with rfl|hr
  ·exact Classical.byContradiction h1
  ·exact rules_zero h r hr
theorem bounds_used {a b:Int} (h:boundsE a b=0):0≤a∧0≤b:=by
 unfold boundsE at h
 by_cases ha:a<0
 ·rw [decide_eq_true ha,Bool.true_or,Bool.true_or,Bool.true_or,if_pos rfl]at h
  exact absurd h (by decide)
 by_cases hb:b<0
 ·rw [decide_eq_true hb,Bool.or_true,Bool.true_or,if_pos rfl]at h
  exact absurd h (by decide)
 exact ⟨Int.not_lt.1 ha,Int.not_lt.1 hb⟩
section
variable {n lo hi:Int} {c:List UInt8}
theorem used1 (h:chkE ⟨1,n,lo,hi,c⟩=0):0≤lo∧0≤hi:=by
 have h:contE lo hi c=0:=h
 unfold contE at h
 split at h
 ·exact bounds_used h
 ·exact absurd h (by decide)
theorem used2 (h:chkE ⟨2,n,lo,hi,c⟩=0):0≤hi:=(bounds_used (a:=lo) h).2
theorem used3 (h:chkE ⟨3,n,lo,hi,c⟩=0):0≤hi:=(bounds_used (a:=lo) h).2
theorem used4 (h:chkE ⟨4,n,lo,hi,c⟩=0):0≤lo∧0≤hi:=bounds_used h
theorem used5 (h:chkE ⟨5,n,lo,hi,c⟩=0):0≤n∧0≤lo∧0≤hi:=by
 unfold chkE at h
 rw [if_neg (show ¬(5:Int)=1 by decide),if_pos rfl]at h
 unfold keyE at h
 by_cases h1:n<1
 ·rw [decide_eq_true h1,Bool.true_or,if_pos rfl]at h
  exact absurd h (by decide)
 by_cases h2:10<n
 ·rw [decide_eq_true h2,Bool.or_true,if_pos rfl]at h
  exact absurd h (by decide)
 rw [decide_eq_false h1,decide_eq_false h2,if_neg (by decide)]at h
 exact ⟨by clear h;omega,bounds_used h⟩
theorem num_used {n:Int} (h:numB n=true):0≤n:=by
 unfold numB at h
 have:=of_decide_eq_true (kand h).1
 omega
theorem used6 (h:chkE ⟨6,n,lo,hi,c⟩=0):0≤n∧0≤lo∧0≤hi:=by
 have h:setE lo hi n=0:=h
 unfold setE at h
 split at h
 ·exact absurd h (by decide)
 ·rename_i h1
  simp at h1
  exact ⟨num_used h1.1,bounds_used h⟩
theorem used7 (h:chkE ⟨7,n,lo,hi,c⟩=0):0≤n:=by
 have h:(if numB n then (0:Int) else 3)=0:=h
 split at h
 ·rename_i h1;exact num_used h1
 ·exact absurd h (by decide)
theorem used8 (h:chkE ⟨8,n,lo,hi,c⟩=0):0≤n:=by
 have h:(if numB n then (0:Int) else 3)=0:=h
 split at h
 ·rename_i h1;exact num_used h1
 ·exact absurd h (by decide)
end
set_option maxHeartbeats 8000000 in
theorem print33_c (n:Int) (rs:List RuleV) (hn:in64Z n) (hr:∀r∈rs,RIn r) (h0:specE n rs=0):AC 11 [.agg [i64 n,rulesA rs]] (.tup [str (specT n rs),i64 0]):=by
 obtain ⟨hl,hok⟩:=spec_ok h0
 have V:=valid33_c n rs
 rw [h0]at V
 have h0':rulesE rs=0:=by
  unfold specE at h0
  split at h0
  ·exact absurd h0 (by decide)
  ·split at h0
   ·exact absurd h0 (by decide)
   ·exact h0
 have hn0:0≤n:=by
  unfold specE at h0
  split at h0
  ·exact absurd h0 (by decide)
  ·rename_i h;simp at h;omega
 have N:=number33_c n hn0 hn.2
 have hN:(Lib.itoa n).length≤21:=Lib.itoa_length_le n hn.1 hn.2
 obtain ⟨t0,ht0⟩:∃t0,t0=textT [108,101,110,103,116,104] [n]:=⟨_,rfl⟩
 have e0:wrt t0 ((rs.map lineT).take 0)=[108,101,110,103,116,104,32] ++ Lib.itoa n ++ [10]:=by
  rw [ht0]
  simp [wrt,textT,Lib.join_cons,Lib.joinTail]
 have hb:(wrt t0 (rs.map lineT)).length≤200000000:=by
  have h1:=textT_len [108,101,110,103,116,104] [n] (by simp) (by simp) (fun m hm=>by simp at hm;subst hm;exact hn)
  have h2:=wrt_flat 8000004 (rs.map lineT) (fun l hl=>by obtain ⟨r,hr1,rfl⟩:=List.mem_map.1 hl;exact lineT_len r (hr r hr1))
  have h3:(rs.map lineT).length*(8000004+1)≤20*(8000004+1):=Nat.mul_le_mul_right _ (by simpa using hl)
  rw [ht0]
  unfold wrt
  rw [List.length_append,List.length_append,List.length_singleton]
  omega
 unfold specT
 rw [←ht0]
 have hfin:wrt t0 (rs.map lineT)=wrt t0 ((rs.map lineT).take rs.length):=by rw [List.take_of_length_le (by simp)]
 generalize Lib.itoa n=ni at *
 refine ACalls.of ⟨26,[],[]⟩ (fn:=Tryz.f11) Tryz.func11 rfl rfl rfl (by kernel_rfl) (by kernel_rfl) (Nat.le_of_ble_eq_true rfl) ?_
 simp (maxSteps:=1000000) -implicitDefEqProofs only [go_sem,awp_seq,Nat.reduceBNe,Nat.reduceBEq,Nat.reduceAdd,Nat.reduceSub,Nat.reduceMul,Nat.reduceLeDiff,Nat.reduceLT,Nat.reduceEqDiff,Nat.reduceBneDiff,Int.reduceLE,Int.reduceLT,Int.reduceToNat,Int.reduceBEq,Int.reduceBNe,Int.reduceAdd,Int.reduceSub,Int.cast_ofNat_Int]
 refine callA_t V ?_
 simp (maxSteps:=1000000) -implicitDefEqProofs only [go_sem,awp_seq,Nat.reduceBNe,Nat.reduceBEq,Nat.reduceAdd,Nat.reduceSub,Nat.reduceMul,Nat.reduceLeDiff,Nat.reduceLT,Nat.reduceEqDiff,Nat.reduceBneDiff,Int.reduceLE,Int.reduceLT,Int.reduceToNat,Int.reduceBEq,Int.reduceBNe,Int.reduceAdd,Int.reduceSub,Int.cast_ofNat_Int]
 refine callA_mk (q:=[]) N ?_
 simp (maxSteps:=1000000) -implicitDefEqProofs only [mk_bs,bs_app,bs_size,List.length_map,List.length_append,List.length_cons,List.length_nil,go_sem,awp_seq,Nat.reduceBNe,Nat.reduceBEq,Nat.reduceAdd,Nat.reduceSub,Nat.reduceMul,Nat.reduceLeDiff,Nat.reduceLT,Nat.reduceEqDiff,Nat.reduceBneDiff,Int.reduceLE,Int.reduceLT,Int.reduceToNat,Int.reduceBEq,Int.reduceBNe,Int.reduceAdd,Int.reduceSub,Int.cast_ofNat_Int]
 refine ⟨by omega,by omega,?_⟩
 have e0':108 :: 101 :: 110 :: 103 :: 116 :: 104 :: 32 :: (ni ++ [10])=wrt t0 ((rs.map lineT).take 0):=by rw [e0];simp
 refine loop_mk (α:={k:Nat // k≤rs.length}) (fun k=>[(0,some (.av (.agg [i64 n,rulesA rs]))),(1,some (.ref 1 0)),(2,some (.av (str []))),(3,some (.av (i64 0))),(5,some (.av (str (wrt t0 ((rs.map lineT).take k.1))))),(23,some (.av (rulesA rs))),(24,some (.av (i64 (rs.length:Nat)))),(25,some (.av (i64 (k.1:Nat))))]) (fun _=>[(1,[i64 n,rulesA rs])]) (fun _=>[]) (fun k=>rs.length-k.1) ⟨0,Nat.zero_le _⟩ ?_ ?_
 ·rw [←e0']
  simp (maxSteps:=1000000) -implicitDefEqProofs only [mk_bs,bs_app,List.cons_append,List.nil_append,List.append_assoc,go_sem,awp_seq,Nat.reduceBNe,Nat.reduceBEq,Nat.reduceAdd,Nat.reduceSub,Nat.reduceMul,Nat.reduceLeDiff,Nat.reduceLT,Nat.reduceEqDiff,Nat.reduceBneDiff,Int.reduceLE,Int.reduceLT,Int.reduceToNat,Int.reduceBEq,Int.reduceBNe,Int.reduceAdd,Int.reduceSub,Int.cast_ofNat_Int]
 ·rintro ⟨k,hk⟩
  by_cases hlt:k<rs.length
  ·have g1:decide (((k:Nat):Int)<(rs.length:Nat))=true:=by simp;omega
   have e1:=map_get ruleA rs hlt
   have w1:IntKind.i64.wrap ((k:Int)+1)=((k+1:Nat):Int):=by rw [IntWalk.i64_in _ (by omega)];omega
   have hst:=wrt_step t0 (rs.map lineT) k (lineT rs[k]) (by rw [List.getElem?_map,List.getElem?_eq_getElem hlt];rfl)
   have hle:=Nat.le_trans (wrt_le t0 (rs.map lineT) (k+1)) hb
   have hru:=rules_zero h0' rs[k] (List.getElem_mem hlt)
   have hri:=hr rs[k] (List.getElem_mem hlt)
   have hro:=hok rs[k] (List.getElem_mem hlt)
   generalize wrt t0 ((rs.map lineT).take k)=T at *
   generalize rs[k]=r at *
   have hkk:=dem_kind hro
   have hc0:=chk_ok hro
   rw [hru]at hc0
   obtain ⟨kk,nn,lo,hi,code⟩:=r
   obtain ⟨i1,i2,i3,i4⟩:=hri
   dsimp only at i1 i2 i3 i4 hkk
   clear hru hro hfin hb e0 e0' ht0
   rcases hkk with rfl|rfl|rfl|rfl|rfl|rfl|rfl|rfl|rfl
   ·have q:=used1 hc0.symm
    have eL:lineT ⟨1,nn,lo,hi,code⟩=[99,111,110,116,101,110,116] ++ [32] ++ code ++ [32] ++ Lib.itoa lo ++ [32] ++ Lib.itoa hi:=by simp [lineT,textT,Lib.join_cons,Lib.joinTail]
    rw [eL]at hst
    have Nl:=number33_c lo q.1 i2.2
    have Ll:=Lib.itoa_length_le lo i2.1 i2.2
    generalize Lib.itoa lo=sl at *
    have Nh:=number33_c hi q.2 i3.2
    have Lh:=Lib.itoa_length_le hi i3.1 i3.2
    generalize Lib.itoa hi=sh at *
    clear eL hc0
    rw [hst]at hle
    simp only [List.length_append,List.length_cons,List.length_nil]at hle
    simp (maxSteps:=1000000) -implicitDefEqProofs only [g1,e1,Int.toNat_natCast,Int.natCast_nonneg,go_sem,awp_seq,Nat.reduceBNe,Nat.reduceBEq,Nat.reduceAdd,Nat.reduceSub,Nat.reduceMul,Nat.reduceLeDiff,Nat.reduceLT,Nat.reduceEqDiff,Nat.reduceBneDiff,Int.reduceLE,Int.reduceLT,Int.reduceToNat,Int.reduceBEq,Int.reduceBNe,Int.reduceAdd,Int.reduceSub,Int.cast_ofNat_Int]
    refine callA_t uses1 ?_
    simp (maxSteps:=1000000) -implicitDefEqProofs only [go_sem,awp_seq,Nat.reduceBNe,Nat.reduceBEq,Nat.reduceAdd,Nat.reduceSub,Nat.reduceMul,Nat.reduceLeDiff,Nat.reduceLT,Nat.reduceEqDiff,Nat.reduceBneDiff,Int.reduceLE,Int.reduceLT,Int.reduceToNat,Int.reduceBEq,Int.reduceBNe,Int.reduceAdd,Int.reduceSub,Int.cast_ofNat_Int]
    refine callA_t word1 ?_
    simp (maxSteps:=1000000) -implicitDefEqProofs only [mk_bs,bs_app,bs_size,List.length_append,List.length_cons,List.length_nil,go_sem,awp_seq,Nat.reduceBNe,Nat.reduceBEq,Nat.reduceAdd,Nat.reduceSub,Nat.reduceMul,Nat.reduceLeDiff,Nat.reduceLT,Nat.reduceEqDiff,Nat.reduceBneDiff,Int.reduceLE,Int.reduceLT,Int.reduceToNat,Int.reduceBEq,Int.reduceBNe,Int.reduceAdd,Int.reduceSub,Int.cast_ofNat_Int]
    refine ⟨by omega,by omega,by omega,by omega,callA_mk (q:=[]) Nl ?_⟩
    simp (maxSteps:=1000000) -implicitDefEqProofs only [mk_bs,bs_app,bs_size,List.length_append,List.length_cons,List.length_nil,go_sem,awp_seq,Nat.reduceBNe,Nat.reduceBEq,Nat.reduceAdd,Nat.reduceSub,Nat.reduceMul,Nat.reduceLeDiff,Nat.reduceLT,Nat.reduceEqDiff,Nat.reduceBneDiff,Int.reduceLE,Int.reduceLT,Int.reduceToNat,Int.reduceBEq,Int.reduceBNe,Int.reduceAdd,Int.reduceSub,Int.cast_ofNat_Int]
    refine ⟨by omega,by omega,callA_mk (q:=[]) Nh ?_⟩
    simp (maxSteps:=1000000) -implicitDefEqProofs only [mk_bs,bs_app,bs_size,List.length_append,List.length_cons,List.length_nil,go_sem,awp_seq,Nat.reduceBNe,Nat.reduceBEq,Nat.reduceAdd,Nat.reduceSub,Nat.reduceMul,Nat.reduceLeDiff,Nat.reduceLT,Nat.reduceEqDiff,Nat.reduceBneDiff,Int.reduceLE,Int.reduceLT,Int.reduceToNat,Int.reduceBEq,Int.reduceBNe,Int.reduceAdd,Int.reduceSub,Int.cast_ofNat_Int]
    simp only [w1]
    refine ⟨by omega,by omega,?_⟩
    refine roundK_mk ⟨k+1,by omega⟩ ?_ (by show rs.length-(k+1)<rs.length-k;omega)
    rw [hst]
    simp (maxSteps:=1000000) -implicitDefEqProofs only [mk_bs,bs_app,bs_size,List.length_append,List.length_cons,List.length_nil,List.cons_append,List.nil_append,List.append_assoc,go_sem,awp_seq,Nat.reduceBNe,Nat.reduceBEq,Nat.reduceAdd,Nat.reduceSub,Nat.reduceMul,Nat.reduceLeDiff,Nat.reduceLT,Nat.reduceEqDiff,Nat.reduceBneDiff,Int.reduceLE,Int.reduceLT,Int.reduceToNat,Int.reduceBEq,Int.reduceBNe,Int.reduceAdd,Int.reduceSub,Int.cast_ofNat_Int]
   ·have q:=used2 hc0.symm
    have eL:lineT ⟨2,nn,lo,hi,code⟩=[119,111,114,100,115] ++ [32] ++ Lib.itoa hi:=by simp [lineT,textT,Lib.join_cons,Lib.joinTail]
    rw [eL]at hst
    have Nh:=number33_c hi q i3.2
    have Lh:=Lib.itoa_length_le hi i3.1 i3.2
    generalize Lib.itoa hi=sh at *
    clear eL hc0
    rw [hst]at hle
    simp only [List.length_append,List.length_cons,List.length_nil]at hle
    simp (maxSteps:=1000000) -implicitDefEqProofs only [g1,e1,Int.toNat_natCast,Int.natCast_nonneg,go_sem,awp_seq,Nat.reduceBNe,Nat.reduceBEq,Nat.reduceAdd,Nat.reduceSub,Nat.reduceMul,Nat.reduceLeDiff,Nat.reduceLT,Nat.reduceEqDiff,Nat.reduceBneDiff,Int.reduceLE,Int.reduceLT,Int.reduceToNat,Int.reduceBEq,Int.reduceBNe,Int.reduceAdd,Int.reduceSub,Int.cast_ofNat_Int]
    refine callA_t uses2 ?_
    simp (maxSteps:=1000000) -implicitDefEqProofs only [go_sem,awp_seq,Nat.reduceBNe,Nat.reduceBEq,Nat.reduceAdd,Nat.reduceSub,Nat.reduceMul,Nat.reduceLeDiff,Nat.reduceLT,Nat.reduceEqDiff,Nat.reduceBneDiff,Int.reduceLE,Int.reduceLT,Int.reduceToNat,Int.reduceBEq,Int.reduceBNe,Int.reduceAdd,Int.reduceSub,Int.cast_ofNat_Int]
    refine callA_t word2 ?_
    simp (maxSteps:=1000000) -implicitDefEqProofs only [mk_bs,bs_app,bs_size,List.length_append,List.length_cons,List.length_nil,go_sem,awp_seq,Nat.reduceBNe,Nat.reduceBEq,Nat.reduceAdd,Nat.reduceSub,Nat.reduceMul,Nat.reduceLeDiff,Nat.reduceLT,Nat.reduceEqDiff,Nat.reduceBneDiff,Int.reduceLE,Int.reduceLT,Int.reduceToNat,Int.reduceBEq,Int.reduceBNe,Int.reduceAdd,Int.reduceSub,Int.cast_ofNat_Int]
    refine ⟨by omega,by omega,callA_mk (q:=[]) Nh ?_⟩
    simp (maxSteps:=1000000) -implicitDefEqProofs only [mk_bs,bs_app,bs_size,List.length_append,List.length_cons,List.length_nil,go_sem,awp_seq,Nat.reduceBNe,Nat.reduceBEq,Nat.reduceAdd,Nat.reduceSub,Nat.reduceMul,Nat.reduceLeDiff,Nat.reduceLT,Nat.reduceEqDiff,Nat.reduceBneDiff,Int.reduceLE,Int.reduceLT,Int.reduceToNat,Int.reduceBEq,Int.reduceBNe,Int.reduceAdd,Int.reduceSub,Int.cast_ofNat_Int]
    simp only [w1]
    refine ⟨by omega,by omega,?_⟩
    refine roundK_mk ⟨k+1,by omega⟩ ?_ (by show rs.length-(k+1)<rs.length-k;omega)
    rw [hst]
    simp (maxSteps:=1000000) -implicitDefEqProofs only [mk_bs,bs_app,bs_size,List.length_append,List.length_cons,List.length_nil,List.cons_append,List.nil_append,List.append_assoc,go_sem,awp_seq,Nat.reduceBNe,Nat.reduceBEq,Nat.reduceAdd,Nat.reduceSub,Nat.reduceMul,Nat.reduceLeDiff,Nat.reduceLT,Nat.reduceEqDiff,Nat.reduceBneDiff,Int.reduceLE,Int.reduceLT,Int.reduceToNat,Int.reduceBEq,Int.reduceBNe,Int.reduceAdd,Int.reduceSub,Int.cast_ofNat_Int]
   ·have q:=used3 hc0.symm
    have eL:lineT ⟨3,nn,lo,hi,code⟩=[115,101,99,111,110,100,115] ++ [32] ++ Lib.itoa hi:=by simp [lineT,textT,Lib.join_cons,Lib.joinTail]
    rw [eL]at hst
    have Nh:=number33_c hi q i3.2
    have Lh:=Lib.itoa_length_le hi i3.1 i3.2
    generalize Lib.itoa hi=sh at *
    clear eL hc0
    rw [hst]at hle
    simp only [List.length_append,List.length_cons,List.length_nil]at hle
    simp (maxSteps:=1000000) -implicitDefEqProofs only [g1,e1,Int.toNat_natCast,Int.natCast_nonneg,go_sem,awp_seq,Nat.reduceBNe,Nat.reduceBEq,Nat.reduceAdd,Nat.reduceSub,Nat.reduceMul,Nat.reduceLeDiff,Nat.reduceLT,Nat.reduceEqDiff,Nat.reduceBneDiff,Int.reduceLE,Int.reduceLT,Int.reduceToNat,Int.reduceBEq,Int.reduceBNe,Int.reduceAdd,Int.reduceSub,Int.cast_ofNat_Int]
    refine callA_t uses3 ?_
    simp (maxSteps:=1000000) -implicitDefEqProofs only [go_sem,awp_seq,Nat.reduceBNe,Nat.reduceBEq,Nat.reduceAdd,Nat.reduceSub,Nat.reduceMul,Nat.reduceLeDiff,Nat.reduceLT,Nat.reduceEqDiff,Nat.reduceBneDiff,Int.reduceLE,Int.reduceLT,Int.reduceToNat,Int.reduceBEq,Int.reduceBNe,Int.reduceAdd,Int.reduceSub,Int.cast_ofNat_Int]
    refine callA_t word3 ?_
    simp (maxSteps:=1000000) -implicitDefEqProofs only [mk_bs,bs_app,bs_size,List.length_append,List.length_cons,List.length_nil,go_sem,awp_seq,Nat.reduceBNe,Nat.reduceBEq,Nat.reduceAdd,Nat.reduceSub,Nat.reduceMul,Nat.reduceLeDiff,Nat.reduceLT,Nat.reduceEqDiff,Nat.reduceBneDiff,Int.reduceLE,Int.reduceLT,Int.reduceToNat,Int.reduceBEq,Int.reduceBNe,Int.reduceAdd,Int.reduceSub,Int.cast_ofNat_Int]
    refine ⟨by omega,by omega,callA_mk (q:=[]) Nh ?_⟩
    simp (maxSteps:=1000000) -implicitDefEqProofs only [mk_bs,bs_app,bs_size,List.length_append,List.length_cons,List.length_nil,go_sem,awp_seq,Nat.reduceBNe,Nat.reduceBEq,Nat.reduceAdd,Nat.reduceSub,Nat.reduceMul,Nat.reduceLeDiff,Nat.reduceLT,Nat.reduceEqDiff,Nat.reduceBneDiff,Int.reduceLE,Int.reduceLT,Int.reduceToNat,Int.reduceBEq,Int.reduceBNe,Int.reduceAdd,Int.reduceSub,Int.cast_ofNat_Int]
    simp only [w1]
    refine ⟨by omega,by omega,?_⟩
    refine roundK_mk ⟨k+1,by omega⟩ ?_ (by show rs.length-(k+1)<rs.length-k;omega)
    rw [hst]
    simp (maxSteps:=1000000) -implicitDefEqProofs only [mk_bs,bs_app,bs_size,List.length_append,List.length_cons,List.length_nil,List.cons_append,List.nil_append,List.append_assoc,go_sem,awp_seq,Nat.reduceBNe,Nat.reduceBEq,Nat.reduceAdd,Nat.reduceSub,Nat.reduceMul,Nat.reduceLeDiff,Nat.reduceLT,Nat.reduceEqDiff,Nat.reduceBneDiff,Int.reduceLE,Int.reduceLT,Int.reduceToNat,Int.reduceBEq,Int.reduceBNe,Int.reduceAdd,Int.reduceSub,Int.cast_ofNat_Int]
   ·have q:=used4 hc0.symm
    have eL:lineT ⟨4,nn,lo,hi,code⟩=[112,111,105,110,116,115] ++ [32] ++ Lib.itoa lo ++ [32] ++ Lib.itoa hi:=by simp [lineT,textT,Lib.join_cons,Lib.joinTail]
    rw [eL]at hst
    have Nl:=number33_c lo q.1 i2.2
    have Ll:=Lib.itoa_length_le lo i2.1 i2.2
    generalize Lib.itoa lo=sl at *
    have Nh:=number33_c hi q.2 i3.2
    have Lh:=Lib.itoa_length_le hi i3.1 i3.2
    generalize Lib.itoa hi=sh at *
    clear eL hc0
    rw [hst]at hle
    simp only [List.length_append,List.length_cons,List.length_nil]at hle
    simp (maxSteps:=1000000) -implicitDefEqProofs only [g1,e1,Int.toNat_natCast,Int.natCast_nonneg,go_sem,awp_seq,Nat.reduceBNe,Nat.reduceBEq,Nat.reduceAdd,Nat.reduceSub,Nat.reduceMul,Nat.reduceLeDiff,Nat.reduceLT,Nat.reduceEqDiff,Nat.reduceBneDiff,Int.reduceLE,Int.reduceLT,Int.reduceToNat,Int.reduceBEq,Int.reduceBNe,Int.reduceAdd,Int.reduceSub,Int.cast_ofNat_Int]
    refine callA_t uses4 ?_
    simp (maxSteps:=1000000) -implicitDefEqProofs only [go_sem,awp_seq,Nat.reduceBNe,Nat.reduceBEq,Nat.reduceAdd,Nat.reduceSub,Nat.reduceMul,Nat.reduceLeDiff,Nat.reduceLT,Nat.reduceEqDiff,Nat.reduceBneDiff,Int.reduceLE,Int.reduceLT,Int.reduceToNat,Int.reduceBEq,Int.reduceBNe,Int.reduceAdd,Int.reduceSub,Int.cast_ofNat_Int]
    refine callA_t word4 ?_
    simp (maxSteps:=1000000) -implicitDefEqProofs only [mk_bs,bs_app,bs_size,List.length_append,List.length_cons,List.length_nil,go_sem,awp_seq,Nat.reduceBNe,Nat.reduceBEq,Nat.reduceAdd,Nat.reduceSub,Nat.reduceMul,Nat.reduceLeDiff,Nat.reduceLT,Nat.reduceEqDiff,Nat.reduceBneDiff,Int.reduceLE,Int.reduceLT,Int.reduceToNat,Int.reduceBEq,Int.reduceBNe,Int.reduceAdd,Int.reduceSub,Int.cast_ofNat_Int]
    refine ⟨by omega,by omega,callA_mk (q:=[]) Nl ?_⟩
    simp (maxSteps:=1000000) -implicitDefEqProofs only [mk_bs,bs_app,bs_size,List.length_append,List.length_cons,List.length_nil,go_sem,awp_seq,Nat.reduceBNe,Nat.reduceBEq,Nat.reduceAdd,Nat.reduceSub,Nat.reduceMul,Nat.reduceLeDiff,Nat.reduceLT,Nat.reduceEqDiff,Nat.reduceBneDiff,Int.reduceLE,Int.reduceLT,Int.reduceToNat,Int.reduceBEq,Int.reduceBNe,Int.reduceAdd,Int.reduceSub,Int.cast_ofNat_Int]
    refine ⟨by omega,by omega,callA_mk (q:=[]) Nh ?_⟩
    simp (maxSteps:=1000000) -implicitDefEqProofs only [mk_bs,bs_app,bs_size,List.length_append,List.length_cons,List.length_nil,go_sem,awp_seq,Nat.reduceBNe,Nat.reduceBEq,Nat.reduceAdd,Nat.reduceSub,Nat.reduceMul,Nat.reduceLeDiff,Nat.reduceLT,Nat.reduceEqDiff,Nat.reduceBneDiff,Int.reduceLE,Int.reduceLT,Int.reduceToNat,Int.reduceBEq,Int.reduceBNe,Int.reduceAdd,Int.reduceSub,Int.cast_ofNat_Int]
    simp only [w1]
    refine ⟨by omega,by omega,?_⟩
    refine roundK_mk ⟨k+1,by omega⟩ ?_ (by show rs.length-(k+1)<rs.length-k;omega)
    rw [hst]
    simp (maxSteps:=1000000) -implicitDefEqProofs only [mk_bs,bs_app,bs_size,List.length_append,List.length_cons,List.length_nil,List.cons_append,List.nil_append,List.append_assoc,go_sem,awp_seq,Nat.reduceBNe,Nat.reduceBEq,Nat.reduceAdd,Nat.reduceSub,Nat.reduceMul,Nat.reduceLeDiff,Nat.reduceLT,Nat.reduceEqDiff,Nat.reduceBneDiff,Int.reduceLE,Int.reduceLT,Int.reduceToNat,Int.reduceBEq,Int.reduceBNe,Int.reduceAdd,Int.reduceSub,Int.cast_ofNat_Int]
   ·have q:=used5 hc0.symm
    have eL:lineT ⟨5,nn,lo,hi,code⟩=[107,101,121] ++ [32] ++ Lib.itoa nn ++ [32] ++ Lib.itoa lo ++ [32] ++ Lib.itoa hi:=by simp [lineT,textT,Lib.join_cons,Lib.joinTail]
    rw [eL]at hst
    have Nn:=number33_c nn q.1 i1.2
    have Ln:=Lib.itoa_length_le nn i1.1 i1.2
    generalize Lib.itoa nn=sn at *
    have Nl:=number33_c lo q.2.1 i2.2
    have Ll:=Lib.itoa_length_le lo i2.1 i2.2
    generalize Lib.itoa lo=sl at *
    have Nh:=number33_c hi q.2.2 i3.2
    have Lh:=Lib.itoa_length_le hi i3.1 i3.2
    generalize Lib.itoa hi=sh at *
    clear eL hc0
    rw [hst]at hle
    simp only [List.length_append,List.length_cons,List.length_nil]at hle
    simp (maxSteps:=1000000) -implicitDefEqProofs only [g1,e1,Int.toNat_natCast,Int.natCast_nonneg,go_sem,awp_seq,Nat.reduceBNe,Nat.reduceBEq,Nat.reduceAdd,Nat.reduceSub,Nat.reduceMul,Nat.reduceLeDiff,Nat.reduceLT,Nat.reduceEqDiff,Nat.reduceBneDiff,Int.reduceLE,Int.reduceLT,Int.reduceToNat,Int.reduceBEq,Int.reduceBNe,Int.reduceAdd,Int.reduceSub,Int.cast_ofNat_Int]
    refine callA_t uses5 ?_
    simp (maxSteps:=1000000) -implicitDefEqProofs only [go_sem,awp_seq,Nat.reduceBNe,Nat.reduceBEq,Nat.reduceAdd,Nat.reduceSub,Nat.reduceMul,Nat.reduceLeDiff,Nat.reduceLT,Nat.reduceEqDiff,Nat.reduceBneDiff,Int.reduceLE,Int.reduceLT,Int.reduceToNat,Int.reduceBEq,Int.reduceBNe,Int.reduceAdd,Int.reduceSub,Int.cast_ofNat_Int]
    refine callA_t word5 ?_
    simp (maxSteps:=1000000) -implicitDefEqProofs only [mk_bs,bs_app,bs_size,List.length_append,List.length_cons,List.length_nil,go_sem,awp_seq,Nat.reduceBNe,Nat.reduceBEq,Nat.reduceAdd,Nat.reduceSub,Nat.reduceMul,Nat.reduceLeDiff,Nat.reduceLT,Nat.reduceEqDiff,Nat.reduceBneDiff,Int.reduceLE,Int.reduceLT,Int.reduceToNat,Int.reduceBEq,Int.reduceBNe,Int.reduceAdd,Int.reduceSub,Int.cast_ofNat_Int]
    refine ⟨by omega,by omega,callA_mk (q:=[]) Nn ?_⟩
    simp (maxSteps:=1000000) -implicitDefEqProofs only [mk_bs,bs_app,bs_size,List.length_append,List.length_cons,List.length_nil,go_sem,awp_seq,Nat.reduceBNe,Nat.reduceBEq,Nat.reduceAdd,Nat.reduceSub,Nat.reduceMul,Nat.reduceLeDiff,Nat.reduceLT,Nat.reduceEqDiff,Nat.reduceBneDiff,Int.reduceLE,Int.reduceLT,Int.reduceToNat,Int.reduceBEq,Int.reduceBNe,Int.reduceAdd,Int.reduceSub,Int.cast_ofNat_Int]
    refine ⟨by omega,by omega,callA_mk (q:=[]) Nl ?_⟩
    simp (maxSteps:=1000000) -implicitDefEqProofs only [mk_bs,bs_app,bs_size,List.length_append,List.length_cons,List.length_nil,go_sem,awp_seq,Nat.reduceBNe,Nat.reduceBEq,Nat.reduceAdd,Nat.reduceSub,Nat.reduceMul,Nat.reduceLeDiff,Nat.reduceLT,Nat.reduceEqDiff,Nat.reduceBneDiff,Int.reduceLE,Int.reduceLT,Int.reduceToNat,Int.reduceBEq,Int.reduceBNe,Int.reduceAdd,Int.reduceSub,Int.cast_ofNat_Int]
    refine ⟨by omega,by omega,callA_mk (q:=[]) Nh ?_⟩
    simp (maxSteps:=1000000) -implicitDefEqProofs only [mk_bs,bs_app,bs_size,List.length_append,List.length_cons,List.length_nil,go_sem,awp_seq,Nat.reduceBNe,Nat.reduceBEq,Nat.reduceAdd,Nat.reduceSub,Nat.reduceMul,Nat.reduceLeDiff,Nat.reduceLT,Nat.reduceEqDiff,Nat.reduceBneDiff,Int.reduceLE,Int.reduceLT,Int.reduceToNat,Int.reduceBEq,Int.reduceBNe,Int.reduceAdd,Int.reduceSub,Int.cast_ofNat_Int]
    simp only [w1]
    refine ⟨by omega,by omega,?_⟩
    refine roundK_mk ⟨k+1,by omega⟩ ?_ (by show rs.length-(k+1)<rs.length-k;omega)
    rw [hst]
    simp (maxSteps:=1000000) -implicitDefEqProofs only [mk_bs,bs_app,bs_size,List.length_append,List.length_cons,List.length_nil,List.cons_append,List.nil_append,List.append_assoc,go_sem,awp_seq,Nat.reduceBNe,Nat.reduceBEq,Nat.reduceAdd,Nat.reduceSub,Nat.reduceMul,Nat.reduceLeDiff,Nat.reduceLT,Nat.reduceEqDiff,Nat.reduceBneDiff,Int.reduceLE,Int.reduceLT,Int.reduceToNat,Int.reduceBEq,Int.reduceBNe,Int.reduceAdd,Int.reduceSub,Int.cast_ofNat_Int]
   ·have q:=used6 hc0.symm
    have eL:lineT ⟨6,nn,lo,hi,code⟩=[115,101,116] ++ [32] ++ Lib.itoa nn ++ [32] ++ Lib.itoa lo ++ [32] ++ Lib.itoa hi:=by simp [lineT,textT,Lib.join_cons,Lib.joinTail]
    rw [eL]at hst
    have Nn:=number33_c nn q.1 i1.2
    have Ln:=Lib.itoa_length_le nn i1.1 i1.2
    generalize Lib.itoa nn=sn at *
    have Nl:=number33_c lo q.2.1 i2.2
    have Ll:=Lib.itoa_length_le lo i2.1 i2.2
    generalize Lib.itoa lo=sl at *
    have Nh:=number33_c hi q.2.2 i3.2
    have Lh:=Lib.itoa_length_le hi i3.1 i3.2
    generalize Lib.itoa hi=sh at *
    clear eL hc0
    rw [hst]at hle
    simp only [List.length_append,List.length_cons,List.length_nil]at hle
    simp (maxSteps:=1000000) -implicitDefEqProofs only [g1,e1,Int.toNat_natCast,Int.natCast_nonneg,go_sem,awp_seq,Nat.reduceBNe,Nat.reduceBEq,Nat.reduceAdd,Nat.reduceSub,Nat.reduceMul,Nat.reduceLeDiff,Nat.reduceLT,Nat.reduceEqDiff,Nat.reduceBneDiff,Int.reduceLE,Int.reduceLT,Int.reduceToNat,Int.reduceBEq,Int.reduceBNe,Int.reduceAdd,Int.reduceSub,Int.cast_ofNat_Int]
    refine callA_t uses6 ?_
    simp (maxSteps:=1000000) -implicitDefEqProofs only [go_sem,awp_seq,Nat.reduceBNe,Nat.reduceBEq,Nat.reduceAdd,Nat.reduceSub,Nat.reduceMul,Nat.reduceLeDiff,Nat.reduceLT,Nat.reduceEqDiff,Nat.reduceBneDiff,Int.reduceLE,Int.reduceLT,Int.reduceToNat,Int.reduceBEq,Int.reduceBNe,Int.reduceAdd,Int.reduceSub,Int.cast_ofNat_Int]
    refine callA_t word6 ?_
    simp (maxSteps:=1000000) -implicitDefEqProofs only [mk_bs,bs_app,bs_size,List.length_append,List.length_cons,List.length_nil,go_sem,awp_seq,Nat.reduceBNe,Nat.reduceBEq,Nat.reduceAdd,Nat.reduceSub,Nat.reduceMul,Nat.reduceLeDiff,Nat.reduceLT,Nat.reduceEqDiff,Nat.reduceBneDiff,Int.reduceLE,Int.reduceLT,Int.reduceToNat,Int.reduceBEq,Int.reduceBNe,Int.reduceAdd,Int.reduceSub,Int.cast_ofNat_Int]
    refine ⟨by omega,by omega,callA_mk (q:=[]) Nn ?_⟩
    simp (maxSteps:=1000000) -implicitDefEqProofs only [mk_bs,bs_app,bs_size,List.length_append,List.length_cons,List.length_nil,go_sem,awp_seq,Nat.reduceBNe,Nat.reduceBEq,Nat.reduceAdd,Nat.reduceSub,Nat.reduceMul,Nat.reduceLeDiff,Nat.reduceLT,Nat.reduceEqDiff,Nat.reduceBneDiff,Int.reduceLE,Int.reduceLT,Int.reduceToNat,Int.reduceBEq,Int.reduceBNe,Int.reduceAdd,Int.reduceSub,Int.cast_ofNat_Int]
    refine ⟨by omega,by omega,callA_mk (q:=[]) Nl ?_⟩
    simp (maxSteps:=1000000) -implicitDefEqProofs only [mk_bs,bs_app,bs_size,List.length_append,List.length_cons,List.length_nil,go_sem,awp_seq,Nat.reduceBNe,Nat.reduceBEq,Nat.reduceAdd,Nat.reduceSub,Nat.reduceMul,Nat.reduceLeDiff,Nat.reduceLT,Nat.reduceEqDiff,Nat.reduceBneDiff,Int.reduceLE,Int.reduceLT,Int.reduceToNat,Int.reduceBEq,Int.reduceBNe,Int.reduceAdd,Int.reduceSub,Int.cast_ofNat_Int]
    refine ⟨by omega,by omega,callA_mk (q:=[]) Nh ?_⟩
    simp (maxSteps:=1000000) -implicitDefEqProofs only [mk_bs,bs_app,bs_size,List.length_append,List.length_cons,List.length_nil,go_sem,awp_seq,Nat.reduceBNe,Nat.reduceBEq,Nat.reduceAdd,Nat.reduceSub,Nat.reduceMul,Nat.reduceLeDiff,Nat.reduceLT,Nat.reduceEqDiff,Nat.reduceBneDiff,Int.reduceLE,Int.reduceLT,Int.reduceToNat,Int.reduceBEq,Int.reduceBNe,Int.reduceAdd,Int.reduceSub,Int.cast_ofNat_Int]
    simp only [w1]
    refine ⟨by omega,by omega,?_⟩
    refine roundK_mk ⟨k+1,by omega⟩ ?_ (by show rs.length-(k+1)<rs.length-k;omega)
    rw [hst]
    simp (maxSteps:=1000000) -implicitDefEqProofs only [mk_bs,bs_app,bs_size,List.length_append,List.length_cons,List.length_nil,List.cons_append,List.nil_append,List.append_assoc,go_sem,awp_seq,Nat.reduceBNe,Nat.reduceBEq,Nat.reduceAdd,Nat.reduceSub,Nat.reduceMul,Nat.reduceLeDiff,Nat.reduceLT,Nat.reduceEqDiff,Nat.reduceBneDiff,Int.reduceLE,Int.reduceLT,Int.reduceToNat,Int.reduceBEq,Int.reduceBNe,Int.reduceAdd,Int.reduceSub,Int.cast_ofNat_Int]
   ·have q:=used7 hc0.symm
    have eL:lineT ⟨7,nn,lo,hi,code⟩=[105,110,99,108,117,100,101] ++ [32] ++ Lib.itoa nn:=by simp [lineT,textT,Lib.join_cons,Lib.joinTail]
    rw [eL]at hst
    have Nn:=number33_c nn q i1.2
    have Ln:=Lib.itoa_length_le nn i1.1 i1.2
    generalize Lib.itoa nn=sn at *
    clear eL hc0
    rw [hst]at hle
    simp only [List.length_append,List.length_cons,List.length_nil]at hle
    simp (maxSteps:=1000000) -implicitDefEqProofs only [g1,e1,Int.toNat_natCast,Int.natCast_nonneg,go_sem,awp_seq,Nat.reduceBNe,Nat.reduceBEq,Nat.reduceAdd,Nat.reduceSub,Nat.reduceMul,Nat.reduceLeDiff,Nat.reduceLT,Nat.reduceEqDiff,Nat.reduceBneDiff,Int.reduceLE,Int.reduceLT,Int.reduceToNat,Int.reduceBEq,Int.reduceBNe,Int.reduceAdd,Int.reduceSub,Int.cast_ofNat_Int]
    refine callA_t uses7 ?_
    simp (maxSteps:=1000000) -implicitDefEqProofs only [go_sem,awp_seq,Nat.reduceBNe,Nat.reduceBEq,Nat.reduceAdd,Nat.reduceSub,Nat.reduceMul,Nat.reduceLeDiff,Nat.reduceLT,Nat.reduceEqDiff,Nat.reduceBneDiff,Int.reduceLE,Int.reduceLT,Int.reduceToNat,Int.reduceBEq,Int.reduceBNe,Int.reduceAdd,Int.reduceSub,Int.cast_ofNat_Int]
    refine callA_t word7 ?_
    simp (maxSteps:=1000000) -implicitDefEqProofs only [mk_bs,bs_app,bs_size,List.length_append,List.length_cons,List.length_nil,go_sem,awp_seq,Nat.reduceBNe,Nat.reduceBEq,Nat.reduceAdd,Nat.reduceSub,Nat.reduceMul,Nat.reduceLeDiff,Nat.reduceLT,Nat.reduceEqDiff,Nat.reduceBneDiff,Int.reduceLE,Int.reduceLT,Int.reduceToNat,Int.reduceBEq,Int.reduceBNe,Int.reduceAdd,Int.reduceSub,Int.cast_ofNat_Int]
    refine ⟨by omega,by omega,callA_mk (q:=[]) Nn ?_⟩
    simp (maxSteps:=1000000) -implicitDefEqProofs only [mk_bs,bs_app,bs_size,List.length_append,List.length_cons,List.length_nil,go_sem,awp_seq,Nat.reduceBNe,Nat.reduceBEq,Nat.reduceAdd,Nat.reduceSub,Nat.reduceMul,Nat.reduceLeDiff,Nat.reduceLT,Nat.reduceEqDiff,Nat.reduceBneDiff,Int.reduceLE,Int.reduceLT,Int.reduceToNat,Int.reduceBEq,Int.reduceBNe,Int.reduceAdd,Int.reduceSub,Int.cast_ofNat_Int]
    simp only [w1]
    refine ⟨by omega,by omega,?_⟩
    refine roundK_mk ⟨k+1,by omega⟩ ?_ (by show rs.length-(k+1)<rs.length-k;omega)
    rw [hst]
    simp (maxSteps:=1000000) -implicitDefEqProofs only [mk_bs,bs_app,bs_size,List.length_append,List.length_cons,List.length_nil,List.cons_append,List.nil_append,List.append_assoc,go_sem,awp_seq,Nat.reduceBNe,Nat.reduceBEq,Nat.reduceAdd,Nat.reduceSub,Nat.reduceMul,Nat.reduceLeDiff,Nat.reduceLT,Nat.reduceEqDiff,Nat.reduceBneDiff,Int.reduceLE,Int.reduceLT,Int.reduceToNat,Int.reduceBEq,Int.reduceBNe,Int.reduceAdd,Int.reduceSub,Int.cast_ofNat_Int]
   ·have q:=used8 hc0.symm
    have eL:lineT ⟨8,nn,lo,hi,code⟩=[101,120,99,108,117,100,101] ++ [32] ++ Lib.itoa nn:=by simp [lineT,textT,Lib.join_cons,Lib.joinTail]
    rw [eL]at hst
    have Nn:=number33_c nn q i1.2
    have Ln:=Lib.itoa_length_le nn i1.1 i1.2
    generalize Lib.itoa nn=sn at *
    clear eL hc0
    rw [hst]at hle
    simp only [List.length_append,List.length_cons,List.length_nil]at hle
    simp (maxSteps:=1000000) -implicitDefEqProofs only [g1,e1,Int.toNat_natCast,Int.natCast_nonneg,go_sem,awp_seq,Nat.reduceBNe,Nat.reduceBEq,Nat.reduceAdd,Nat.reduceSub,Nat.reduceMul,Nat.reduceLeDiff,Nat.reduceLT,Nat.reduceEqDiff,Nat.reduceBneDiff,Int.reduceLE,Int.reduceLT,Int.reduceToNat,Int.reduceBEq,Int.reduceBNe,Int.reduceAdd,Int.reduceSub,Int.cast_ofNat_Int]
    refine callA_t uses8 ?_
    simp (maxSteps:=1000000) -implicitDefEqProofs only [go_sem,awp_seq,Nat.reduceBNe,Nat.reduceBEq,Nat.reduceAdd,Nat.reduceSub,Nat.reduceMul,Nat.reduceLeDiff,Nat.reduceLT,Nat.reduceEqDiff,Nat.reduceBneDiff,Int.reduceLE,Int.reduceLT,Int.reduceToNat,Int.reduceBEq,Int.reduceBNe,Int.reduceAdd,Int.reduceSub,Int.cast_ofNat_Int]
    refine callA_t word8 ?_
    simp (maxSteps:=1000000) -implicitDefEqProofs only [mk_bs,bs_app,bs_size,List.length_append,List.length_cons,List.length_nil,go_sem,awp_seq,Nat.reduceBNe,Nat.reduceBEq,Nat.reduceAdd,Nat.reduceSub,Nat.reduceMul,Nat.reduceLeDiff,Nat.reduceLT,Nat.reduceEqDiff,Nat.reduceBneDiff,Int.reduceLE,Int.reduceLT,Int.reduceToNat,Int.reduceBEq,Int.reduceBNe,Int.reduceAdd,Int.reduceSub,Int.cast_ofNat_Int]
    refine ⟨by omega,by omega,callA_mk (q:=[]) Nn ?_⟩
    simp (maxSteps:=1000000) -implicitDefEqProofs only [mk_bs,bs_app,bs_size,List.length_append,List.length_cons,List.length_nil,go_sem,awp_seq,Nat.reduceBNe,Nat.reduceBEq,Nat.reduceAdd,Nat.reduceSub,Nat.reduceMul,Nat.reduceLeDiff,Nat.reduceLT,Nat.reduceEqDiff,Nat.reduceBneDiff,Int.reduceLE,Int.reduceLT,Int.reduceToNat,Int.reduceBEq,Int.reduceBNe,Int.reduceAdd,Int.reduceSub,Int.cast_ofNat_Int]
    simp only [w1]
    refine ⟨by omega,by omega,?_⟩
    refine roundK_mk ⟨k+1,by omega⟩ ?_ (by show rs.length-(k+1)<rs.length-k;omega)
    rw [hst]
    simp (maxSteps:=1000000) -implicitDefEqProofs only [mk_bs,bs_app,bs_size,List.length_append,List.length_cons,List.length_nil,List.cons_append,List.nil_append,List.append_assoc,go_sem,awp_seq,Nat.reduceBNe,Nat.reduceBEq,Nat.reduceAdd,Nat.reduceSub,Nat.reduceMul,Nat.reduceLeDiff,Nat.reduceLT,Nat.reduceEqDiff,Nat.reduceBneDiff,Int.reduceLE,Int.reduceLT,Int.reduceToNat,Int.reduceBEq,Int.reduceBNe,Int.reduceAdd,Int.reduceSub,Int.cast_ofNat_Int]
   ·skip
    have eL:lineT ⟨9,nn,lo,hi,code⟩=[102,97,109,105,108,105,101,115]:=by simp [lineT,textT,Lib.join_cons,Lib.joinTail]
    rw [eL]at hst
    clear eL hc0
    rw [hst]at hle
    simp only [List.length_append,List.length_cons,List.length_nil]at hle
    simp (maxSteps:=1000000) -implicitDefEqProofs only [g1,e1,Int.toNat_natCast,Int.natCast_nonneg,go_sem,awp_seq,Nat.reduceBNe,Nat.reduceBEq,Nat.reduceAdd,Nat.reduceSub,Nat.reduceMul,Nat.reduceLeDiff,Nat.reduceLT,Nat.reduceEqDiff,Nat.reduceBneDiff,Int.reduceLE,Int.reduceLT,Int.reduceToNat,Int.reduceBEq,Int.reduceBNe,Int.reduceAdd,Int.reduceSub,Int.cast_ofNat_Int]
    refine callA_t uses9 ?_
    simp (maxSteps:=1000000) -implicitDefEqProofs only [go_sem,awp_seq,Nat.reduceBNe,Nat.reduceBEq,Nat.reduceAdd,Nat.reduceSub,Nat.reduceMul,Nat.reduceLeDiff,Nat.reduceLT,Nat.reduceEqDiff,Nat.reduceBneDiff,Int.reduceLE,Int.reduceLT,Int.reduceToNat,Int.reduceBEq,Int.reduceBNe,Int.reduceAdd,Int.reduceSub,Int.cast_ofNat_Int]
    refine callA_t word9 ?_
    simp (maxSteps:=1000000) -implicitDefEqProofs only [mk_bs,bs_app,bs_size,List.length_append,List.length_cons,List.length_nil,go_sem,awp_seq,Nat.reduceBNe,Nat.reduceBEq,Nat.reduceAdd,Nat.reduceSub,Nat.reduceMul,Nat.reduceLeDiff,Nat.reduceLT,Nat.reduceEqDiff,Nat.reduceBneDiff,Int.reduceLE,Int.reduceLT,Int.reduceToNat,Int.reduceBEq,Int.reduceBNe,Int.reduceAdd,Int.reduceSub,Int.cast_ofNat_Int]
    simp (maxSteps:=1000000) -implicitDefEqProofs only [w1,mk_bs,bs_app,bs_size,List.length_append,List.length_cons,List.length_nil,go_sem,awp_seq,Nat.reduceBNe,Nat.reduceBEq,Nat.reduceAdd,Nat.reduceSub,Nat.reduceMul,Nat.reduceLeDiff,Nat.reduceLT,Nat.reduceEqDiff,Nat.reduceBneDiff,Int.reduceLE,Int.reduceLT,Int.reduceToNat,Int.reduceBEq,Int.reduceBNe,Int.reduceAdd,Int.reduceSub,Int.cast_ofNat_Int]
    refine ⟨by omega,by omega,?_⟩
    refine roundK_mk ⟨k+1,by omega⟩ ?_ (by show rs.length-(k+1)<rs.length-k;omega)
    rw [hst]
    simp (maxSteps:=1000000) -implicitDefEqProofs only [mk_bs,bs_app,bs_size,List.length_append,List.length_cons,List.length_nil,List.cons_append,List.nil_append,List.append_assoc,go_sem,awp_seq,Nat.reduceBNe,Nat.reduceBEq,Nat.reduceAdd,Nat.reduceSub,Nat.reduceMul,Nat.reduceLeDiff,Nat.reduceLT,Nat.reduceEqDiff,Nat.reduceBneDiff,Int.reduceLE,Int.reduceLT,Int.reduceToNat,Int.reduceBEq,Int.reduceBNe,Int.reduceAdd,Int.reduceSub,Int.cast_ofNat_Int]
  ·have g1:decide (((k:Nat):Int)<(rs.length:Nat))=false:=by simp;omega
   obtain rfl:k=rs.length:=by omega
   rw [hfin]
   simp (maxSteps:=1000000) -implicitDefEqProofs only [g1,go_sem,awp_seq,Nat.reduceBNe,Nat.reduceBEq,Nat.reduceAdd,Nat.reduceSub,Nat.reduceMul,Nat.reduceLeDiff,Nat.reduceLT,Nat.reduceEqDiff,Nat.reduceBneDiff,Int.reduceLE,Int.reduceLT,Int.reduceToNat,Int.reduceBEq,Int.reduceBNe,Int.reduceAdd,Int.reduceSub,Int.cast_ofNat_Int]
end Go.Proofs.YtcaahphghaddgaaGreatDoor
set_option linter.unusedSimpArgs false
set_option linter.unusedVariables false
namespace Go.Proofs.YtcaahphghaddgaaGreatDoor
open Go.RowKit Lim
noncomputable section
def isConstQ:Operand→Bool
 | .const _=>true
 | _=>false
def ifEqQ (ox oy:Operand) (a b:AV):Option Bool:=match a,b with
 | .lit .nilIface,.lit .nilIface=>bif isConstQ ox || isConstQ oy then some true else none
 | .ifc _ _,.lit .nilIface=>some false
 | .lit .nilIface,.ifc _ _=>some false
 | _,_=>none
def flipQ (op:BinOp) (r:Bool):Option Bool:=match op with
 | .eql=>some r
 | .neq=>some (!r)
 | _=>none
def litEq (k:TK) (a b:AV):Option Bool:=match k,a,b with
 | .int q,.lit (.int q1 x),.lit (.int q2 y)=>bif decide (q=q1) && decide (q=q2) then some (x == y) else none
 | .bool,.lit (.bool x),.lit (.bool y)=>some (x == y)
 | .str,.lit (.string x),.lit (.string y)=>some (x.data.toList == y.data.toList)
 | _,_,_=>none
def fieldsEq (T:TyTab) (xs ys:List AV):List (Nat × Nat × TypeId)→Option Bool
 | []=>some true
 | (o,_,t) :: l=>(T t).bind fun i=>(takeA i (xs.drop o)).bind fun a=>(takeA i (ys.drop o)).bind fun b=>(litEq i.kind a b).bind fun r=>match r with
  | true=>fieldsEq T xs ys l
  | false=>some false
def strEqQ (T:TyTab) (ty:TypeId) (a b:AV):Option Bool:=match T ty,a,b with
 | some ⟨.strct fs,_,_⟩,.agg xs,.agg ys=>fieldsEq T xs ys fs
 | _,_,_=>none
section
variable {P:Program} {T:TyTab} {w:World} {Z:Zone}
theorem eqIn_nil_held (d:Nat) (t u:TypeId) (x:Value) (h:P.underlying t=some (.interface (P.methodsAt t))):(Op.equalIn (d+1) t .nilIface (.iface u x)).run P w=.ok false w:=by
 simp [Op.equalIn,run_underlying h]
theorem eq_nil_held (t u:TypeId) (x:Value) (h:P.underlying t=some (.interface (P.methodsAt t))):(Op.equal t .nilIface (.iface u x)).run P w=.ok false w:=eqIn_nil_held 9999 t u x h
theorem eql_nil_held (t u:TypeId) (x:Value) (h:P.underlying t=some (.interface (P.methodsAt t))):(binOp .eql t .nilIface (.iface u x)).run P w=.ok (.bool false) w:=by
 simp only [binOp]
 simp [eq_nil_held t u x h]
theorem neq_nil_held (t u:TypeId) (x:Value) (h:P.underlying t=some (.interface (P.methodsAt t))):(binOp .neq t .nilIface (.iface u x)).run P w=.ok (.bool true) w:=by
 simp only [binOp]
 simp [eq_nil_held t u x h]
theorem ifEq_ok {ty:TypeId} (h:P.underlying ty=some (.interface (P.methodsAt ty))) {op:BinOp} {ox oy:Operand} {a b:AV} {r r':Bool} (h1:ifEqQ ox oy a b=some r) (h2:flipQ op r=some r'):EqV P op ty ox oy a b r':=by
 intro w Z va vb ha hb
 unfold ifEqQ at h1
 split at h1
 ·obtain ⟨h3,h4⟩:=kif h1
  cases h4
  rw [ha.lit_eq,hb.lit_eq]
  have hg:eqGuard op ty ox oy .nilIface .nilIface=pure ():=by
   cases ox <;> first|(simp only [eqGuard_nil_constL];done)|skip
   all_goals (cases oy <;> first|(simp only [eqGuard_nil_constR];done)|cases h3)
  rw [hg]
  cases op <;> first|cases h2|skip
  ·simp [run_eql_nil_nil w ty h]
  ·simp [run_neq_nil_nil w ty h]
 ·cases h1
  cases ha with
  | ifc hr =>
   rw [hb.lit_eq]
   have hg:∀t u,eqGuard op ty ox oy (.iface t u) .nilIface=pure ():=fun t u=>by simp only [eqGuard_at_iface]
   rw [hg]
   cases op <;> first|cases h2|skip
   ·simp [run_eql_held_nil w ty _ _ h]
   ·simp [run_neq_held_nil w ty _ _ h]
 ·cases h1
  cases hb with
  | ifc hr =>
   rw [ha.lit_eq,eqGuard_nil_iface]
   cases op <;> first|cases h2|skip
   ·simp [eql_nil_held _ _ _ h]
   ·simp [neq_nil_held _ _ _ h]
 ·cases h1
theorem litEq_ok {ty:TypeId} {i:TI} (h:TIOK P ty i) {a b:AV} {r:Bool} (h1:litEq i.kind a b=some r) {va vb:Value} (ha:Rep w Z a va) (hb:Rep w Z b vb) (d:Nat):(Op.equalIn (d+1) ty va vb).run P w=.ok r w:=by
 have hu:=h.und
 unfold litEq at h1
 split at h1
 ·rename_i hk
  rw [hk]at hu
  obtain ⟨h2,h3⟩:=kif h1
  obtain ⟨h4,h5⟩:=kand h2
  have h4:=of_decide_eq_true h4
  have h5:=of_decide_eq_true h5
  subst h4
  subst h5
  cases h3
  rw [ha.lit_eq,hb.lit_eq]
  exact run_equalIn_int w d ty _ _ _ _ hu
 ·rename_i hk
  rw [hk]at hu
  cases h1
  rw [ha.lit_eq,hb.lit_eq]
  exact run_equalIn_bool' w d ty _ _ hu
 ·rename_i hk
  rw [hk]at hu
  cases h1
  rw [ha.lit_eq,hb.lit_eq,←toList_ba,←toList_ba]
  exact run_equalIn_string w d ty _ _ hu
 ·cases h1
theorem fields_ok {C : Ctx} {xs ys : List AV} {vx vy : Array Value} (hx : Rep w Z (.agg xs) (.agg vx)) (hy : Rep w Z (.agg ys) (.agg vy)) (d : Nat) : ∀ (fs : List (Nat × Nat × TypeId)) (fds : List Field) {r : Bool}, fs.length = fds.length → (∀ (j : Nat) (o n : Nat) (t : TypeId), fs[j]? = some (o, n, t) → ∃ fd : Field, fds[j]? = some fd ∧ fd.offset = o ∧ fd.type = t) → (fds.all fun f => f.name != "_") = true → fieldsEq C.T xs ys fs = some r → (Op.eqFields (d + 1) vx vy fds).run C.P w = .ok r w
 | [],[],r,_,_,_,h=>by cases h;simp [Op.eqFields]
 | [],_ :: _,_,hl,_,_,_=>by simp at hl
 | _ :: _,[],_,hl,_,_,_=>by simp at hl
 | (o,n,t) :: fs,fd :: fds,r,hl,hf,hn,h=>by
  obtain ⟨fd',q1,q2,q3⟩:=hf 0 o n t rfl
  cases q1
  obtain ⟨i,h1,h⟩:=kbind h
  obtain ⟨a,h2,h⟩:=kbind h
  obtain ⟨b,h3,h⟩:=kbind h
  obtain ⟨rr,h4,h⟩:=kbind h
  simp only [List.all_cons,Bool.and_eq_true,bne_iff_ne]at hn
  have hi:=C.hT _ _ h1
  obtain ⟨u,g1,g2⟩:=takeA_part (C:=C) (w:=w) (Z:=Z) hi hx (o:=o) h2
  obtain ⟨v,g3,g4⟩:=takeA_part (C:=C) (w:=w) (Z:=Z) hi hy (o:=o) h3
  have g5:=litEq_ok hi h4 g2 g4 d
  unfold Op.eqFields
  rw [if_pos hn.1,q2,q3]
  simp only [Sem.run_bind,g1,Result.andThen_ok,g3,g5]
  cases rr with
  | false=>cases h;simp
  | true =>
   simp only [Bool.not_true,Bool.false_eq_true,if_false]
   exact fields_ok hx hy d fs fds (by simpa using hl) (fun j o n t hj=>hf (j+1) o n t hj) hn.2 h
def eqTyB (P:Program) (ty:TypeId):Bool:=(match P.underlying ty with
 | some (.struct fds) => fds.toList.all (fun f => f.name != "_")
 | _=>false) && (!P.stoodInHeld ty && !P.eqGuardType P.depth ty)
def ifTyB (P:Program) (ty:TypeId):Bool:=match P.underlying ty with
 | some (.interface _)=>true
 | _=>false
theorem strEq_ok {C:Ctx} {ty:TypeId} (h:eqTyB C.P ty=true) {op:BinOp} {ox oy:Operand} {a b:AV} {r r':Bool} (h1:strEqQ C.T ty a b=some r) (h2:flipQ op r=some r'):EqV C.P op ty ox oy a b r':=by
 intro w Z va vb ha hb
 unfold strEqQ at h1
 split at h1
 ·rename_i fs z b xs ys h3
  obtain ⟨vx,rfl,hx⟩:∃vs,va=.agg vs∧Rep w Z (.agg xs) (.agg vs):=by cases ha with|agg hl hr=>exact ⟨_,rfl,.agg hl hr⟩
  obtain ⟨vy,rfl,hy⟩:∃vs,vb=.agg vs∧Rep w Z (.agg ys) (.agg vs):=by cases hb with|agg hl hr=>exact ⟨_,rfl,.agg hl hr⟩
  obtain ⟨k1,k2⟩:=kand h
  obtain ⟨k2,k3⟩:=kand k2
  obtain ⟨fds,u1,u2,u3⟩:=(C.hT _ _ h3).und
  have hfo:C.P.fieldsOf ty=fds:=by unfold Program.fieldsOf;rw [u1]
  rw [u1]at k1
  have hf:=fields_ok hx hy 9998 fs fds.toList (by simp [u2]) (fun j o n t hj=>by
   obtain ⟨fd,g1,g2,g3,_⟩:=u3 j o n t hj
   exact ⟨fd,by simpa using g1,g2,g3⟩) k1 h1
  have he:(Op.equalIn 10000 ty (.agg vx) (.agg vy)).run C.P w=.ok r w:=by
   rw [run_equalIn_struct w 9999 ty vx vy (by rw [hfo];exact u1) (by simpa using k2),hfo]
   exact hf
  have hg:=run_eqGuard_agg (P:=C.P) w op ty ox oy vx vy (by simpa using k3)
  rw [Sem.run_bind,hg,Result.andThen_ok]
  cases op <;> first|cases h2|skip
  ·rw [run_eql_struct,he];rfl
  ·rw [run_neq_struct,he];rfl
 ·cases h1
end
def eqTab (T:TyTab) (ifs sts:List Nat) (op:BinOp) (ty:TypeId) (ox oy:Operand) (a b:AV):Option Bool :=
 bif memQ ty ifs then (ifEqQ ox oy a b).bind (flipQ op) else bif memQ ty sts then (strEqQ T ty a b).bind (flipQ op) else none
theorem memQ_all {p:Nat→Bool}:∀{l:List Nat} {x:Nat},l.all p=true→memQ x l=true→p x=true
 | [],_,_,h=>by cases h
 | y :: l,x,ha,h=>by
  simp only [List.all_cons,Bool.and_eq_true]at ha
  have h:(Nat.beq x y || memQ x l)=true:=h
  cases hb:Nat.beq x y with
  | true=>rw [kbeq hb];exact ha.1
  | false=>rw [hb,Bool.false_or]at h;exact memQ_all ha.2 h
theorem eqTab_ok {C:Ctx} {ifs sts:List Nat} (h1:ifs.all (ifTyB C.P)=true) (h2:sts.all (eqTyB C.P)=true) {op:BinOp} {ty:TypeId} {ox oy:Operand} {a b:AV} {r:Bool} (h:eqTab C.T ifs sts op ty ox oy a b=some r):EqV C.P op ty ox oy a b r:=by
 unfold eqTab at h
 cases hi:memQ ty ifs with
 | true =>
  rw [hi]at h
  obtain ⟨r0,h3,h4⟩:=kbind h
  have:=memQ_all h1 hi
  unfold ifTyB at this
  split at this
  ·rename_i ms hu
   have hm:C.P.methodsAt ty=ms:=by unfold Program.methodsAt;rw [hu]
   exact ifEq_ok (by rw [hm];exact hu) h3 h4
  ·cases this
 | false =>
  rw [hi]at h
  obtain ⟨h3,h⟩:=kif h
  obtain ⟨r0,h4,h5⟩:=kbind h
  exact strEq_ok (memQ_all h2 h3) h4 h5
end
end Go.Proofs.YtcaahphghaddgaaGreatDoor
namespace Go.Proofs.YtcaahphghaddgaaGreatDoor
open Go.RowKit Lim
def tabKT:KTree TI:=.node (.node (.node (.node (.node (.node (.node (.node .nil 1 ⟨.scal,[.lit .nilFunc],8⟩ .nil) 2 ⟨.int .i64,[.lit (.int .i64 0)],8⟩ (.node .nil 3 ⟨.int .i64,[.lit (.int .i64 0)],8⟩ .nil)) 4 ⟨.bool,[.lit (.bool false)],1⟩ (.node (.node .nil 5 ⟨.int .u8,[.lit (.int .u8 0)],1⟩ .nil) 6 ⟨.int .u8,[.lit (.int .u8 0)],1⟩ (.node .nil 7 ⟨.strct [(0,1,2),(1,1,3),(2,1,4),(3,1,6)],[.lit (.int .i64 0),.lit (.int .i64 0),.lit (.bool false),.lit (.int .u8 0)],24⟩ .nil))) 8 ⟨.strct [(0,1,2),(1,1,3),(2,1,4),(3,1,6)],[.lit (.int .i64 0),.lit (.int .i64 0),.lit (.bool false),.lit (.int .u8 0)],24⟩ (.node (.node (.node .nil 9 ⟨.str,[.lit (.string ⟨#[]⟩)],16⟩ .nil) 10 ⟨.str,[.lit (.string ⟨#[]⟩)],16⟩ (.node .nil 11 ⟨.str,[.lit (.string ⟨#[]⟩)],16⟩ .nil)) 12 ⟨.int .u64,[.lit (.int .u64 0)],8⟩ (.node (.node .nil 13 ⟨.strct [(0,1,9),(1,1,12)],[.lit (.string ⟨#[]⟩),.lit (.int .u64 0)],24⟩ .nil) 14 ⟨.strct [(0,1,9),(1,1,12)],[.lit (.string ⟨#[]⟩),.lit (.int .u64 0)],24⟩ (.node .nil 15 ⟨.scal,[.lit (.pointer none)],8⟩ .nil)))) 16 ⟨.scal,[.lit (.pointer none)],8⟩ (.node (.node (.node (.node .nil 17 ⟨.scal,[.lit (.pointer none)],8⟩ .nil) 18 ⟨.strct [(0,1,17)],[.lit (.pointer none)],8⟩ (.node .nil 19 ⟨.strct [(0,1,17)],[.lit (.pointer none)],8⟩ .nil)) 20 ⟨.scal,[.lit .nilIface],16⟩ (.node (.node .nil 21 ⟨.int .i32,[.lit (.int .i32 0)],4⟩ .nil) 22 ⟨.slc 78 5 false,[.lit (.slice none 0 0)],24⟩ (.node .nil 23 ⟨.strct [(0,1,3),(1,1,22)],[.lit (.int .i64 0),.lit (.slice none 0 0)],32⟩ .nil))) 24 ⟨.strct [(0,1,3),(1,1,22)],[.lit (.int .i64 0),.lit (.slice none 0 0)],32⟩ (.node (.node (.node .nil 25 ⟨.int .i64,[.lit (.int .i64 0)],8⟩ .nil) 27 ⟨.scal,[.lit .nilFunc],8⟩ (.node .nil 28 ⟨.scal,[.lit .nilFunc],8⟩ .nil)) 29 ⟨.scal,[.lit .nilFunc],8⟩ (.node (.node .nil 30 ⟨.scal,[.lit .nilFunc],8⟩ .nil) 31 ⟨.slc 58 9 false,[.lit (.slice none 0 0)],24⟩ .nil)))) 32 ⟨.scal,[.lit .nilFunc],8⟩ (.node (.node (.node (.node (.node .nil 33 ⟨.scal,[.lit .nilFunc],8⟩ .nil) 34 ⟨.slc 102 2 false,[.lit (.slice none 0 0)],24⟩ (.node .nil 35 ⟨.slc 3 1 false,[.lit (.slice none 0 0)],24⟩ .nil)) 36 ⟨.slc 88 3 false,[.lit (.slice none 0 0)],24⟩ (.node (.node .nil 37 ⟨.strct [(0,1,35),(1,1,36),(2,1,35)],[.lit (.slice none 0 0),.lit (.slice none 0 0),.lit (.slice none 0 0)],72⟩ .nil) 38 ⟨.strct [(0,1,35),(1,1,36),(2,1,35)],[.lit (.slice none 0 0),.lit (.slice none 0 0),.lit (.slice none 0 0)],72⟩ (.node .nil 40 ⟨.scal,[.lit .nilFunc],8⟩ .nil))) 41 ⟨.scal,[.lit .nilFunc],8⟩ (.node (.node (.node .nil 42 ⟨.scal,[.lit .nilFunc],8⟩ .nil) 44 ⟨.scal,[.lit .nilFunc],8⟩ (.node .nil 45 ⟨.scal,[.lit .nilFunc],8⟩ .nil)) 46 ⟨.scal,[.lit .nilFunc],8⟩ (.node (.node .nil 48 ⟨.scal,[.lit .nilFunc],8⟩ .nil) 49 ⟨.scal,[.lit .nilFunc],8⟩ (.node .nil 50 ⟨.scal,[.lit .nilFunc],8⟩ .nil)))) 51 ⟨.scal,[.lit .nilFunc],8⟩ (.node (.node (.node (.node .nil 52 ⟨.scal,[.lit .nilFunc],8⟩ .nil) 53 ⟨.int .u32,[.lit (.int .u32 0)],4⟩ (.node .nil 54 ⟨.slc 35 1 false,[.lit (.slice none 0 0)],24⟩ .nil)) 55 ⟨.strct [(0,1,54)],[.lit (.slice none 0 0)],24⟩ (.node (.node .nil 56 ⟨.strct [(0,1,54)],[.lit (.slice none 0 0)],24⟩ .nil) 57 ⟨.strct [(0,1,3),(1,1,9),(2,1,3),(3,1,3),(4,1,3),(5,1,3),(6,1,3),(7,1,3),(8,1,56)],[.lit (.int .i64 0),.lit (.string ⟨#[]⟩),.lit (.int .i64 0),.lit (.int .i64 0),.lit (.int .i64 0),.lit (.int .i64 0),.lit (.int .i64 0),.lit (.int .i64 0),.lit (.slice none 0 0)],96⟩ (.node .nil 58 ⟨.strct [(0,1,3),(1,1,9),(2,1,3),(3,1,3),(4,1,3),(5,1,3),(6,1,3),(7,1,3),(8,1,56)],[.lit (.int .i64 0),.lit (.string ⟨#[]⟩),.lit (.int .i64 0),.lit (.int .i64 0),.lit (.int .i64 0),.lit (.int .i64 0),.lit (.int .i64 0),.lit (.int .i64 0),.lit (.slice none 0 0)],96⟩ .nil))) 59 ⟨.scal,[.lit .nilFunc],8⟩ (.node (.node (.node .nil 60 ⟨.int .u64,[.lit (.int .u64 0)],8⟩ .nil) 61 ⟨.scal,[.lit .nilFunc],8⟩ (.node .nil 62 ⟨.scal,[.lit (.pointer none)],8⟩ .nil)) 63 ⟨.slc 5 1 false,[.lit (.slice none 0 0)],24⟩ (.node (.node .nil 64 ⟨.strct [(0,1,62),(1,1,63)],[.lit (.pointer none),.lit (.slice none 0 0)],32⟩ .nil) 65 ⟨.strct [(0,1,62),(1,1,63)],[.lit (.pointer none),.lit (.slice none 0 0)],32⟩ .nil))))) 66 ⟨.scal,[.lit .nilIface],16⟩ (.node (.node (.node (.node (.node (.node .nil 67 ⟨.scal,[.lit .nilIface],16⟩ .nil) 69 ⟨.scal,[.lit .nilFunc],8⟩ (.node .nil 70 ⟨.scal,[.lit .nilFunc],8⟩ .nil)) 71 ⟨.slc 74 1 false,[.lit (.slice none 0 0)],24⟩ (.node (.node .nil 72 ⟨.scal,[.lit .nilFunc],8⟩ .nil) 73 ⟨.scal,[.lit .nilIface],16⟩ (.node .nil 74 ⟨.scal,[.lit .nilIface],16⟩ .nil))) 75 ⟨.scal,[.lit .nilFunc],8⟩ (.node (.node (.node .nil 76 ⟨.scal,[.lit .nilFunc],8⟩ .nil) 77 ⟨.strct [(0,1,3),(1,1,3),(2,1,3),(3,1,3),(4,1,9)],[.lit (.int .i64 0),.lit (.int .i64 0),.lit (.int .i64 0),.lit (.int .i64 0),.lit (.string ⟨#[]⟩)],48⟩ (.node .nil 78 ⟨.strct [(0,1,3),(1,1,3),(2,1,3),(3,1,3),(4,1,9)],[.lit (.int .i64 0),.lit (.int .i64 0),.lit (.int .i64 0),.lit (.int .i64 0),.lit (.string ⟨#[]⟩)],48⟩ .nil)) 80 ⟨.scal,[.lit .nilFunc],8⟩ (.node (.node .nil 82 ⟨.scal,[.lit .nilFunc],8⟩ .nil) 83 ⟨.scal,[.lit .nilFunc],8⟩ (.node .nil 84 ⟨.scal,[.lit .nilFunc],8⟩ .nil)))) 85 ⟨.scal,[.lit .nilFunc],8⟩ (.node (.node (.node (.node .nil 86 ⟨.scal,[.lit .nilFunc],8⟩ .nil) 87 ⟨.strct [(0,1,35),(1,1,3),(2,1,3)],[.lit (.slice none 0 0),.lit (.int .i64 0),.lit (.int .i64 0)],40⟩ (.node .nil 88 ⟨.strct [(0,1,35),(1,1,3),(2,1,3)],[.lit (.slice none 0 0),.lit (.int .i64 0),.lit (.int .i64 0)],40⟩ .nil)) 89 ⟨.scal,[.lit .nilFunc],8⟩ (.node (.node .nil 90 ⟨.scal,[.lit .nilFunc],8⟩ .nil) 91 ⟨.scal,[.lit .nilFunc],8⟩ (.node .nil 92 ⟨.strct [(0,2,24),(2,1,31),(3,1,3),(4,1,3)],[.lit (.int .i64 0),.lit (.slice none 0 0),.lit (.slice none 0 0),.lit (.int .i64 0),.lit (.int .i64 0)],72⟩ .nil))) 93 ⟨.strct [(0,2,24),(2,1,31),(3,1,3),(4,1,3)],[.lit (.int .i64 0),.lit (.slice none 0 0),.lit (.slice none 0 0),.lit (.int .i64 0),.lit (.int .i64 0)],72⟩ (.node (.node (.node .nil 94 ⟨.scal,[.lit .nilFunc],8⟩ .nil) 95 ⟨.scal,[.lit .nilFunc],8⟩ (.node .nil 96 ⟨.scal,[.lit .nilFunc],8⟩ .nil)) 97 ⟨.scal,[.lit .nilFunc],8⟩ (.node (.node .nil 98 ⟨.scal,[.lit .nilFunc],8⟩ .nil) 99 ⟨.scal,[.lit .nilFunc],8⟩ .nil)))) 100 ⟨.scal,[.lit .nilFunc],8⟩ (.node (.node (.node (.node (.node .nil 101 ⟨.strct [(0,1,3),(1,1,3)],[.lit (.int .i64 0),.lit (.int .i64 0)],16⟩ .nil) 102 ⟨.strct [(0,1,3),(1,1,3)],[.lit (.int .i64 0),.lit (.int .i64 0)],16⟩ (.node .nil 104 ⟨.scal,[.lit .nilFunc],8⟩ .nil)) 106 ⟨.scal,[.lit .nilFunc],8⟩ (.node (.node .nil 108 ⟨.scal,[.lit .nilFunc],8⟩ .nil) 110 ⟨.scal,[.lit .nilFunc],8⟩ (.node .nil 111 ⟨.scal,[.lit .nilFunc],8⟩ .nil))) 112 ⟨.scal,[.lit .nilFunc],8⟩ (.node (.node (.node .nil 113 ⟨.scal,[.lit .nilFunc],8⟩ .nil) 114 ⟨.scal,[.lit .nilFunc],8⟩ (.node .nil 115 ⟨.scal,[.lit .nilFunc],8⟩ .nil)) 116 ⟨.slc 9 1 false,[.lit (.slice none 0 0)],24⟩ (.node (.node .nil 117 ⟨.scal,[.lit .nilFunc],8⟩ .nil) 118 ⟨.scal,[.lit (.pointer none)],8⟩ .nil))) 119 ⟨.scal,[.lit .nilFunc],8⟩ (.node (.node (.node (.node .nil 120 ⟨.slc 53 1 true,[.lit (.slice none 0 0)],24⟩ .nil) 121 ⟨.slc 53 1 true,[.lit (.slice none 0 0)],24⟩ (.node .nil 122 ⟨.scal,[.lit .nilFunc],8⟩ .nil)) 123 ⟨.int .u64,[.lit (.int .u64 0)],8⟩ (.node (.node .nil 124 ⟨.strct [(0,1,3),(1,1,3)],[.lit (.int .i64 0),.lit (.int .i64 0)],16⟩ .nil) 125 ⟨.strct [(0,1,3),(1,1,3)],[.lit (.int .i64 0),.lit (.int .i64 0)],16⟩ (.node .nil 126 ⟨.scal,[.lit .nilFunc],8⟩ .nil))) 127 ⟨.scal,[.lit .nilFunc],8⟩ (.node (.node (.node .nil 128 ⟨.strct [(0,2,125),(2,1,127)],[.lit (.int .i64 0),.lit (.int .i64 0),.lit .nilFunc],24⟩ .nil) 129 ⟨.strct [(0,2,125),(2,1,127)],[.lit (.int .i64 0),.lit (.int .i64 0),.lit .nilFunc],24⟩ (.node .nil 130 ⟨.strct [(0,3,129),(3,1,9)],[.lit (.int .i64 0),.lit (.int .i64 0),.lit .nilFunc,.lit (.string ⟨#[]⟩)],40⟩ .nil)) 131 ⟨.strct [(0,3,129),(3,1,9)],[.lit (.int .i64 0),.lit (.int .i64 0),.lit .nilFunc,.lit (.string ⟨#[]⟩)],40⟩ (.node (.node .nil 132 ⟨.strct [(0,3,129)],[.lit (.int .i64 0),.lit (.int .i64 0),.lit .nilFunc],24⟩ .nil) 133 ⟨.strct [(0,3,129)],[.lit (.int .i64 0),.lit (.int .i64 0),.lit .nilFunc],24⟩ .nil)))))) 134 ⟨.strct [(0,3,129)],[.lit (.int .i64 0),.lit (.int .i64 0),.lit .nilFunc],24⟩ (.node (.node (.node (.node (.node (.node (.node .nil 135 ⟨.strct [(0,3,129)],[.lit (.int .i64 0),.lit (.int .i64 0),.lit .nilFunc],24⟩ .nil) 136 ⟨.strct [(0,3,129),(3,1,3)],[.lit (.int .i64 0),.lit (.int .i64 0),.lit .nilFunc,.lit (.int .i64 0)],32⟩ (.node .nil 137 ⟨.strct [(0,3,129),(3,1,3)],[.lit (.int .i64 0),.lit (.int .i64 0),.lit .nilFunc,.lit (.int .i64 0)],32⟩ .nil)) 138 ⟨.strct [(0,2,125),(2,1,3)],[.lit (.int .i64 0),.lit (.int .i64 0),.lit (.int .i64 0)],24⟩ (.node (.node .nil 139 ⟨.strct [(0,2,125),(2,1,3)],[.lit (.int .i64 0),.lit (.int .i64 0),.lit (.int .i64 0)],24⟩ .nil) 140 ⟨.strct [(0,1,3)],[.lit (.int .i64 0)],8⟩ (.node .nil 141 ⟨.strct [(0,1,3)],[.lit (.int .i64 0)],8⟩ .nil))) 142 ⟨.strct [(0,1,3)],[.lit (.int .i64 0)],8⟩ (.node (.node (.node .nil 143 ⟨.strct [],[],0⟩ .nil) 144 ⟨.strct [],[],0⟩ (.node .nil 145 ⟨.scal,[.lit .nilFunc],8⟩ .nil)) 146 ⟨.scal,[.lit .nilFunc],8⟩ (.node (.node .nil 147 ⟨.scal,[.lit .nilFunc],8⟩ .nil) 148 ⟨.scal,[.lit .nilFunc],8⟩ (.node .nil 149 ⟨.scal,[.lit .nilFunc],8⟩ .nil)))) 150 ⟨.scal,[.lit .nilFunc],8⟩ (.node (.node (.node (.node .nil 151 ⟨.scal,[.lit .nilFunc],8⟩ .nil) 152 ⟨.scal,[.lit .nilFunc],8⟩ (.node .nil 153 ⟨.scal,[.lit .nilFunc],8⟩ .nil)) 154 ⟨.scal,[.lit .nilFunc],8⟩ (.node (.node .nil 155 ⟨.scal,[.lit .nilFunc],8⟩ .nil) 156 ⟨.scal,[.lit .nilFunc],8⟩ (.node .nil 158 ⟨.scal,[.lit .nilFunc],8⟩ .nil))) 159 ⟨.scal,[.lit .nilFunc],8⟩ (.node (.node (.node .nil 160 ⟨.scal,[.lit .nilFunc],8⟩ .nil) 161 ⟨.scal,[.lit .nilFunc],8⟩ (.node .nil 162 ⟨.scal,[.lit .nilFunc],8⟩ .nil)) 164 ⟨.scal,[.lit .nilFunc],8⟩ (.node (.node .nil 165 ⟨.scal,[.lit .nilFunc],8⟩ .nil) 166 ⟨.scal,[.lit .nilFunc],8⟩ .nil)))) 168 ⟨.scal,[.lit .nilFunc],8⟩ (.node (.node (.node (.node (.node .nil 169 ⟨.arr 5 9 1,[.lit (.string ⟨#[]⟩),.lit (.string ⟨#[]⟩),.lit (.string ⟨#[]⟩),.lit (.string ⟨#[]⟩),.lit (.string ⟨#[]⟩)],80⟩ .nil) 171 ⟨.scal,[.lit .nilFunc],8⟩ (.node .nil 172 ⟨.scal,[.lit .nilFunc],8⟩ .nil)) 173 ⟨.map 3 4,[.lit (.map none)],8⟩ (.node (.node .nil 174 ⟨.scal,[.lit .nilFunc],8⟩ .nil) 175 ⟨.scal,[.lit .nilFunc],8⟩ (.node .nil 176 ⟨.scal,[.lit .nilFunc],8⟩ .nil))) 177 ⟨.scal,[.lit .nilFunc],8⟩ (.node (.node (.node .nil 178 ⟨.scal,[.lit .nilFunc],8⟩ .nil) 179 ⟨.scal,[.lit .nilFunc],8⟩ (.node .nil 181 ⟨.scal,[.lit .nilFunc],8⟩ .nil)) 182 ⟨.scal,[.lit .nilFunc],8⟩ (.node (.node .nil 183 ⟨.scal,[.lit .nilFunc],8⟩ .nil) 184 ⟨.scal,[.lit .nilFunc],8⟩ (.node .nil 185 ⟨.scal,[.lit .nilFunc],8⟩ .nil)))) 186 ⟨.scal,[.lit .nilFunc],8⟩ (.node (.node (.node (.node .nil 187 ⟨.scal,[.lit .nilFunc],8⟩ .nil) 188 ⟨.scal,[.lit .nilFunc],8⟩ (.node .nil 189 ⟨.scal,[.lit .nilFunc],8⟩ .nil)) 190 ⟨.scal,[.lit .nilFunc],8⟩ (.node (.node .nil 191 ⟨.scal,[.lit .nilFunc],8⟩ .nil) 192 ⟨.scal,[.lit .nilFunc],8⟩ (.node .nil 193 ⟨.arr 24 5 1,[.lit (.int .u8 0),.lit (.int .u8 0),.lit (.int .u8 0),.lit (.int .u8 0),.lit (.int .u8 0),.lit (.int .u8 0),.lit (.int .u8 0),.lit (.int .u8 0),.lit (.int .u8 0),.lit (.int .u8 0),.lit (.int .u8 0),.lit (.int .u8 0),.lit (.int .u8 0),.lit (.int .u8 0),.lit (.int .u8 0),.lit (.int .u8 0),.lit (.int .u8 0),.lit (.int .u8 0),.lit (.int .u8 0),.lit (.int .u8 0),.lit (.int .u8 0),.lit (.int .u8 0),.lit (.int .u8 0),.lit (.int .u8 0)],24⟩ .nil))) 194 ⟨.scal,[.lit .nilFunc],8⟩ (.node (.node (.node .nil 195 ⟨.scal,[.lit .nilFunc],8⟩ .nil) 197 ⟨.scal,[.lit .nilFunc],8⟩ (.node .nil 198 ⟨.scal,[.lit .nilFunc],8⟩ .nil)) 199 ⟨.scal,[.lit .nilFunc],8⟩ (.node (.node .nil 200 ⟨.scal,[.lit .nilFunc],8⟩ .nil) 202 ⟨.scal,[.lit .nilFunc],8⟩ .nil))))) 203 ⟨.scal,[.lit .nilFunc],8⟩ (.node (.node (.node (.node (.node (.node .nil 205 ⟨.scal,[.lit .nilFunc],8⟩ .nil) 206 ⟨.int .i64,[.lit (.int .i64 0)],8⟩ (.node .nil 208 ⟨.scal,[.lit .nilFunc],8⟩ .nil)) 209 ⟨.scal,[.lit (.pointer none)],8⟩ (.node (.node .nil 210 ⟨.scal,[.lit .nilFunc],8⟩ .nil) 211 ⟨.scal,[.lit .nilFunc],8⟩ (.node .nil 212 ⟨.arr 20 123 1,[.lit (.int .u64 0),.lit (.int .u64 0),.lit (.int .u64 0),.lit (.int .u64 0),.lit (.int .u64 0),.lit (.int .u64 0),.lit (.int .u64 0),.lit (.int .u64 0),.lit (.int .u64 0),.lit (.int .u64 0),.lit (.int .u64 0),.lit (.int .u64 0),.lit (.int .u64 0),.lit (.int .u64 0),.lit (.int .u64 0),.lit (.int .u64 0),.lit (.int .u64 0),.lit (.int .u64 0),.lit (.int .u64 0),.lit (.int .u64 0)],160⟩ .nil))) 214 ⟨.scal,[.lit .nilFunc],8⟩ (.node (.node (.node .nil 215 ⟨.int .i64,[.lit (.int .i64 0)],8⟩ .nil) 217 ⟨.scal,[.lit .nilFunc],8⟩ (.node .nil 218 ⟨.scal,[.lit .nilFunc],8⟩ .nil)) 219 ⟨.scal,[.lit .nilFunc],8⟩ (.node (.node .nil 221 ⟨.scal,[.lit .nilFunc],8⟩ .nil) 222 ⟨.scal,[.lit .nilFunc],8⟩ (.node .nil 224 ⟨.scal,[.lit .nilFunc],8⟩ .nil)))) 225 ⟨.scal,[.lit .nilFunc],8⟩ (.node (.node (.node (.node .nil 226 ⟨.strct [(0,1,9),(1,1,9),(2,1,67)],[.lit (.string ⟨#[]⟩),.lit (.string ⟨#[]⟩),.lit .nilIface],48⟩ .nil) 227 ⟨.strct [(0,1,9),(1,1,9),(2,1,67)],[.lit (.string ⟨#[]⟩),.lit (.string ⟨#[]⟩),.lit .nilIface],48⟩ (.node .nil 228 ⟨.scal,[.lit .nilFunc],8⟩ .nil)) 229 ⟨.int .u64,[.lit (.int .u64 0)],8⟩ (.node (.node .nil 230 ⟨.scal,[.lit .nilFunc],8⟩ .nil) 231 ⟨.scal,[.lit .nilFunc],8⟩ (.node .nil 232 ⟨.scal,[.lit .nilFunc],8⟩ .nil))) 233 ⟨.scal,[.lit (.pointer none)],8⟩ (.node (.node (.node .nil 234 ⟨.scal,[.lit .nilFunc],8⟩ .nil) 236 ⟨.strct [(0,1,5),(1,1,5)],[.lit (.int .u8 0),.lit (.int .u8 0)],2⟩ (.node .nil 237 ⟨.strct [(0,1,5),(1,1,5)],[.lit (.int .u8 0),.lit (.int .u8 0)],2⟩ .nil)) 238 ⟨.arr 16 237 2,[.lit (.int .u8 0),.lit (.int .u8 0),.lit (.int .u8 0),.lit (.int .u8 0),.lit (.int .u8 0),.lit (.int .u8 0),.lit (.int .u8 0),.lit (.int .u8 0),.lit (.int .u8 0),.lit (.int .u8 0),.lit (.int .u8 0),.lit (.int .u8 0),.lit (.int .u8 0),.lit (.int .u8 0),.lit (.int .u8 0),.lit (.int .u8 0),.lit (.int .u8 0),.lit (.int .u8 0),.lit (.int .u8 0),.lit (.int .u8 0),.lit (.int .u8 0),.lit (.int .u8 0),.lit (.int .u8 0),.lit (.int .u8 0),.lit (.int .u8 0),.lit (.int .u8 0),.lit (.int .u8 0),.lit (.int .u8 0),.lit (.int .u8 0),.lit (.int .u8 0),.lit (.int .u8 0),.lit (.int .u8 0)],32⟩ (.node (.node .nil 239 ⟨.scal,[.lit .nilFunc],8⟩ .nil) 240 ⟨.scal,[.lit (.pointer none)],8⟩ .nil)))) 241 ⟨.strct [(0,1,9)],[.lit (.string ⟨#[]⟩)],16⟩ (.node (.node (.node (.node (.node .nil 242 ⟨.strct [(0,1,9)],[.lit (.string ⟨#[]⟩)],16⟩ .nil) 243 ⟨.arr 32 5 1,[.lit (.int .u8 0),.lit (.int .u8 0),.lit (.int .u8 0),.lit (.int .u8 0),.lit (.int .u8 0),.lit (.int .u8 0),.lit (.int .u8 0),.lit (.int .u8 0),.lit (.int .u8 0),.lit (.int .u8 0),.lit (.int .u8 0),.lit (.int .u8 0),.lit (.int .u8 0),.lit (.int .u8 0),.lit (.int .u8 0),.lit (.int .u8 0),.lit (.int .u8 0),.lit (.int .u8 0),.lit (.int .u8 0),.lit (.int .u8 0),.lit (.int .u8 0),.lit (.int .u8 0),.lit (.int .u8 0),.lit (.int .u8 0),.lit (.int .u8 0),.lit (.int .u8 0),.lit (.int .u8 0),.lit (.int .u8 0),.lit (.int .u8 0),.lit (.int .u8 0),.lit (.int .u8 0),.lit (.int .u8 0)],32⟩ (.node .nil 244 ⟨.arr 64 5 1,[.lit (.int .u8 0),.lit (.int .u8 0),.lit (.int .u8 0),.lit (.int .u8 0),.lit (.int .u8 0),.lit (.int .u8 0),.lit (.int .u8 0),.lit (.int .u8 0),.lit (.int .u8 0),.lit (.int .u8 0),.lit (.int .u8 0),.lit (.int .u8 0),.lit (.int .u8 0),.lit (.int .u8 0),.lit (.int .u8 0),.lit (.int .u8 0),.lit (.int .u8 0),.lit (.int .u8 0),.lit (.int .u8 0),.lit (.int .u8 0),.lit (.int .u8 0),.lit (.int .u8 0),.lit (.int .u8 0),.lit (.int .u8 0),.lit (.int .u8 0),.lit (.int .u8 0),.lit (.int .u8 0),.lit (.int .u8 0),.lit (.int .u8 0),.lit (.int .u8 0),.lit (.int .u8 0),.lit (.int .u8 0),.lit (.int .u8 0),.lit (.int .u8 0),.lit (.int .u8 0),.lit (.int .u8 0),.lit (.int .u8 0),.lit (.int .u8 0),.lit (.int .u8 0),.lit (.int .u8 0),.lit (.int .u8 0),.lit (.int .u8 0),.lit (.int .u8 0),.lit (.int .u8 0),.lit (.int .u8 0),.lit (.int .u8 0),.lit (.int .u8 0),.lit (.int .u8 0),.lit (.int .u8 0),.lit (.int .u8 0),.lit (.int .u8 0),.lit (.int .u8 0),.lit (.int .u8 0),.lit (.int .u8 0),.lit (.int .u8 0),.lit (.int .u8 0),.lit (.int .u8 0),.lit (.int .u8 0),.lit (.int .u8 0),.lit (.int .u8 0),.lit (.int .u8 0),.lit (.int .u8 0),.lit (.int .u8 0),.lit (.int .u8 0)],64⟩ .nil)) 245 ⟨.scal,[.lit (.pointer none)],8⟩ (.node (.node .nil 246 ⟨.scal,[.lit .nilFunc],8⟩ .nil) 247 ⟨.strct [(0,1,17),(1,1,17),(2,1,17),(3,1,9)],[.lit (.pointer none),.lit (.pointer none),.lit (.pointer none),.lit (.string ⟨#[]⟩)],40⟩ (.node .nil 248 ⟨.strct [(0,1,17),(1,1,17),(2,1,17),(3,1,9)],[.lit (.pointer none),.lit (.pointer none),.lit (.pointer none),.lit (.string ⟨#[]⟩)],40⟩ .nil))) 249 ⟨.arr 0 16 1,[],0⟩ (.node (.node (.node .nil 252 ⟨.scal,[.lit .nilFunc],8⟩ .nil) 253 ⟨.int .u8,[.lit (.int .u8 0)],1⟩ (.node .nil 254 ⟨.int .u8,[.lit (.int .u8 0)],1⟩ .nil)) 255 ⟨.scal,[.lit .nilFunc],8⟩ (.node (.node .nil 256 ⟨.int .i32,[.lit (.int .i32 0)],4⟩ .nil) 257 ⟨.int .i32,[.lit (.int .i32 0)],4⟩ .nil))) 258 ⟨.strct [(0,1,12),(1,1,12),(2,1,53),(3,1,253),(4,1,5),(5,1,5),(6,1,254),(7,1,255),(8,1,118),(9,1,256),(10,1,257)],[.lit (.int .u64 0),.lit (.int .u64 0),.lit (.int .u32 0),.lit (.int .u8 0),.lit (.int .u8 0),.lit (.int .u8 0),.lit (.int .u8 0),.lit .nilFunc,.lit (.pointer none),.lit (.int .i32 0),.lit (.int .i32 0)],48⟩ (.node (.node (.node (.node .nil 259 ⟨.strct [(0,1,12),(1,1,12),(2,1,53),(3,1,253),(4,1,5),(5,1,5),(6,1,254),(7,1,255),(8,1,118),(9,1,256),(10,1,257)],[.lit (.int .u64 0),.lit (.int .u64 0),.lit (.int .u32 0),.lit (.int .u8 0),.lit (.int .u8 0),.lit (.int .u8 0),.lit (.int .u8 0),.lit .nilFunc,.lit (.pointer none),.lit (.int .i32 0),.lit (.int .i32 0)],48⟩ .nil) 260 ⟨.scal,[.lit .nilFunc],8⟩ (.node .nil 261 ⟨.scal,[.lit .nilFunc],8⟩ .nil)) 262 ⟨.map 3 3,[.lit (.map none)],8⟩ (.node (.node .nil 263 ⟨.scal,[.lit .nilFunc],8⟩ .nil) 264 ⟨.scal,[.lit .nilFunc],8⟩ (.node .nil 265 ⟨.scal,[.lit .nilFunc],8⟩ .nil))) 266 ⟨.scal,[.lit .nilFunc],8⟩ (.node (.node (.node .nil 267 ⟨.scal,[.lit .nilFunc],8⟩ .nil) 268 ⟨.scal,[.lit .nilFunc],8⟩ (.node .nil 269 ⟨.scal,[.lit .nilFunc],8⟩ .nil)) 270 ⟨.scal,[.lit .nilFunc],8⟩ (.node (.node .nil 271 ⟨.scal,[.lit .nilFunc],8⟩ .nil) 272 ⟨.scal,[.lit .nilFunc],8⟩ .nil))))))
theorem tabKT_ok:tabKT.all (tiB Tryz.prog)=true:=by kernel_rfl
def howKT:KTree KHow:=.node (.node (.node (.node (.node (.node (.node (.node .nil 2 ⟨0,[]⟩ .nil) 3 ⟨7,[]⟩ (.node .nil 4 ⟨5,[]⟩ .nil)) 5 ⟨13,[]⟩ (.node (.node .nil 6 ⟨52,[]⟩ .nil) 7 ⟨62,[1]⟩ (.node .nil 8 ⟨17,[]⟩ .nil))) 9 ⟨106,[]⟩ (.node (.node (.node .nil 10 ⟨24,[]⟩ .nil) 11 ⟨63,[]⟩ (.node .nil 12 ⟨38,[]⟩ .nil)) 13 ⟨25,[]⟩ (.node (.node .nil 14 ⟨101,[]⟩ .nil) 15 ⟨51,[]⟩ .nil))) 16 ⟨51,[]⟩ (.node (.node (.node (.node .nil 17 ⟨122,[18]⟩ .nil) 18 ⟨183,[14]⟩ (.node .nil 19 ⟨79,[]⟩ .nil)) 20 ⟨68,[]⟩ (.node (.node .nil 21 ⟨37,[6]⟩ .nil) 22 ⟨29,[]⟩ (.node .nil 23 ⟨59,[]⟩ .nil))) 24 ⟨62,[]⟩ (.node (.node (.node .nil 25 ⟨65,[]⟩ .nil) 26 ⟨56,[]⟩ (.node .nil 27 ⟨29,[]⟩ .nil)) 28 ⟨56,[]⟩ (.node (.node .nil 29 ⟨25,[]⟩ .nil) 30 ⟨16,[]⟩ .nil)))) 31 ⟨6,[]⟩ (.node (.node (.node (.node (.node .nil 32 ⟨14,[]⟩ .nil) 33 ⟨25,[]⟩ (.node .nil 34 ⟨3,[]⟩ .nil)) 35 ⟨3,[]⟩ (.node (.node .nil 36 ⟨18,[]⟩ .nil) 37 ⟨19,[]⟩ (.node .nil 38 ⟨129,[]⟩ .nil))) 39 ⟨7,[]⟩ (.node (.node (.node .nil 40 ⟨97,[]⟩ .nil) 41 ⟨3,[]⟩ (.node .nil 42 ⟨3,[]⟩ .nil)) 43 ⟨10,[]⟩ (.node (.node .nil 44 ⟨43,[]⟩ .nil) 45 ⟨33,[]⟩ .nil))) 46 ⟨4,[]⟩ (.node (.node (.node (.node .nil 47 ⟨72,[]⟩ .nil) 48 ⟨7,[]⟩ (.node .nil 49 ⟨33,[]⟩ .nil)) 50 ⟨19,[]⟩ (.node (.node .nil 51 ⟨11,[]⟩ .nil) 52 ⟨53,[]⟩ (.node .nil 53 ⟨33,[]⟩ .nil))) 54 ⟨10,[]⟩ (.node (.node (.node .nil 55 ⟨7,[]⟩ .nil) 56 ⟨26,[]⟩ (.node .nil 57 ⟨89,[]⟩ .nil)) 58 ⟨38,[]⟩ (.node (.node .nil 59 ⟨4,[]⟩ .nil) 60 ⟨37,[]⟩ .nil))))) 61 ⟨39,[]⟩ (.node (.node (.node (.node (.node (.node .nil 62 ⟨24,[]⟩ .nil) 63 ⟨4,[]⟩ (.node .nil 64 ⟨19,[]⟩ .nil)) 66 ⟨3,[]⟩ (.node (.node .nil 67 ⟨67,[]⟩ .nil) 68 ⟨39,[]⟩ (.node .nil 69 ⟨3,[]⟩ .nil))) 70 ⟨4,[]⟩ (.node (.node (.node .nil 71 ⟨5,[]⟩ .nil) 72 ⟨3,[]⟩ (.node .nil 73 ⟨3,[]⟩ .nil)) 74 ⟨3,[]⟩ (.node (.node .nil 75 ⟨4,[]⟩ .nil) 76 ⟨43,[]⟩ .nil))) 77 ⟨29,[]⟩ (.node (.node (.node (.node .nil 78 ⟨64,[]⟩ .nil) 79 ⟨46,[]⟩ (.node .nil 80 ⟨3,[]⟩ .nil)) 81 ⟨20,[]⟩ (.node (.node .nil 82 ⟨38,[]⟩ .nil) 83 ⟨4,[]⟩ (.node .nil 84 ⟨5,[]⟩ .nil))) 85 ⟨5,[]⟩ (.node (.node (.node .nil 86 ⟨26,[]⟩ .nil) 87 ⟨16,[]⟩ (.node .nil 88 ⟨23,[]⟩ .nil)) 89 ⟨70,[]⟩ (.node (.node .nil 90 ⟨10,[]⟩ .nil) 91 ⟨18,[]⟩ .nil)))) 92 ⟨13,[]⟩ (.node (.node (.node (.node (.node .nil 93 ⟨5,[]⟩ .nil) 94 ⟨38,[]⟩ (.node .nil 95 ⟨22,[]⟩ .nil)) 96 ⟨17,[]⟩ (.node (.node .nil 97 ⟨4,[]⟩ .nil) 98 ⟨20,[]⟩ (.node .nil 99 ⟨50,[]⟩ .nil))) 101 ⟨3,[]⟩ (.node (.node (.node .nil 102 ⟨22,[]⟩ .nil) 103 ⟨17,[]⟩ (.node .nil 104 ⟨18,[]⟩ .nil)) 105 ⟨5,[]⟩ (.node (.node .nil 106 ⟨24,[]⟩ .nil) 107 ⟨32,[]⟩ .nil))) 108 ⟨37,[]⟩ (.node (.node (.node (.node .nil 109 ⟨17,[]⟩ .nil) 110 ⟨17,[]⟩ (.node .nil 111 ⟨50,[]⟩ .nil)) 112 ⟨49,[6]⟩ (.node (.node .nil 113 ⟨5,[]⟩ .nil) 114 ⟨140,[]⟩ (.node .nil 115 ⟨42,[]⟩ .nil))) 116 ⟨44,[]⟩ (.node (.node (.node .nil 117 ⟨13,[]⟩ .nil) 118 ⟨35,[]⟩ (.node .nil 119 ⟨5,[]⟩ .nil)) 120 ⟨5,[]⟩ (.node (.node .nil 121 ⟨5,[]⟩ .nil) 122 ⟨5,[]⟩ .nil)))))) 123 ⟨5,[]⟩ (.node (.node (.node (.node (.node (.node (.node .nil 124 ⟨15,[]⟩ .nil) 125 ⟨20,[]⟩ (.node .nil 126 ⟨45,[6,11]⟩ .nil)) 127 ⟨12,[]⟩ (.node (.node .nil 128 ⟨5,[]⟩ .nil) 129 ⟨5,[]⟩ (.node .nil 131 ⟨3,[]⟩ .nil))) 132 ⟨78,[]⟩ (.node (.node (.node .nil 133 ⟨44,[]⟩ .nil) 134 ⟨25,[]⟩ (.node .nil 135 ⟨5,[]⟩ .nil)) 136 ⟨3,[]⟩ (.node (.node .nil 137 ⟨40,[]⟩ .nil) 138 ⟨33,[]⟩ .nil))) 139 ⟨67,[]⟩ (.node (.node (.node (.node .nil 140 ⟨35,[]⟩ .nil) 141 ⟨5,[]⟩ (.node .nil 142 ⟨4,[]⟩ .nil)) 143 ⟨162,[7,8,9,10,17,18,23]⟩ (.node (.node .nil 144 ⟨95,[]⟩ .nil) 146 ⟨126,[]⟩ (.node .nil 147 ⟨3,[]⟩ .nil))) 148 ⟨3,[]⟩ (.node (.node (.node .nil 150 ⟨31,[]⟩ .nil) 151 ⟨7,[]⟩ (.node .nil 152 ⟨11,[]⟩ .nil)) 154 ⟨15,[]⟩ (.node (.node .nil 155 ⟨70,[]⟩ .nil) 156 ⟨5,[1]⟩ .nil)))) 157 ⟨5,[1]⟩ (.node (.node (.node (.node (.node .nil 158 ⟨7,[]⟩ .nil) 159 ⟨7,[]⟩ (.node .nil 160 ⟨3,[]⟩ .nil)) 161 ⟨15,[]⟩ (.node (.node .nil 162 ⟨4,[]⟩ .nil) 163 ⟨3,[]⟩ (.node .nil 164 ⟨3,[]⟩ .nil))) 165 ⟨35,[6]⟩ (.node (.node (.node .nil 166 ⟨34,[10]⟩ .nil) 167 ⟨46,[10]⟩ (.node .nil 168 ⟨61,[]⟩ .nil)) 169 ⟨16,[3]⟩ (.node (.node .nil 170 ⟨125,[11,17,23]⟩ .nil) 171 ⟨71,[1,8]⟩ .nil))) 172 ⟨145,[1,8,10,18,21]⟩ (.node (.node (.node (.node .nil 173 ⟨9,[]⟩ .nil) 174 ⟨99,[]⟩ (.node .nil 175 ⟨170,[]⟩ .nil)) 176 ⟨7,[]⟩ (.node (.node .nil 177 ⟨3,[]⟩ .nil) 178 ⟨5,[]⟩ (.node .nil 179 ⟨5,[]⟩ .nil))) 180 ⟨59,[6]⟩ (.node (.node (.node .nil 181 ⟨3,[]⟩ .nil) 182 ⟨3,[]⟩ (.node .nil 183 ⟨9,[]⟩ .nil)) 184 ⟨13,[]⟩ (.node (.node .nil 185 ⟨3,[]⟩ .nil) 186 ⟨92,[]⟩ .nil))))) 187 ⟨23,[]⟩ (.node (.node (.node (.node (.node (.node .nil 204 ⟨5,[]⟩ .nil) 205 ⟨5,[]⟩ (.node .nil 206 ⟨26,[]⟩ .nil)) 207 ⟨5,[]⟩ (.node (.node .nil 208 ⟨5,[]⟩ .nil) 209 ⟨5,[]⟩ (.node .nil 210 ⟨5,[]⟩ .nil))) 211 ⟨12,[]⟩ (.node (.node (.node .nil 212 ⟨7,[]⟩ .nil) 213 ⟨3,[]⟩ (.node .nil 214 ⟨3,[]⟩ .nil)) 215 ⟨3,[]⟩ (.node (.node .nil 216 ⟨3,[]⟩ .nil) 217 ⟨11,[]⟩ .nil))) 218 ⟨3,[]⟩ (.node (.node (.node (.node .nil 219 ⟨6,[]⟩ .nil) 220 ⟨13,[]⟩ (.node .nil 221 ⟨5,[]⟩ .nil)) 222 ⟨3,[]⟩ (.node (.node .nil 223 ⟨7,[]⟩ .nil) 224 ⟨5,[]⟩ (.node .nil 225 ⟨5,[]⟩ .nil))) 226 ⟨7,[]⟩ (.node (.node (.node .nil 227 ⟨5,[]⟩ .nil) 228 ⟨3,[]⟩ (.node .nil 229 ⟨10,[]⟩ .nil)) 230 ⟨5,[]⟩ (.node (.node .nil 231 ⟨3,[]⟩ .nil) 232 ⟨5,[]⟩ .nil)))) 233 ⟨4,[]⟩ (.node (.node (.node (.node (.node .nil 234 ⟨5,[]⟩ .nil) 235 ⟨7,[]⟩ (.node .nil 236 ⟨5,[]⟩ .nil)) 237 ⟨3,[]⟩ (.node (.node .nil 238 ⟨18,[]⟩ .nil) 239 ⟨4,[]⟩ (.node .nil 240 ⟨5,[]⟩ .nil))) 241 ⟨3,[]⟩ (.node (.node (.node .nil 242 ⟨5,[]⟩ .nil) 243 ⟨3,[]⟩ (.node .nil 244 ⟨16,[]⟩ .nil)) 245 ⟨29,[]⟩ (.node (.node .nil 246 ⟨4,[]⟩ .nil) 247 ⟨3,[]⟩ .nil))) 248 ⟨114,[]⟩ (.node (.node (.node (.node .nil 249 ⟨31,[6]⟩ .nil) 250 ⟨31,[10]⟩ (.node .nil 251 ⟨44,[10]⟩ .nil)) 252 ⟨55,[]⟩ (.node (.node .nil 253 ⟨14,[3]⟩ .nil) 254 ⟨117,[11,17,23]⟩ .nil)) 255 ⟨5,[]⟩ (.node (.node (.node .nil 257 ⟨135,[1,8,10,18,21]⟩ .nil) 258 ⟨53,[3,6]⟩ (.node .nil 259 ⟨7,[]⟩ .nil)) 260 ⟨11,[]⟩ (.node (.node .nil 261 ⟨19,[]⟩ .nil) 275 ⟨0,[]⟩ .nil))))))
theorem howKT_ok:howKT.all (fnX Tryz.prog)=true:=by kernel_rfl
def methKL : List MeRow := [⟨131, "examboard/blueprint.broken", 207, some (4, 0, 3)⟩, ⟨131, "examboard/blueprint.check", 212, none⟩, ⟨131, "examboard/blueprint.exceeded", 208, some (4, 0, 3)⟩, ⟨131, "examboard/blueprint.line", 213, none⟩, ⟨131, "examboard/blueprint.rows", 209, some (4, 0, 3)⟩, ⟨133, "examboard/blueprint.broken", 207, some (3, 0, 3)⟩, ⟨133, "examboard/blueprint.check", 206, some (3, 0, 2)⟩, ⟨133, "examboard/blueprint.exceeded", 208, some (3, 0, 3)⟩, ⟨133, "examboard/blueprint.line", 214, none⟩, ⟨133, "examboard/blueprint.rows", 209, some (3, 0, 3)⟩, ⟨134, "examboard/blueprint.broken", 207, some (3, 0, 3)⟩, ⟨134, "examboard/blueprint.check", 206, some (3, 0, 2)⟩, ⟨134, "examboard/blueprint.exceeded", 208, some (3, 0, 3)⟩, ⟨134, "examboard/blueprint.line", 215, none⟩, ⟨134, "examboard/blueprint.rows", 209, some (3, 0, 3)⟩, ⟨135, "examboard/blueprint.broken", 207, some (3, 0, 3)⟩, ⟨135, "examboard/blueprint.check", 206, some (3, 0, 2)⟩, ⟨135, "examboard/blueprint.exceeded", 208, some (3, 0, 3)⟩, ⟨135, "examboard/blueprint.line", 216, none⟩, ⟨135, "examboard/blueprint.rows", 209, some (3, 0, 3)⟩, ⟨137, "examboard/blueprint.broken", 207, some (4, 0, 3)⟩, ⟨137, "examboard/blueprint.check", 217, none⟩, ⟨137, "examboard/blueprint.exceeded", 208, some (4, 0, 3)⟩, ⟨137, "examboard/blueprint.line", 218, none⟩, ⟨137, "examboard/blueprint.rows", 209, some (4, 0, 3)⟩, ⟨139, "examboard/blueprint.broken", 219, none⟩, ⟨139, "examboard/blueprint.check", 220, none⟩, ⟨139, "examboard/blueprint.exceeded", 221, none⟩, ⟨139, "examboard/blueprint.line", 222, none⟩, ⟨139, "examboard/blueprint.rows", 223, none⟩, ⟨141, "examboard/blueprint.broken", 225, none⟩, ⟨141, "examboard/blueprint.check", 226, none⟩, ⟨141, "examboard/blueprint.exceeded", 227, none⟩, ⟨141, "examboard/blueprint.line", 228, none⟩, ⟨141, "examboard/blueprint.rows", 229, none⟩, ⟨142, "examboard/blueprint.broken", 234, none⟩, ⟨142, "examboard/blueprint.check", 235, none⟩, ⟨142, "examboard/blueprint.exceeded", 236, none⟩, ⟨142, "examboard/blueprint.line", 237, none⟩, ⟨142, "examboard/blueprint.rows", 238, none⟩, ⟨144, "examboard/blueprint.broken", 240, none⟩, ⟨144, "examboard/blueprint.check", 241, none⟩, ⟨144, "examboard/blueprint.exceeded", 242, none⟩, ⟨144, "examboard/blueprint.line", 243, none⟩, ⟨144, "examboard/blueprint.rows", 244, none⟩]
theorem methKL_ok:∀p∈methKL,MeE Tryz.prog p:=List.forall_mem_cons.2 ⟨meP4 (fun _ _ _ _ _=>by kernel_rfl),List.forall_mem_cons.2 ⟨meW (fun _ _ _=>by kernel_rfl),List.forall_mem_cons.2 ⟨meP4 (fun _ _ _ _ _=>by kernel_rfl),List.forall_mem_cons.2 ⟨meW (fun _ _ _=>by kernel_rfl),List.forall_mem_cons.2 ⟨meP4 (fun _ _ _ _ _=>by kernel_rfl),List.forall_mem_cons.2 ⟨meP3 (fun _ _ _ _=>by kernel_rfl),List.forall_mem_cons.2 ⟨meP3 (fun _ _ _ _=>by kernel_rfl),List.forall_mem_cons.2 ⟨meP3 (fun _ _ _ _=>by kernel_rfl),List.forall_mem_cons.2 ⟨meW (fun _ _ _=>by kernel_rfl),List.forall_mem_cons.2 ⟨meP3 (fun _ _ _ _=>by kernel_rfl),List.forall_mem_cons.2 ⟨meP3 (fun _ _ _ _=>by kernel_rfl),List.forall_mem_cons.2 ⟨meP3 (fun _ _ _ _=>by kernel_rfl),List.forall_mem_cons.2 ⟨meP3 (fun _ _ _ _=>by kernel_rfl),List.forall_mem_cons.2 ⟨meW (fun _ _ _=>by kernel_rfl),List.forall_mem_cons.2 ⟨meP3 (fun _ _ _ _=>by kernel_rfl),List.forall_mem_cons.2 ⟨meP3 (fun _ _ _ _=>by kernel_rfl),List.forall_mem_cons.2 ⟨meP3 (fun _ _ _ _=>by kernel_rfl),List.forall_mem_cons.2 ⟨meP3 (fun _ _ _ _=>by kernel_rfl),List.forall_mem_cons.2 ⟨meW (fun _ _ _=>by kernel_rfl),List.forall_mem_cons.2 ⟨meP3 (fun _ _ _ _=>by kernel_rfl),List.forall_mem_cons.2 ⟨meP4 (fun _ _ _ _ _=>by kernel_rfl),List.forall_mem_cons.2 ⟨meW (fun _ _ _=>by kernel_rfl),List.forall_mem_cons.2 ⟨meP4 (fun _ _ _ _ _=>by kernel_rfl),List.forall_mem_cons.2 ⟨meW (fun _ _ _=>by kernel_rfl),List.forall_mem_cons.2 ⟨meP4 (fun _ _ _ _ _=>by kernel_rfl),List.forall_mem_cons.2 ⟨meW (fun _ _ _=>by kernel_rfl),List.forall_mem_cons.2 ⟨meW (fun _ _ _=>by kernel_rfl),List.forall_mem_cons.2 ⟨meW (fun _ _ _=>by kernel_rfl),List.forall_mem_cons.2 ⟨meW (fun _ _ _=>by kernel_rfl),List.forall_mem_cons.2 ⟨meW (fun _ _ _=>by kernel_rfl),List.forall_mem_cons.2 ⟨meW (fun _ _ _=>by kernel_rfl),List.forall_mem_cons.2 ⟨meW (fun _ _ _=>by kernel_rfl),List.forall_mem_cons.2 ⟨meW (fun _ _ _=>by kernel_rfl),List.forall_mem_cons.2 ⟨meW (fun _ _ _=>by kernel_rfl),List.forall_mem_cons.2 ⟨meW (fun _ _ _=>by kernel_rfl),List.forall_mem_cons.2 ⟨meW (fun _ _ _=>by kernel_rfl),List.forall_mem_cons.2 ⟨meW (fun _ _ _=>by kernel_rfl),List.forall_mem_cons.2 ⟨meW (fun _ _ _=>by kernel_rfl),List.forall_mem_cons.2 ⟨meW (fun _ _ _=>by kernel_rfl),List.forall_mem_cons.2 ⟨meW (fun _ _ _=>by kernel_rfl),List.forall_mem_cons.2 ⟨meW (fun _ _ _=>by kernel_rfl),List.forall_mem_cons.2 ⟨meW (fun _ _ _=>by kernel_rfl),List.forall_mem_cons.2 ⟨meW (fun _ _ _=>by kernel_rfl),List.forall_mem_cons.2 ⟨meW (fun _ _ _=>by kernel_rfl),List.forall_mem_cons.2 ⟨meW (fun _ _ _=>by kernel_rfl),fun _ h=>absurd h List.not_mem_nil⟩⟩⟩⟩⟩⟩⟩⟩⟩⟩⟩⟩⟩⟩⟩⟩⟩⟩⟩⟩⟩⟩⟩⟩⟩⟩⟩⟩⟩⟩⟩⟩⟩⟩⟩⟩⟩⟩⟩⟩⟩⟩⟩⟩⟩
def ifKL:List Nat:=[20,66,67,73,74]
theorem ifKL_ok:ifKL.all (ifTyB Tryz.prog)=true:=by kernel_rfl
def stKL:List Nat:=[7,8,77,78,101,102,124,125,140,141,142,236,237,241,242]
theorem stKL_ok:stKL.all (eqTyB Tryz.prog)=true:=by kernel_rfl
end Go.Proofs.YtcaahphghaddgaaGreatDoor
set_option linter.unusedSimpArgs false
set_option linter.unusedVariables false
namespace Go.Proofs.YtcaahphghaddgaaGreatDoor
open Go.RowKit Lim
noncomputable section
noncomputable def ctxK:Ctx:=⟨Tryz.prog,tabKT.get,Env,EBl,true,fun _ _ h=>tiB_sound (KTree.all_get tabKT_ok h),ctx.hE,ctx.hEB,ctx.hG,ctx.hm⟩
def meQ (t:TypeId) (name:String) (a:AV):Option (FuncId × AV):=(meth methKL t name).bind fun p=>(p.2 a).map fun a'=>(p.1,a')
abbrev PrimK:=List AV→Option AV
def primKL:List (Nat × PrimK):=[(55,kCut),(93,kSplit),(66,kItoa),(67,kJoin)]
theorem primKL_ok:∀p∈primKL,∀args r,p.2 args=some r→AT p.1 args r :=
 List.forall_mem_cons.2 ⟨fun _ _=>kCut_ok,List.forall_mem_cons.2 ⟨fun _ _=>kSplit_ok,List.forall_mem_cons.2 ⟨fun _ _=>kItoa_ok,List.forall_mem_cons.2 ⟨fun _ _=>kJoin_ok,fun _ h=>absurd h List.not_mem_nil⟩⟩⟩⟩
def lkP:List (Nat × PrimK)→Nat→Option PrimK
 | [],_=>none
 | p :: l,x=>bif Nat.beq x p.1 then some p.2 else lkP l x
theorem lkP_mem:∀{l:List (Nat × PrimK)} {x:Nat} {p:PrimK},lkP l x=some p→(x,p)∈l
 | [],_,_,h=>by cases h
 | (k,q) :: l,x,p,h=>by
  unfold lkP at h
  cases hb:Nat.beq x k with
  | true=>rw [hb]at h;cases h;rw [kbeq hb];exact List.mem_cons_self
  | false=>rw [hb]at h;exact List.mem_cons_of_mem _ (lkP_mem h)
noncomputable def kw (F:Nat):KW:=⟨tabKT.get,Tryz.prog.funcs,howKT.get,meQ,eqTab tabKT.get ifKL stKL,lkP primKL,F⟩
theorem kw_ok {F:Nat}:KWOK ctxK (kw F) :=
 ⟨rfl,rfl,fun t name a f a' h=>by
  obtain ⟨p,h1,h2⟩:=kbind h
  obtain ⟨b,h3,h4⟩:=Option.map_eq_some_iff.1 h2
  cases h4
  exact meth_some methKL_ok h1 a _ h3,
 fun _ _ _ _ _ _ _ h=>eqTab_ok (C:=ctxK) ifKL_ok stKL_ok h,
 fun f h fn c h1 h2 h3=>fnX_of (KTree.all_get howKT_ok h1) h2 h3,
 fun f p args r h1 h2=>primKL_ok _ (lkP_mem h1) args r h2⟩
noncomputable abbrev KR (n:Nat):FuncId→List AV→Option AV:=kask (kw 1000000) n
theorem KR_calls {n:Nat} {f:FuncId} {args:List AV} {r:AV} (h:KR n f args=some r):AT f args r:=kask_sound (C:=ctxK) kw_ok n f args r h
end
end Go.Proofs.YtcaahphghaddgaaGreatDoor
set_option linter.unusedSimpArgs false
set_option linter.unusedVariables false
namespace Go.Proofs.YtcaahphghaddgaaGreatDoor
open Go.RowKit Lim
noncomputable section
def kstr1:AV→Option (List UInt8)
 | .lit (.string s)=>some s.data.toList
 | _=>none
theorem kstr1_some:∀{a:AV} {l:List UInt8},kstr1 a=some l→a=str l
 | .lit (.string s),l,h=>by cases h;rw [str,bs_data]
def kzero:AV→Bool
 | .lit (.int .i64 z)=>z == 0
 | _=>false
theorem kzero_of {a:AV} (h:kzero a=true):a=i64 0:=by
 unfold kzero at h
 split at h
 ·rw [eq_of_beq h]
 ·cases h
def kLines (n:Nat):List AV→Option (List (List UInt8))
 | []=>some []
 | .ifc ty a :: ds => (meQ ty "examboard/blueprint.line" a).bind fun p => (KR n p.1 [p.2]).bind fun r => (kstr1 r).bind fun l => (kLines n ds).map fun ls => l :: ls
 | _=>none
theorem kLines_ok {n : Nat} : ∀ {ds : List AV} {ls : List (List UInt8)}, kLines n ds = some ls → ls.length = ds.length ∧ (∀ d ∈ ds, d.one = true) ∧ ∀ i (hi : i < ds.length), ∃ ty a a' f l, ds[i]'hi = .ifc ty a ∧ ls[i]? = some l ∧ Meth Tryz.prog ty "examboard/blueprint.line" a f a' ∧ AT f [a'] (str l) := by
 intro ds
 induction ds with
 | nil=>intro ls h;cases h;exact ⟨rfl,fun d hd=>absurd hd List.not_mem_nil,fun i hi=>absurd hi (Nat.not_lt_zero _)⟩
 | cons d ds ih =>
  intro ls h
  unfold kLines at h
  split at h
  ·rename_i e1;cases e1
  ·rename_i ty a ds' e1
   cases e1
   obtain ⟨p,h1,h⟩:=kbind h
   obtain ⟨r,h2,h⟩:=kbind h
   obtain ⟨l,h3,h⟩:=kbind h
   obtain ⟨ls',h4,rfl⟩:=Option.map_eq_some_iff.1 h
   obtain ⟨q1,q2,q3⟩:=ih h4
   have hat:=KR_calls h2
   rw [kstr1_some h3]at hat
   refine ⟨by rw [List.length_cons,List.length_cons,q1],fun d hd=>?_,fun i hi=>?_⟩
   ·rcases List.mem_cons.1 hd with rfl|hd
    ·rfl
    ·exact q2 d hd
   ·match i with
    | 0=>exact ⟨ty,a,p.2,p.1,l,rfl,rfl,(kw_ok (F:=0)).me ty _ a p.1 p.2 h1,hat⟩
    | i+1 =>
     obtain ⟨ty,a,a',f,l,g⟩:=q3 i (Nat.lt_of_succ_lt_succ hi)
     exact ⟨ty,a,a',f,l,g⟩
  ·cases h
def kPrint (n:Nat):List AV→Option AV
 | [.agg [.lit (.int .i64 L),.sl k rs]] =>
  (KR n 12 [.agg [.lit (.int .i64 L),.sl k rs]]).bind fun v =>
   bif kzero v then
    (KR n 32 [str [108,101,110,103,116,104],.sl 1 [i64 L]]).bind fun t=>(kstr1 t).bind fun t0 =>
     (KR n 33 [.agg [.lit (.int .i64 L),.sl k rs]]).bind fun d=>match d with
      | .sl 1 ds=>(kLines n ds).bind fun ls=>bif Nat.ble ds.length 1048576 && Nat.ble (wrt t0 ls).length 140737488355328 then some (.tup [str (wrt t0 ls),i64 0]) else none
      | _=>none
   else none
 | _=>none
theorem kPrint_ok {n:Nat} {args:List AV} {r:AV} (h:kPrint n args=some r):AT 10 args r:=by
 unfold kPrint at h
 split at h
 ·rename_i L k rs
  obtain ⟨v,h1,h⟩:=kbind h
  obtain ⟨h2,h⟩:=kif h
  obtain ⟨t,h3,h⟩:=kbind h
  obtain ⟨t0,h4,h⟩:=kbind h
  obtain ⟨d,h5,h⟩:=kbind h
  split at h
  ·rename_i ds
   obtain ⟨ls,h6,h⟩:=kbind h
   obtain ⟨h7,h⟩:=kif h
   obtain ⟨h7,h8⟩:=kand h7
   cases h
   have c1:=KR_calls h1
   have c2:=KR_calls h3
   rw [kzero_of h2]at c1
   rw [kstr1_some h4]at c2
   obtain ⟨q1,q2,q3⟩:=kLines_ok h6
   exact print_c c1 c2 (KR_calls h5) q2 q3 q1 (Nat.le_of_ble_eq_true h7) (Nat.le_of_ble_eq_true h8)
  ·cases h
 ·cases h
end
end Go.Proofs.YtcaahphghaddgaaGreatDoor
set_option linter.unusedSimpArgs false
set_option linter.unusedVariables false
namespace Go.Proofs.YtcaahphghaddgaaGreatDoor
open Go.RowKit Lim
noncomputable section
def eqL:Value→Value→Bool
 | .int .i64 m,.int .i64 n=>m == n
 | .bool a,.bool b=>a == b
 | .string s,.string t=>s.data.toList == t.data.toList
 | _,_=>false
theorem eqL_of {a b:Value} (h:eqL a b=true):a=b:=by
 unfold eqL at h
 split at h
 ·rw [eq_of_beq h]
 ·rw [eq_of_beq h]
 ·rename_i s t
  have e:=eq_of_beq h
  rw [←bs_data s,←bs_data t,e]
 ·cases h
def eqAs (e:AV→AV→Bool):List AV→List AV→Bool
 | [],[]=>true
 | a :: l,b :: m=>e a b && eqAs e l m
 | _,_=>false
theorem eqAs_of {e:AV→AV→Bool} (he:∀a b,e a b=true→a=b):∀l m,eqAs e l m=true→l=m
 | [],[],_=>rfl
 | [],_ :: _,h=>by cases h
 | _ :: _,[],h=>by cases h
 | a :: l,b :: m,h=>by
  obtain ⟨h1,h2⟩:=kand h
  rw [he a b h1,eqAs_of he l m h2]
def eqA:Nat→AV→AV→Bool
 | n+1,.lit a,.lit b=>eqL a b
 | n+1,.sl k es,.sl k' fs=>k == k' && eqAs (eqA n) es fs
 | n+1,.agg es,.agg fs=>eqAs (eqA n) es fs
 | n+1,.tup es,.tup fs=>eqAs (eqA n) es fs
 | _,_,_=>false
theorem eqA_of:∀n a b,eqA n a b=true→a=b:=by
 intro n
 induction n with
 | zero=>intro a b h;cases a <;> cases h
 | succ n ih =>
  intro a b h
  cases a <;> cases b <;> first
   | exact absurd h Bool.false_ne_true
   | exact congrArg AV.lit (eqL_of h)
   | exact congrArg AV.agg (eqAs_of ih _ _ h)
   | exact congrArg AV.tup (eqAs_of ih _ _ h)
   | skip
  obtain ⟨h1,h2⟩:=kand h
  rw [eq_of_beq h1,eqAs_of ih _ _ h2]
def kMemo (as':List AV) (x:AV) (args:List AV):Option AV:=bif eqAs (eqA 9) args as' then some x else none
theorem kMemo_ok {f:FuncId} {as':List AV} {x:AV} (h:AT f as' x) {args:List AV} {r:AV} (hm:kMemo as' x args=some r):AT f args r:=by
 obtain ⟨h1,h2⟩:=kif hm
 cases h2
 rw [eqAs_of (eqA_of 9) _ _ h1]
 exact h
noncomputable def kwp (ps:List (Nat × PrimK)) (F:Nat):KW:={ kw F with pr:=lkP ps }
theorem kwp_ok {ps:List (Nat × PrimK)} (hp:∀p∈ps,∀args r,p.2 args=some r→AT p.1 args r) {F:Nat}:KWOK ctxK (kwp ps F):=by
 have h:=kw_ok (F:=F)
 exact ⟨h.1,h.2,h.3,h.4,h.5,fun f p args r h1 h2=>hp _ (lkP_mem h1) args r h2⟩
noncomputable abbrev KRp (ps:List (Nat × PrimK)) (n:Nat):FuncId→List AV→Option AV:=kask (kwp ps 1000000) n
theorem KRp_calls {ps:List (Nat × PrimK)} (hp:∀p∈ps,∀args r,p.2 args=some r→AT p.1 args r) {n:Nat} {f:FuncId} {args:List AV} {r:AV} (h:KRp ps n f args=some r):AT f args r:=kask_sound (C:=ctxK) (kwp_ok hp) n f args r h
def sampleK (n:Int):AV:=.agg [.lit (.int .i64 n),.lit (.string ⟨#[77,65,84,72,46,65,76,71]⟩),.lit (.int .i64 0),.lit (.int .i64 0),.lit (.int .i64 6),.lit (.int .i64 10),.lit (.int .i64 1),.lit (.int .i64 0),.sl 1 [.sl 1 [.lit (.int .i64 500),.lit (.int .i64 500)]]]
def probA:List AV:=[.agg [.lit (.int .i64 1),.sl 5 [.agg [.lit (.int .i64 8),.lit (.int .i64 5),.lit (.int .i64 0),.lit (.int .i64 0),.lit (.string ⟨#[]⟩)]]],.sl 9 [sampleK 2,sampleK 5],.sl 2 [],.sl 1 [.lit (.int .i64 7),.lit (.int .i64 9)]]
def probR:AV:=.tup [.agg [.sl 1 [.lit (.int .i64 7),.lit (.int .i64 9)],.sl 3 [.agg [.sl 1 [.lit (.int .i64 1),.lit (.int .i64 1)],.lit (.int .i64 1),.lit (.int .i64 1)]],.sl 1 [.lit (.int .i64 (-1)),.lit (.int .i64 0)]],.lit (.int .i64 0)]
end
end Go.Proofs.YtcaahphghaddgaaGreatDoor
