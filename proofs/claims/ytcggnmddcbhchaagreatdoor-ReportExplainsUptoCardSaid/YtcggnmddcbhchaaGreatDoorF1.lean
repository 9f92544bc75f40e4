import Derived.Test.YtcggnmddcbhchaaGreatDoorEXM
import Derived.Test.YtcggnmddcbhchaaGreatDoorEXI
import Derived.Test.YtcggnmddcbhchaaGreatDoorEWz
import Derived.Lib.ItoaLen
import Derived.Test.YtcggnmddcbhchaaGreatDoorEWa
import Derived.Test.YtcggnmddcbhchaaGreatDoorRows
import Derived.ProofKit
import Derived.OpenShut
import Derived.ChangeArms
import Derived.ChangeSlices
import Derived.Deep.DeepHandedRow
import Derived.Deep.Slices
import Derived.Below
import Derived.Carry
import Derived.ChangeSame
import Derived.Lay
import Derived.MakeChecks
import Derived.Shelf.Vars
import Derived.Test.YtcggnmddcbhchaaGreatDoorEXL
import Derived.Lib.IndexMore
/- Texts merged: Ya Zs Z1 Z2 Z3 Ym Yb Yc Z4 Z5 Z6 Yd WSh WSi Ye Yg Z7 Z8 Yp Zm XO. -/
set_option linter.unusedSimpArgs false
set_option linter.unusedVariables false
namespace Go.Proofs.YtcggnmddcbhchaaGreatDoor
open Go.RowKit Lim
theorem log2_le {a b:Nat} (h:a≤b):Nat.log2 a≤Nat.log2 b:=by
 by_cases ha:a=0
 ·subst ha;simp
 ·have hb:b≠0:=by omega
  exact (Nat.le_log2 hb).2 (Nat.le_trans (Nat.log2_self_le ha) h)
theorem log2_val {l:List Nat} (h:Dig l):Nat.log2 (val l)≤32*l.length:=by
 by_cases hv:val l=0
 ·rw [hv];simp
 ·have h1:=val_lt h
  have h2:pw l.length=2 ^ (32*l.length):=by unfold pw;rw [Nat.pow_mul]
  rw [h2]at h1
  exact Nat.le_of_lt ((Nat.log2_lt hv).2 h1)
theorem capN_ok {l:List Nat} (hd:Dig l) (hl:l.length≤1073741824):capN l=true:=by
 have:=log2_val hd
 unfold capN
 rw [Bool.and_eq_true]
 refine ⟨Nat.ble_eq_true_of_le ?_,Nat.ble_eq_true_of_le ?_⟩ <;> omega
theorem capN_K {n:Nat} (h:Nat.log2 n≤34359738368):capN (limbsK n)=true:=by
 have:=nlen_log n
 unfold capN
 rw [Bool.and_eq_true,limbsK_eq,val_limbs]
 refine ⟨Nat.ble_eq_true_of_le ?_,Nat.ble_eq_true_of_le ?_⟩
 ·have:(limbs n).length=nlen n:=rfl
  omega
 ·omega
theorem val_K (n:Nat):val (limbsK n)=n:=by rw [limbsK_eq,val_limbs]
theorem capI_ok {z:Int} (h1:-9223372036854775808≤z) (h2:z≤9223372036854775807):capI z=true:=by
 unfold capI
 rw [Bool.and_eq_true]
 exact ⟨decide_eq_true h1,decide_eq_true h2⟩
theorem capU_ok {z:Int} (h1:0≤z) (h2:z<18446744073709551616):capU z=true:=by
 unfold capU
 rw [Bool.and_eq_true]
 exact ⟨decide_eq_true h1,decide_eq_true h2⟩
theorem capR_ok {z:Int} (h1:0≤z) (h2:z≤1048576):capR z=true:=by
 unfold capR
 rw [Bool.and_eq_true]
 exact ⟨decide_eq_true h1,decide_eq_true h2⟩
theorem itoaK_len {z:Int} (h1:-9223372036854775808≤z) (h2:z≤9223372036854775807):(itoaK z).length≤21:=by
 rw [itoaK_eq]
 exact Lib.itoa_length_le z h1 h2
theorem strB_s {m n:Nat} (h:m+n≤4294967296):strB m n=true:=strB_le (by omega)
theorem sg_own (z:Int):sg (decide (z<0)) z.natAbs=z:=by
 unfold sg
 by_cases h:z<0
 ·rw [decide_eq_true h];simp;omega
 ·rw [decide_eq_false h];simp;omega
structure Q3 where
 t:Bool
 a:List Nat
 b:List Nat
namespace Q3
def z (q:Q3):Int:=pz (sg q.t (val q.a)) (val q.b)
def d (q:Q3):Nat:=pd (val q.b)
structure OK (q:Q3):Prop where
 da:Dig q.a
 db:Dig q.b
 la:q.a.length≤1048577
 lb:q.b.length≤1048577
def eq (p q:Q3):Bool:=decide (p.z*(q.d:Int)=q.z*(p.d:Int))
def n (q:Q3):Int:=rn q.z q.d
def m (q:Q3):Nat:=rd q.z q.d
structure Sc (p q:Q3):Prop where
 ex:∃k:Nat,0<k∧q.z=p.z*(k:Int)∧q.d=p.d*k
end Q3
end Go.Proofs.YtcggnmddcbhchaaGreatDoor
set_option linter.unusedSimpArgs false
set_option linter.unusedVariables false
namespace Go.Proofs.YtcggnmddcbhchaaGreatDoor
open Go.RowKit Lim
theorem report_Explain_m {F:Nat} (n0:Nat) (x0_0:VT.den (.sl 1 (.int .i64))) (x0_1:VT.den (.sl 1 (.int .i64))) (x1:VT.den (.sl 9 (.pair (.int .i64) (.pair .str (.pair (.int .i64) (.pair (.int .i64) (.pair (.int .i64) (.pair (.int .i64) (.pair (.int .i64) (.pair (.int .i64) (.sl 1 (.sl 1 (.int .i64))))))))))))) (x2:VT.den (.sl 2 (.pair (.int .i64) (.int .i64)))):EF F (n0+1) 19 [.o (.agg [⟨(.sl 1 (.int .i64)),x0_0⟩,⟨(.sl 1 (.int .i64)),x0_1⟩]),.o (.c ⟨(.sl 9 (.pair (.int .i64) (.pair .str (.pair (.int .i64) (.pair (.int .i64) (.pair (.int .i64) (.pair (.int .i64) (.pair (.int .i64) (.pair (.int .i64) (.sl 1 (.sl 1 (.int .i64)))))))))))),x1⟩),.o (.c ⟨(.sl 2 (.pair (.int .i64) (.int .i64))),x2⟩)] [.c (.sl 1 .str),.c (.int .i64)]=unwrapA ((EF F n0 42 [.o (.agg [⟨VT.sl 1 (tI),x0_0⟩,⟨VT.sl 1 (tI),x0_1⟩])] [.c (VT.sl 1 tN),.c (tI)]).bind fun x=>bif x.2.1 != 0 then some (.ret ([],x.2.1,())) else (EF F n0 43 [.o (.c { t:=VT.sl 9 ((tI).pair (tS.pair ((tI).pair ((tI).pair ((tI).pair ((tI).pair ((tI).pair ((tI).pair (VT.sl 1 (VT.sl 1 (tI))))))))))),x:=x1 }),vI ((Nat.cast (R:=Int) (List.length x0_0)))] [.c (tI)]).bind fun x_1=>bif x_1.1 != 0 then some (.ret ([],x_1.1,())) else bif decide (18<(Nat.cast (R:=Int) (List.length x2))) then some (.ret ([],5,())) else loopA 0 [tI,VT.sl 1 tS,tI,VT.sl 1 tN,tI,VT.sl 1 tS] (fun x_2=>bif decide (x_2.1<(Nat.cast (R:=Int) (List.length x2))) then (ix x2 x_2.1).bind fun y=>(EF F n0 44 [.o (.c { t:=VT.sl 9 ((tI).pair (tS.pair ((tI).pair ((tI).pair ((tI).pair ((tI).pair ((tI).pair ((tI).pair (VT.sl 1 (VT.sl 1 (tI))))))))))),x:=x1 }),vI y.1] [.agg [tI,tS,tI,tI,tI,tI,tI,tI,VT.sl 1 (VT.sl 1 (tI))],.c tB]).bind fun x_3=>bif !x_3.2.2.2.2.2.2.2.2.2.1 then some (.ret ([],6,())) else (EF F n0 45 [.o (.c ⟨VT.sl 1 tN,x_2.2.2.2.1⟩),.o (.agg [{ t:=VT.sl 1 (VT.sl 1 (tI)),x:=x_3.2.2.2.2.2.2.2.2.1 }]),vI y.2] [.c (VT.sl 1 tN),.c (tI)]).bind fun x_4=>bif x_4.2.1 != 0 then some (.ret ([],x_4.2.1,())) else (EF F n0 46 [.o (.agg [⟨VT.sl 1 (tI),x0_0⟩,⟨VT.sl 1 (tI),x0_1⟩]),.o (.c ⟨VT.sl 1 tN,x_4.1⟩),vI (IntKind.i64.wrap (x_2.1+1)),.o (.agg [⟨tI,y.1⟩,⟨tI,y.2⟩])] [.c tS,.c (tI)]).bind fun x_5=>bif x_5.2.1 != 0 then some (.ret ([],x_5.2.1,())) else bif capB (List.length x_2.2.1+[x_5.1].length) 16 then some (.cont 0 [tI,VT.sl 1 tS,tI,VT.sl 1 tN,tI,VT.sl 1 tS] (IntKind.i64.wrap (x_2.1+1),x_2.2.1 ++ [x_5.1],x_4.2.1,x_4.1,x_2.2.2.2.2.1,x_2.2.2.2.2.2.1,())) else none else some (.ret (x_2.2.1,0,()))) F (0,[],x.2.1,x.1,0,[],())):=by kernel_rfl
theorem examboardlaw56_sameLines_m {F:Nat} (n0:Nat) (x0:VT.den (.sl 1 .str)) (x1:VT.den (.sl 1 .str)):EF F (n0+1) 21 [.o (.c ⟨(.sl 1 .str),x0⟩),.o (.c ⟨(.sl 1 .str),x1⟩)] [.c .bool]=unwrapA (bif (Nat.cast (R:=Int) (List.length x0)) != (Nat.cast (R:=Int) (List.length x1)) then some (.ret (false,())) else loopA 0 [tI,tB] (fun x=>bif decide (x.1<(Nat.cast (R:=Int) (List.length x0))) then (ix x0 x.1).bind fun y=>(ix x1 x.1).bind fun y_1=>bif !y == y_1 then some (.ret (false,())) else some (.cont 0 [tI,tB] (IntKind.i64.wrap (x.1+1),x.2.1,())) else some (.ret (true,()))) F (0,false,())):=by kernel_rfl
theorem posterior_Start_m {F:Nat} (n0:Nat) (x0_0:VT.den (.sl 1 (.int .i64))) (x0_1:VT.den (.sl 1 (.int .i64))):EF F (n0+1) 42 [.o (.agg [⟨(.sl 1 (.int .i64)),x0_0⟩,⟨(.sl 1 (.int .i64)),x0_1⟩])] [.c (.sl 1 .nat),.c (.int .i64)]=unwrapA ((EF F n0 90 [.o (.agg [⟨VT.sl 1 (tI),x0_0⟩,⟨VT.sl 1 (tI),x0_1⟩])] [.c (VT.sl 1 tN),.c (tI)]).bind fun x=>some (.ret (x.1,x.2.1,()))):=by kernel_rfl
theorem blueprint_Check_m {F:Nat} (n0:Nat) (x0:VT.den (.sl 9 (.pair (.int .i64) (.pair .str (.pair (.int .i64) (.pair (.int .i64) (.pair (.int .i64) (.pair (.int .i64) (.pair (.int .i64) (.pair (.int .i64) (.sl 1 (.sl 1 (.int .i64))))))))))))) (x1:Int):EF F (n0+1) 43 [.o (.c ⟨(.sl 9 (.pair (.int .i64) (.pair .str (.pair (.int .i64) (.pair (.int .i64) (.pair (.int .i64) (.pair (.int .i64) (.pair (.int .i64) (.pair (.int .i64) (.sl 1 (.sl 1 (.int .i64)))))))))))),x0⟩),.o (.c ⟨(.int .i64),x1⟩)] [.c (.int .i64)]=unwrapA (bif decide (18<(Nat.cast (R:=Int) (List.length x0))) then some (.ret (5,())) else loopA 0 [tI,tI] (fun x=>bif decide (x.1<(Nat.cast (R:=Int) (List.length x0))) then (ix x0 x.1).bind fun y=>(EF F n0 91 [vI y.1] [.c tB]).bind fun x_1=>bif !x_1.1 then some (.ret (23,())) else bif decide (0<x.1) then (ix x0 (IntKind.i64.wrap (x.1-1))).bind fun y_1=>bif decide (y.1≤y_1.1) then some (.ret (23,())) else some (.cont 0 [tI,tI] (IntKind.i64.wrap (x.1+1),x.2.1,())) else some (.cont 0 [tI,tI] (IntKind.i64.wrap (x.1+1),x.2.1,())) else loopA 0 [tI,tI] (fun x_1=>bif decide (x_1.1<(Nat.cast (R:=Int) (List.length x0))) then (ix x0 x_1.1).bind fun y=>(EF F n0 92 [.o (.agg [⟨tI,y.1⟩,⟨tS,y.2.1⟩,⟨tI,y.2.2.1⟩,⟨tI,y.2.2.2.1⟩,⟨tI,y.2.2.2.2.1⟩,⟨tI,y.2.2.2.2.2.1⟩,⟨tI,y.2.2.2.2.2.2.1⟩,⟨tI,y.2.2.2.2.2.2.2.1⟩,{ t:=VT.sl 1 (VT.sl 1 (tI)),x:=y.2.2.2.2.2.2.2.2 }]),vI x1] [.c (tI)]).bind fun x_2=>bif x_2.1 != 0 then some (.ret (x_2.1,())) else some (.cont 0 [tI,tI] (IntKind.i64.wrap (x_1.1+1),x_1.2.1,())) else some (.ret (0,()))) F (0,x.2.1,())) F (0,0,())):=by kernel_rfl
theorem report_find_m {F:Nat} (n0:Nat) (x0:VT.den (.sl 9 (.pair (.int .i64) (.pair .str (.pair (.int .i64) (.pair (.int .i64) (.pair (.int .i64) (.pair (.int .i64) (.pair (.int .i64) (.pair (.int .i64) (.sl 1 (.sl 1 (.int .i64))))))))))))) (x1:Int):EF F (n0+1) 44 [.o (.c ⟨(.sl 9 (.pair (.int .i64) (.pair .str (.pair (.int .i64) (.pair (.int .i64) (.pair (.int .i64) (.pair (.int .i64) (.pair (.int .i64) (.pair (.int .i64) (.sl 1 (.sl 1 (.int .i64)))))))))))),x0⟩),.o (.c ⟨(.int .i64),x1⟩)] [.agg [(.int .i64),.str,(.int .i64),(.int .i64),(.int .i64),(.int .i64),(.int .i64),(.int .i64),(.sl 1 (.sl 1 (.int .i64)))],.c .bool]=unwrapA (loopA 0 [tI,tB,tI,tS,tI,tI,tI,tI,tI,tI,VT.sl 1 (VT.sl 1 (tI))] (fun x=>bif decide (x.1<(Nat.cast (R:=Int) (List.length x0))) then (ix x0 x.1).bind fun y=>bif y.1 == x1 then some (.ret (y.1,y.2.1,y.2.2.1,y.2.2.2.1,y.2.2.2.2.1,y.2.2.2.2.2.1,y.2.2.2.2.2.2.1,y.2.2.2.2.2.2.2.1,y.2.2.2.2.2.2.2.2,true,())) else some (.cont 0 [tI,tB,tI,tS,tI,tI,tI,tI,tI,tI,VT.sl 1 (VT.sl 1 (tI))] (IntKind.i64.wrap (x.1+1),x.2.1,x.2.2.1,x.2.2.2.1,x.2.2.2.2.1,x.2.2.2.2.2.1,x.2.2.2.2.2.2.1,x.2.2.2.2.2.2.2.1,x.2.2.2.2.2.2.2.2.1,x.2.2.2.2.2.2.2.2.2.1,x.2.2.2.2.2.2.2.2.2.2.1,())) else some (.ret (0,[],0,0,0,0,0,0,[],false,()))) F (0,false,0,[],0,0,0,0,0,0,[],())):=by kernel_rfl
theorem posterior_Update_m {F:Nat} (n0:Nat) (x0:VT.den (.sl 1 .nat)) (x1:VT.den (.sl 1 (.sl 1 (.int .i64)))) (x2:Int):EF F (n0+1) 45 [.o (.c ⟨(.sl 1 .nat),x0⟩),.o (.agg [⟨(.sl 1 (.sl 1 (.int .i64))),x1⟩]),.o (.c ⟨(.int .i64),x2⟩)] [.c (.sl 1 .nat),.c (.int .i64)]=unwrapA (bif decide (21<(Nat.cast (R:=Int) (List.length x0))) then some (.ret ([],5,())) else (EF F n0 93 [.o (.agg [{ t:=VT.sl 1 (VT.sl 1 (tI)),x:=x1 }]),vI ((Nat.cast (R:=Int) (List.length x0)))] [.c (tI)]).bind fun x=>bif x.1 != 0 then some (.ret ([],x.1,())) else bif x2 != -1 then bif x2 != -2 then bif decide (x2<0) then some (.ret ([],3,())) else (EF F n0 94 [.o (.agg [{ t:=VT.sl 1 (VT.sl 1 (tI)),x:=x1 }])] [.c (tI)]).bind fun x=>bif decide (x.1≤x2) then some (.ret ([],3,())) else bif mkB ((Nat.cast (R:=Int) (List.length x0))) ((Nat.cast (R:=Int) (List.length x0))) 24 then loopA 0 [tI,VT.sl 1 tN] (fun x=>bif decide (x.1<(Nat.cast (R:=Int) (List.length x0))) then (ix x0 x.1).bind fun y=>bif x2 != -2 then (ix x1 x.1).bind fun y_1=>(ix y_1 x2).bind fun y_2=>(EF F n0 63 [.o (.c ⟨VT.int IntKind.u64,IntKind.u64.wrap y_2⟩)] [.c tN]).bind fun x_1=>(EF F n0 95 [vN y,vN x_1.1] [.c tN]).bind fun x_2=>bif Nat.beq 1 1 && (decide (0≤x.1) && decide (Int.toNat x.1<List.length x.2.1)) then x.2.1[Int.toNat x.1]?.bind fun el'=>some (.cont 0 [tI,VT.sl 1 tN] (IntKind.i64.wrap (x.1+1),List.set x.2.1 (Int.toNat x.1) x_2.1,())) else none else (EF F n0 96 [vN y] [.c tN]).bind fun x_1=>bif Nat.beq 1 1 && (decide (0≤x.1) && decide (Int.toNat x.1<List.length x.2.1)) then x.2.1[Int.toNat x.1]?.bind fun el'=>some (.cont 0 [tI,VT.sl 1 tN] (IntKind.i64.wrap (x.1+1),List.set x.2.1 (Int.toNat x.1) x_1.1,())) else none else some (.ret (x.2.1,0,()))) F (0,List.replicate ((Nat.cast (R:=Int) (List.length x0))).toNat [],()) else none else bif mkB ((Nat.cast (R:=Int) (List.length x0))) ((Nat.cast (R:=Int) (List.length x0))) 24 then loopA 0 [tI,VT.sl 1 tN] (fun x=>bif decide (x.1<(Nat.cast (R:=Int) (List.length x0))) then (ix x0 x.1).bind fun y=>bif x2 != -2 then (ix x1 x.1).bind fun y_1=>(ix y_1 x2).bind fun y_2=>(EF F n0 63 [.o (.c ⟨VT.int IntKind.u64,IntKind.u64.wrap y_2⟩)] [.c tN]).bind fun x_1=>(EF F n0 95 [vN y,vN x_1.1] [.c tN]).bind fun x_2=>bif Nat.beq 1 1 && (decide (0≤x.1) && decide (Int.toNat x.1<List.length x.2.1)) then x.2.1[Int.toNat x.1]?.bind fun el'=>some (.cont 0 [tI,VT.sl 1 tN] (IntKind.i64.wrap (x.1+1),List.set x.2.1 (Int.toNat x.1) x_2.1,())) else none else (EF F n0 96 [vN y] [.c tN]).bind fun x_1=>bif Nat.beq 1 1 && (decide (0≤x.1) && decide (Int.toNat x.1<List.length x.2.1)) then x.2.1[Int.toNat x.1]?.bind fun el'=>some (.cont 0 [tI,VT.sl 1 tN] (IntKind.i64.wrap (x.1+1),List.set x.2.1 (Int.toNat x.1) x_1.1,())) else none else some (.ret (x.2.1,0,()))) F (0,List.replicate ((Nat.cast (R:=Int) (List.length x0))).toNat [],()) else none else bif mkB ((Nat.cast (R:=Int) (List.length x0))) ((Nat.cast (R:=Int) (List.length x0))) 24 then loopA 0 [tI,VT.sl 1 tN] (fun x=>bif decide (x.1<(Nat.cast (R:=Int) (List.length x0))) then (ix x0 x.1).bind fun y=>(EF F n0 96 [vN y] [.c tN]).bind fun x_1=>bif Nat.beq 1 1 && (decide (0≤x.1) && decide (Int.toNat x.1<List.length x.2.1)) then x.2.1[Int.toNat x.1]?.bind fun el'=>some (.cont 0 [tI,VT.sl 1 tN] (IntKind.i64.wrap (x.1+1),List.set x.2.1 (Int.toNat x.1) x_1.1,())) else none else some (.ret (x.2.1,0,()))) F (0,List.replicate ((Nat.cast (R:=Int) (List.length x0))).toNat [],()) else none):=by kernel_rfl
theorem report_explain_m {F:Nat} (n0:Nat) (x0_0:VT.den (.sl 1 (.int .i64))) (x0_1:VT.den (.sl 1 (.int .i64))) (x1:VT.den (.sl 1 .nat)) (x2 x3_0 x3_1:Int):EF F (n0+1) 46 [.o (.agg [⟨(.sl 1 (.int .i64)),x0_0⟩,⟨(.sl 1 (.int .i64)),x0_1⟩]),.o (.c ⟨(.sl 1 .nat),x1⟩),.o (.c ⟨(.int .i64),x2⟩),.o (.agg [⟨(.int .i64),x3_0⟩,⟨(.int .i64),x3_1⟩])] [.c .str,.c (.int .i64)]=unwrapA ((EF F n0 25 [vI 1,vI x3_0] [.c tS,.c (tI)]).bind fun x=>bif x.2.1 != 0 then some (.ret ([],x.2.1,())) else (EF F n0 97 [.o (.agg [⟨VT.sl 1 (tI),x0_0⟩,⟨VT.sl 1 (tI),x0_1⟩]),.o (.c ⟨VT.sl 1 tN,x1⟩)] [.agg [tB,tN,tN],.c (tI)]).bind fun x_1=>bif x_1.2.2.2.1 != 0 then some (.ret ([],x_1.2.2.2.1,())) else (EF F n0 98 [.o (.agg [⟨tB,x_1.1⟩,⟨tN,x_1.2.1⟩,⟨tN,x_1.2.2.1⟩]),vI 2,vI 1] [.agg [tB,tN,tI],.c (tI)]).bind fun x_2=>bif x_2.2.2.2.1 != 0 then some (.ret ([],x_2.2.2.2.1,())) else (EF F n0 99 [.o (.agg [⟨tB,x_2.1⟩,⟨tN,x_2.2.1⟩,⟨tI,x_2.2.2.1⟩])] [.c tS,.c (tI)]).bind fun x_3=>bif x_3.2.1 != 0 then some (.ret ([],x_3.2.1,())) else (EF F n0 100 [vI x2] [.c tS]).bind fun x_4=>bif strB (List.length x_4.1) [32].length then bif strB (x_4.1 ++ [32]).length (List.length x.1) then bif strB (x_4.1 ++ [32] ++ x.1).length [32,99,97,116,101,103,111,114,121,32].length then (EF F n0 100 [vI x3_1] [.c tS]).bind fun x_5=>bif strB (x_4.1 ++ [32] ++ x.1 ++ [32,99,97,116,101,103,111,114,121,32]).length (List.length x_5.1) then bif strB (x_4.1 ++ [32] ++ x.1 ++ [32,99,97,116,101,103,111,114,121,32] ++ x_5.1).length [32,109,101,97,110,32].length then bif strB (x_4.1 ++ [32] ++ x.1 ++ [32,99,97,116,101,103,111,114,121,32] ++ x_5.1 ++ [32,109,101,97,110,32]).length (List.length x_3.1) then some (.ret (x_4.1 ++ [32] ++ x.1 ++ [32,99,97,116,101,103,111,114,121,32] ++ x_5.1 ++ [32,109,101,97,110,32] ++ x_3.1,0,())) else none else none else none else none else none else none):=by kernel_rfl
theorem grid_Prior_m {F:Nat} (n0:Nat) (x0_0:VT.den (.sl 1 (.int .i64))) (x0_1:VT.den (.sl 1 (.int .i64))):EF F (n0+1) 90 [.o (.agg [⟨(.sl 1 (.int .i64)),x0_0⟩,⟨(.sl 1 (.int .i64)),x0_1⟩])] [.c (.sl 1 .nat),.c (.int .i64)]=unwrapA ((EF F n0 150 [.o (.agg [⟨VT.sl 1 (tI),x0_0⟩,⟨VT.sl 1 (tI),x0_1⟩])] [.c (tI)]).bind fun x=>bif x.1 != 0 then some (.ret ([],x.1,())) else bif mkB ((Nat.cast (R:=Int) (List.length x0_1))) ((Nat.cast (R:=Int) (List.length x0_1))) 24 then loopA 0 [tI,VT.sl 1 tN] (fun x=>bif decide (x.1<(Nat.cast (R:=Int) (List.length x0_1))) then (ix x0_1 x.1).bind fun y=>(EF F n0 63 [.o (.c ⟨VT.int IntKind.u64,IntKind.u64.wrap y⟩)] [.c tN]).bind fun x_1=>bif Nat.beq 1 1 && (decide (0≤x.1) && decide (Int.toNat x.1<List.length x.2.1)) then x.2.1[Int.toNat x.1]?.bind fun el'=>some (.cont 0 [tI,VT.sl 1 tN] (IntKind.i64.wrap (x.1+1),List.set x.2.1 (Int.toNat x.1) x_1.1,())) else none else some (.ret (x.2.1,0,()))) F (0,List.replicate ((Nat.cast (R:=Int) (List.length x0_1))).toNat [],()) else none):=by kernel_rfl
theorem blueprint_numbered_m {F:Nat} (n0:Nat) (x0:Int):EF F (n0+1) 91 [.o (.c ⟨(.int .i64),x0⟩)] [.c .bool]=unwrapA (bif decide (1≤x0) then some (.ret (decide (x0≤9999999),())) else some (.ret (false,()))):=by kernel_rfl
theorem blueprint_checkItem_m {F:Nat} (n0:Nat) (x0_0:Int) (x0_1:List UInt8) (x0_2 x0_3 x0_4 x0_5 x0_6 x0_7:Int) (x0_8:VT.den (.sl 1 (.sl 1 (.int .i64)))) (x1:Int):EF F (n0+1) 92 [.o (.agg [⟨(.int .i64),x0_0⟩,⟨.str,x0_1⟩,⟨(.int .i64),x0_2⟩,⟨(.int .i64),x0_3⟩,⟨(.int .i64),x0_4⟩,⟨(.int .i64),x0_5⟩,⟨(.int .i64),x0_6⟩,⟨(.int .i64),x0_7⟩,⟨(.sl 1 (.sl 1 (.int .i64))),x0_8⟩]),.o (.c ⟨(.int .i64),x1⟩)] [.c (.int .i64)]=unwrapA ((EF F n0 151 [vS x0_1] [.c tB]).bind fun x=>bif !x.1 then some (.ret (2,())) else bif decide (x0_2<0) then some (.ret (3,())) else bif decide (9999999<x0_2) then some (.ret (3,())) else bif decide (x0_3<0) then some (.ret (3,())) else bif decide (9999999<x0_3) then some (.ret (3,())) else bif decide (x0_4<0) then some (.ret (3,())) else bif decide (2000<x0_4) then some (.ret (3,())) else bif decide (x0_5<1) then some (.ret (3,())) else bif decide (2000<x0_5) then some (.ret (3,())) else bif decide (x0_6<1) then some (.ret (3,())) else bif decide (5<x0_6) then some (.ret (3,())) else bif decide (x0_7<0) then some (.ret (3,())) else bif decide (10<x0_7) then some (.ret (3,())) else (EF F n0 93 [.o (.agg [{ t:=VT.sl 1 (VT.sl 1 (tI)),x:=x0_8 }]),vI x1] [.c (tI)]).bind fun x=>some (.ret (x.1,()))):=by kernel_rfl
theorem model_Valid_m {F:Nat} (n0:Nat) (x0:VT.den (.sl 1 (.sl 1 (.int .i64)))) (x1:Int):EF F (n0+1) 93 [.o (.agg [⟨(.sl 1 (.sl 1 (.int .i64))),x0⟩]),.o (.c ⟨(.int .i64),x1⟩)] [.c (.int .i64)]=unwrapA (bif decide (x1<1) then some (.ret (1,())) else bif decide (21<x1) then some (.ret (1,())) else bif (Nat.cast (R:=Int) (List.length x0)) != x1 then some (.ret (1,())) else (ix x0 0).bind fun y=>bif decide ((Nat.cast (R:=Int) y.length)<2) then some (.ret (3,())) else bif decide (6<(Nat.cast (R:=Int) y.length)) then some (.ret (3,())) else loopA 0 [tI,tI] (fun x=>bif decide (x.1<(Nat.cast (R:=Int) (List.length x0))) then (ix x0 x.1).bind fun y_1=>bif (Nat.cast (R:=Int) y_1.length) != (Nat.cast (R:=Int) y.length) then some (.ret (1,())) else loopA 1 [tI,tI,tI] (fun x_1=>bif decide (x_1.1<(Nat.cast (R:=Int) y_1.length)) then (ix y_1 x_1.1).bind fun y=>bif decide (y<1) then some (.ret (3,())) else bif decide (1000<y) then some (.ret (3,())) else some (.cont 1 [tI,tI,tI] (IntKind.i64.wrap (x_1.1+1),IntKind.i64.wrap (x_1.2.1+y),x_1.2.2.1,())) else bif x_1.2.1 != 1000 then some (.ret (19,())) else some (.cont 0 [tI,tI] (IntKind.i64.wrap (x.1+1),x_1.2.2.1,()))) F (0,0,x.2.1,()) else some (.ret (0,()))) F (0,0,())):=by kernel_rfl
theorem model_Categories_m {F:Nat} (n0:Nat) (x0:VT.den (.sl 1 (.sl 1 (.int .i64)))):EF F (n0+1) 94 [.o (.agg [⟨(.sl 1 (.sl 1 (.int .i64))),x0⟩])] [.c (.int .i64)]=unwrapA (bif (Nat.cast (R:=Int) (List.length x0)) == 0 then some (.ret (0,())) else (ix x0 0).bind fun y=>some (.ret ((Nat.cast (R:=Int) y.length),()))):=by kernel_rfl
theorem estimate_Mean_m {F:Nat} (n0:Nat) (x0_0:VT.den (.sl 1 (.int .i64))) (x0_1:VT.den (.sl 1 (.int .i64))) (x1:VT.den (.sl 1 .nat)):EF F (n0+1) 97 [.o (.agg [⟨(.sl 1 (.int .i64)),x0_0⟩,⟨(.sl 1 (.int .i64)),x0_1⟩]),.o (.c ⟨(.sl 1 .nat),x1⟩)] [.agg [.bool,.nat,.nat],.c (.int .i64)]=unwrapA ((EF F n0 152 [.o (.agg [⟨VT.sl 1 (tI),x0_0⟩,⟨VT.sl 1 (tI),x0_1⟩]),.o (.c ⟨VT.sl 1 tN,x1⟩)] [.agg [tB,tN,tN],.c (tI)]).bind fun x=>some (.ret (x.1,x.2.1,x.2.2.1,x.2.2.2.1,()))):=by kernel_rfl
theorem grid_Valid_m {F:Nat} (n0:Nat) (x0_0:VT.den (.sl 1 (.int .i64))) (x0_1:VT.den (.sl 1 (.int .i64))):EF F (n0+1) 150 [.o (.agg [⟨(.sl 1 (.int .i64)),x0_0⟩,⟨(.sl 1 (.int .i64)),x0_1⟩])] [.c (.int .i64)]=unwrapA (bif decide (21<(Nat.cast (R:=Int) (List.length x0_0))) then some (.ret (5,())) else bif (Nat.cast (R:=Int) (List.length x0_0)) == 0 then some (.ret (20,())) else bif (Nat.cast (R:=Int) (List.length x0_1)) != (Nat.cast (R:=Int) (List.length x0_0)) then some (.ret (1,())) else loopA 0 [tI,tI] (fun x=>bif decide (x.1<(Nat.cast (R:=Int) (List.length x0_0))) then (ix x0_0 x.1).bind fun y=>bif decide (y < -1000) then some (.ret (3,())) else bif decide (1000<y) then some (.ret (3,())) else (ix x0_1 x.1).bind fun y=>bif decide (y<1) then some (.ret (3,())) else (ix x0_1 x.1).bind fun y=>bif decide (1000<y) then some (.ret (3,())) else some (.cont 0 [tI,tI] (IntKind.i64.wrap (x.1+1),x.2.1,())) else loopA 0 [tI,tI] (fun x_1=>bif decide (x_1.1<(Nat.cast (R:=Int) (List.length x0_0))) then (ix x0_0 x_1.1).bind fun y=>(ix x0_0 (IntKind.i64.wrap (x_1.1-1))).bind fun y_1=>bif decide (y≤y_1) then some (.ret (23,())) else some (.cont 0 [tI,tI] (IntKind.i64.wrap (x_1.1+1),x_1.2.1,())) else some (.ret (0,()))) F (1,x.2.1,())) F (0,0,())):=by kernel_rfl
theorem content_Valid_m {F:Nat} (n0:Nat) (x0:List UInt8):EF F (n0+1) 151 [.o (.c ⟨.str,x0⟩)] [.c .bool]=unwrapA (bif decide (24<(Nat.cast (R:=Int) (List.length x0))) then some (.ret (false,())) else (EF F n0 198 [vS x0] [.agg [tS,tS,tS,tS,tS],.c (tI),.c tB]).bind fun x=>bif !x.2.2.2.2.2.2.1 then some (.ret (false,())) else (sub [x.1,x.2.1,x.2.2.1,x.2.2.2.1,x.2.2.2.2.1] 0 x.2.2.2.2.2.1).bind fun m=>loopA 0 [tI,tB] (fun x=>bif decide (x.1<(Nat.cast (R:=Int) m.length)) then (ix m x.1).bind fun y=>(EF F n0 199 [vS y] [.c tB]).bind fun x_1=>bif !x_1.1 then some (.ret (false,())) else some (.cont 0 [tI,tB] (IntKind.i64.wrap (x.1+1),x.2.1,())) else some (.ret (true,()))) F (0,false,())):=by kernel_rfl
theorem grid_Mean_m {F:Nat} (n0:Nat) (x0_0:VT.den (.sl 1 (.int .i64))) (x0_1:VT.den (.sl 1 (.int .i64))) (x1:VT.den (.sl 1 .nat)):EF F (n0+1) 152 [.o (.agg [⟨(.sl 1 (.int .i64)),x0_0⟩,⟨(.sl 1 (.int .i64)),x0_1⟩]),.o (.c ⟨(.sl 1 .nat),x1⟩)] [.agg [.bool,.nat,.nat],.c (.int .i64)]=unwrapA ((EF F n0 200 [.o (.agg [⟨VT.sl 1 (tI),x0_0⟩,⟨VT.sl 1 (tI),x0_1⟩]),.o (.c ⟨VT.sl 1 tN,x1⟩)] [.agg [tB,tN],.agg [tB,tN],.agg [tB,tN],.c (tI)]).bind fun x=>bif x.2.2.2.2.2.2.1 != 0 then (EF F n0 201 [] [.agg [tB,tN,tN]]).bind fun x_1=>some (.ret (x_1.1,x_1.2.1,x_1.2.2.1,x.2.2.2.2.2.2.1,())) else (EF F n0 138 [.o (.agg [⟨tB,x.2.2.1⟩,⟨tN,x.2.2.2.1⟩]),.o (.agg [⟨tB,x.1⟩,⟨tN,x.2.1⟩])] [.agg [tB,tN,tN],.c tB]).bind fun x=>some (.ret (x.1,x.2.1,x.2.2.1,0,()))):=by kernel_rfl
theorem content_segments_m {F:Nat} (n0:Nat) (x0:List UInt8):EF F (n0+1) 198 [.o (.c ⟨.str,x0⟩)] [.agg [.str,.str,.str,.str,.str],.c (.int .i64),.c .bool]=unwrapA ((EF F n0 194 [vS x0,vS [46]] [.c tS,.c tS,.c tB]).bind fun x=>bif !x.2.2.1 then some (.ret (x.1,[],[],[],[],IntKind.i64.wrap (0+1),true,())) else (EF F n0 194 [vS x.2.1,vS [46]] [.c tS,.c tS,.c tB]).bind fun x_1=>bif !x_1.2.2.1 then some (.ret (x.1,x_1.1,[],[],[],IntKind.i64.wrap (IntKind.i64.wrap (0+1)+1),true,())) else (EF F n0 194 [vS x_1.2.1,vS [46]] [.c tS,.c tS,.c tB]).bind fun x_2=>bif !x_2.2.2.1 then some (.ret (x.1,x_1.1,x_2.1,[],[],IntKind.i64.wrap (IntKind.i64.wrap (IntKind.i64.wrap (0+1)+1)+1),true,())) else (EF F n0 194 [vS x_2.2.1,vS [46]] [.c tS,.c tS,.c tB]).bind fun x_3=>bif !x_3.2.2.1 then some (.ret (x.1,x_1.1,x_2.1,x_3.1,[],IntKind.i64.wrap (IntKind.i64.wrap (IntKind.i64.wrap (IntKind.i64.wrap (0+1)+1)+1)+1),true,())) else (EF F n0 194 [vS x_3.2.1,vS [46]] [.c tS,.c tS,.c tB]).bind fun x_4=>bif !x_4.2.2.1 then some (.ret (x.1,x_1.1,x_2.1,x_3.1,x_4.1,IntKind.i64.wrap (IntKind.i64.wrap (IntKind.i64.wrap (IntKind.i64.wrap (IntKind.i64.wrap (0+1)+1)+1)+1)+1),true,())) else some (.ret (x.1,x_1.1,x_2.1,x_3.1,x_4.1,0,false,()))):=by kernel_rfl
theorem content_validSegment_m {F:Nat} (n0:Nat) (x0:List UInt8):EF F (n0+1) 199 [.o (.c ⟨.str,x0⟩)] [.c .bool]=unwrapA (loopA 0 [tI,tB] (fun x=>bif decide (x.1<(Nat.cast (R:=Int) (List.length x0))) then (ix x0 x.1).bind fun b=>bif decide ((Nat.cast (R:=Int) b.toNat)<65) then (ix x0 x.1).bind fun b=>bif decide ((Nat.cast (R:=Int) b.toNat)<48) then some (.ret (false,())) else (ix x0 x.1).bind fun b=>bif decide (57<(Nat.cast (R:=Int) b.toNat)) then some (.ret (false,())) else some (.cont 0 [tI,tB] (IntKind.i64.wrap (x.1+1),x.2.1,())) else (ix x0 x.1).bind fun b=>bif decide (90<(Nat.cast (R:=Int) b.toNat)) then (ix x0 x.1).bind fun b=>bif decide ((Nat.cast (R:=Int) b.toNat)<48) then some (.ret (false,())) else (ix x0 x.1).bind fun b=>bif decide (57<(Nat.cast (R:=Int) b.toNat)) then some (.ret (false,())) else some (.cont 0 [tI,tB] (IntKind.i64.wrap (x.1+1),x.2.1,())) else some (.cont 0 [tI,tB] (IntKind.i64.wrap (x.1+1),x.2.1,())) else bif decide (1≤(Nat.cast (R:=Int) (List.length x0))) then some (.ret (decide ((Nat.cast (R:=Int) (List.length x0))≤8),())) else some (.ret (false,()))) F (0,false,())):=by kernel_rfl
theorem grid_sums_m {F:Nat} (n0:Nat) (x0_0:VT.den (.sl 1 (.int .i64))) (x0_1:VT.den (.sl 1 (.int .i64))) (x1:VT.den (.sl 1 .nat)):EF F (n0+1) 200 [.o (.agg [⟨(.sl 1 (.int .i64)),x0_0⟩,⟨(.sl 1 (.int .i64)),x0_1⟩]),.o (.c ⟨(.sl 1 .nat),x1⟩)] [.agg [.bool,.nat],.agg [.bool,.nat],.agg [.bool,.nat],.c (.int .i64)]=unwrapA ((EF F n0 150 [.o (.agg [⟨VT.sl 1 (tI),x0_0⟩,⟨VT.sl 1 (tI),x0_1⟩])] [.c (tI)]).bind fun x=>bif x.1 != 0 then some (.ret (false,[],false,[],false,[],x.1,())) else bif (Nat.cast (R:=Int) (List.length x1)) != (Nat.cast (R:=Int) (List.length x0_0)) then some (.ret (false,[],false,[],false,[],1,())) else loopA 0 [tI,tB,tN,tB,tN,tB,tN] (fun x=>bif decide (x.1<(Nat.cast (R:=Int) (List.length x0_0))) then (ix x0_0 x.1).bind fun y=>(ix x1 x.1).bind fun y_1=>(EF F n0 130 [vB false,vN y_1] [.agg [tB,tN]]).bind fun x_1=>(EF F n0 61 [vI y] [.agg [tB,tN]]).bind fun x_2=>(EF F n0 121 [.o (.agg [⟨tB,x_1.1⟩,⟨tN,x_1.2.1⟩]),.o (.agg [⟨tB,x_2.1⟩,⟨tN,x_2.2.1⟩])] [.agg [tB,tN]]).bind fun x_3=>(EF F n0 157 [.o (.agg [⟨tB,x.2.2.2.2.2.1⟩,⟨tN,x.2.2.2.2.2.2.1⟩]),.o (.agg [⟨tB,x_1.1⟩,⟨tN,x_1.2.1⟩])] [.agg [tB,tN]]).bind fun x_4=>(EF F n0 157 [.o (.agg [⟨tB,x.2.2.2.1⟩,⟨tN,x.2.2.2.2.1⟩]),.o (.agg [⟨tB,x_3.1⟩,⟨tN,x_3.2.1⟩])] [.agg [tB,tN]]).bind fun x_5=>(EF F n0 121 [.o (.agg [⟨tB,x_3.1⟩,⟨tN,x_3.2.1⟩]),.o (.agg [⟨tB,x_2.1⟩,⟨tN,x_2.2.1⟩])] [.agg [tB,tN]]).bind fun x_6=>(EF F n0 157 [.o (.agg [⟨tB,x.2.1⟩,⟨tN,x.2.2.1⟩]),.o (.agg [⟨tB,x_6.1⟩,⟨tN,x_6.2.1⟩])] [.agg [tB,tN]]).bind fun x_7=>some (.cont 0 [tI,tB,tN,tB,tN,tB,tN] (IntKind.i64.wrap (x.1+1),x_7.1,x_7.2.1,x_5.1,x_5.2.1,x_4.1,x_4.2.1,())) else (EF F n0 74 [.o (.agg [⟨tB,x.2.2.2.2.2.1⟩,⟨tN,x.2.2.2.2.2.2.1⟩])] [.c (tI)]).bind fun x_1=>bif x_1.1 == 0 then some (.ret (false,[],false,[],false,[],20,())) else some (.ret (x.2.2.2.2.2.1,x.2.2.2.2.2.2.1,x.2.2.2.1,x.2.2.2.2.1,x.2.1,x.2.2.1,0,()))) F (0,false,[],false,[],false,[],())):=by kernel_rfl
end Go.Proofs.YtcggnmddcbhchaaGreatDoor
set_option linter.unusedSimpArgs false
set_option linter.unusedVariables false
namespace Go.Proofs.YtcggnmddcbhchaaGreatDoor
open Go.RowKit Lim
theorem loopA_list {R:Type} {dp:Nat} {ts:List VT} {step:denL ts→Option (Ans R)} {α β:Type} {n:Nat} (l:List α) (S:Nat→β→denL ts) (f:List α→β→Ans R) (I:Nat→β→Prop)
  (h1:∀k (hk:k<l.length) b,I k b→(step (S k b)=some (f (l[k] :: l.drop (k+1)) b)∧(f (l[k] :: l.drop (k+1)) b).out dp=true)∨∃b',step (S k b)=some (.cont dp ts (S (k+1) b'))∧I (k+1) b'∧f (l[k] :: l.drop (k+1)) b=f (l.drop (k+1)) b')
  (h2:∀b,I l.length b→step (S l.length b)=some (f [] b)∧(f [] b).out dp=true) (b0:β) (h0:I 0 b0) (hn:l.length<n):loopA dp ts step n (S 0 b0)=some (f l b0):=by
 have key:∀j k b,k+j=l.length→I k b→∀m,j<m→loopA dp ts step m (S k b)=some (f (l.drop k) b):=by
  intro j
  induction j with
  | zero =>
   intro k b hk hI m hm
   obtain ⟨m,rfl⟩:=Nat.exists_eq_succ_of_ne_zero (show m≠0 by omega)
   obtain rfl:k=l.length:=by omega
   rw [List.drop_length]
   exact loopA_end (h2 b hI).1 (h2 b hI).2
  | succ j ih =>
   intro k b hk hI m hm
   obtain ⟨m,rfl⟩:=Nat.exists_eq_succ_of_ne_zero (show m≠0 by omega)
   have hlt:k<l.length:=by omega
   rw [List.drop_eq_getElem_cons hlt]
   rcases h1 k hlt b hI with ⟨h3,h4⟩|⟨b',h3,h4,h5⟩
   ·exact loopA_end h3 h4
   ·rw [loopA_go h3,h5]
    exact ih (k+1) b' (by omega) h4 m (by omega)
 exact key l.length 0 b0 (by omega) h0 n hn
def okByte (b:UInt8):Bool:=!((decide ((b.toNat:Int)<65) || decide ((90:Int)<b.toNat)) && (decide ((b.toNat:Int)<48) || decide ((57:Int)<b.toNat)))
def segB (s:List UInt8):Bool:=s.all okByte && (decide ((1:Int)≤(s.length:Nat)) && decide (((s.length:Nat):Int)≤8))
def segL:Nat→List UInt8→List (List UInt8) × Bool
 | 0,_=>([],false)
 | n+1,s=>if (Lib.cut s [46]).2.2 then ((Lib.cut s [46]).1 :: (segL n (Lib.cut s [46]).2.1).1,(segL n (Lib.cut s [46]).2.1).2) else ([(Lib.cut s [46]).1],true)
def contentB (s:List UInt8):Bool:=!(decide ((24:Int)<(s.length:Nat))) && ((segL 5 s).2 && (segL 5 s).1.all segB)
theorem ok_step {α:Type} (b:UInt8) (c r:α):(bif decide ((b.toNat:Int)<65) then bif decide ((b.toNat:Int)<48) then r else bif decide (57<(b.toNat:Int)) then r else c else bif decide (90<(b.toNat:Int)) then bif decide ((b.toNat:Int)<48) then r else bif decide (57<(b.toNat:Int)) then r else c else c)=bif okByte b then c else r:=by
 unfold okByte
 cases decide ((b.toNat:Int)<65) <;> cases decide ((b.toNat:Int)<48) <;> cases decide (57<(b.toNat:Int)) <;> cases decide (90<(b.toNat:Int)) <;> rfl
theorem cut_any (s p:List UInt8):(Lib.cut s p).1.length≤s.length∧(Lib.cut s p).2.1.length≤s.length:=by
 unfold Lib.cut
 split
 ·refine ⟨?_,?_⟩
  ·show (s.take _).length≤_
   rw [List.length_take];omega
  ·show (s.drop _).length≤_
   rw [List.length_drop];omega
 ·exact ⟨Nat.le_refl _,Nat.zero_le _⟩
theorem cutK (n0:Nat) (s p:List UInt8):EF fuel (n0+1) 194 [vS s,vS p] [.c .str,.c .str,.c .bool]=bif capS s then some ((Lib.cut s p).1,(Lib.cut s p).2.1,(Lib.cut s p).2.2,()) else none:=by kernel_rfl
section
variable (n:Nat)
theorem cut_e (s:List UInt8) (hs:s.length≤24):EF fuel (n+1) 194 [vS s,vS [46]] [.c .str,.c .str,.c .bool]=some ((Lib.cut s [46]).1,(Lib.cut s [46]).2.1,(Lib.cut s [46]).2.2,()):=by
 rw [cutK,show capS s=true from Nat.ble_eq_true_of_le (by omega)]
 rfl
theorem vseg_e (s:List UInt8) (hs:s.length≤4294967296):EF fuel (n+1) 199 [vS s] gB=some (segB s,()):=by
 rw [content_validSegment_m n s]
 refine congrArg (a₂:=some (Ans.ret (segB s,()))) unwrapA ?_
 have e:segB s=(s.all okByte && (decide ((1:Int)≤(s.length:Nat)) && decide (((s.length:Nat):Int)≤8))):=rfl
 rw [e]
 refine loopA_list (ts:=[tI,tB]) s (fun k (_:Unit)=>((k:Int),false,())) (fun l _=>.ret ((l.all okByte && (decide ((1:Int)≤(s.length:Nat)) && decide (((s.length:Nat):Int)≤8))),())) (fun _ _=>True) (fun k hk _ _=>?_) (fun _ _=>?_) () trivial (fuel_lt (by omega))
 ·dsimp only
  rw [dlt hk,cond_true]
  rw [ix_lt hk]
  simp only [Option.bind_some]
  rw [ok_step,List.all_cons]
  cases okByte s[k]
  ·exact .inl ⟨rfl,rfl⟩
  ·exact .inr ⟨(),by rw [cond_true,w64n (by omega)],trivial,by rw [Bool.true_and]⟩
 ·dsimp only
  rw [dge (Nat.le_refl _),cond_false]
  cases decide ((1:Int)≤(s.length:Nat)) <;> exact ⟨rfl,rfl⟩
theorem w1:IntKind.i64.wrap (0+1)=1:=by decide +kernel
theorem segs_e (s:List UInt8) (hs:s.length≤24):∃(a b c d e:List UInt8) (k:Nat),EF fuel (n+2) 198 [vS s] [.agg [.str,.str,.str,.str,.str],.c (.int .i64),.c .bool]=some (a,b,c,d,e,(k:Int),(segL 5 s).2,())∧k≤5∧((segL 5 s).2=true→[a,b,c,d,e].take k=(segL 5 s).1)∧∀x∈[a,b,c,d,e],x.length≤24:=by
 rw [content_segments_m (n+1) s]
 have e2:IntKind.i64.wrap (IntKind.i64.wrap (0+1)+1)=2:=by decide +kernel
 have e3:IntKind.i64.wrap (IntKind.i64.wrap (IntKind.i64.wrap (0+1)+1)+1)=3:=by decide +kernel
 have e4:IntKind.i64.wrap (IntKind.i64.wrap (IntKind.i64.wrap (IntKind.i64.wrap (0+1)+1)+1)+1)=4:=by decide +kernel
 have e5:IntKind.i64.wrap (IntKind.i64.wrap (IntKind.i64.wrap (IntKind.i64.wrap (IntKind.i64.wrap (0+1)+1)+1)+1)+1)=5:=by decide +kernel
 have z:([]:List UInt8).length≤24:=Nat.zero_le _
 have five:∀{a b c d e:List UInt8},a.length≤24→b.length≤24→c.length≤24→d.length≤24→e.length≤24→∀x∈[a,b,c,d,e],x.length≤24:=by
  intro a b c d e h1 h2 h3 h4 h5 x hx
  simp only [List.mem_cons,List.not_mem_nil,or_false]at hx
  rcases hx with rfl|rfl|rfl|rfl|rfl <;> assumption
 have cs:∀t:List UInt8,t.length≤24→∃(a b:List UInt8) (o:Bool),Lib.cut t [46]=(a,b,o)∧a.length≤24∧b.length≤24∧EF fuel (n+1) 194 [vS t,vS [46]] [.c .str,.c .str,.c .bool]=some (a,b,o,()):=fun t ht=>⟨_,_,_,rfl,Nat.le_trans (cut_any t [46]).1 ht,Nat.le_trans (cut_any t [46]).2 ht,cut_e n t ht⟩
 obtain ⟨a0,b0,o0,k0,la0,lb0,c0⟩:=cs s hs
 obtain ⟨a1,b1,o1,k1,la1,lb1,c1⟩:=cs b0 lb0
 obtain ⟨a2,b2,o2,k2,la2,lb2,c2⟩:=cs b1 lb1
 obtain ⟨a3,b3,o3,k3,la3,lb3,c3⟩:=cs b2 lb2
 obtain ⟨a4,b4,o4,k4,la4,lb4,c4⟩:=cs b3 lb3
 have g:∀(m:Nat) {t a b:List UInt8},Lib.cut t [46]=(a,b,true)→segL (m+1) t=(a :: (segL m b).1,(segL m b).2):=fun m t a b h=>by rw [segL,h];rfl
 have q:∀(m:Nat) {t a b:List UInt8},Lib.cut t [46]=(a,b,false)→segL (m+1) t=([a],true):=fun m t a b h=>by rw [segL,h];rfl
 rw [bind_go c0,e5,e4,e3,e2,w1]
 cases o0
 ·rw [q 4 k0]
  exact ⟨a0,[],[],[],[],1,rfl,by omega,fun _=>rfl,five la0 z z z z⟩
 rw [Bool.not_true,cond_false,bind_go c1,g 4 k0]
 cases o1
 ·rw [q 3 k1]
  exact ⟨a0,a1,[],[],[],2,rfl,by omega,fun _=>rfl,five la0 la1 z z z⟩
 rw [Bool.not_true,cond_false,bind_go c2,g 3 k1]
 cases o2
 ·rw [q 2 k2]
  exact ⟨a0,a1,a2,[],[],3,rfl,by omega,fun _=>rfl,five la0 la1 la2 z z⟩
 rw [Bool.not_true,cond_false,bind_go c3,g 2 k2]
 cases o3
 ·rw [q 1 k3]
  exact ⟨a0,a1,a2,a3,[],4,rfl,by omega,fun _=>rfl,five la0 la1 la2 la3 z⟩
 rw [Bool.not_true,cond_false,bind_go c4,g 1 k3]
 cases o4
 ·rw [q 0 k4]
  exact ⟨a0,a1,a2,a3,a4,5,rfl,by omega,fun _=>rfl,five la0 la1 la2 la3 la4⟩
 ·rw [g 0 k4]
  exact ⟨a0,a1,a2,a3,a4,0,rfl,by omega,fun h=>absurd (show false=true from h) (by decide),five la0 la1 la2 la3 la4⟩
theorem content_e (s:List UInt8):EF fuel (n+3) 151 [vS s] gB=some (contentB s,()):=by
 rw [content_Valid_m (n+2) s]
 unfold contentB
 by_cases hs:24<s.length
 ·rw [decide_eq_true (show 24<(s.length:Int)by omega),cond_true]
  rfl
 rw [decide_eq_false (show ¬24<(s.length:Int)by omega),cond_false]
 obtain ⟨a,b,c,d,e,k,h,hk,hm,hl⟩:=segs_e n s (by omega)
 rw [bind_go h]
 dsimp only
 cases ho:(segL 5 s).2
 ·rfl
 have hm:=hm ho
 have hsub:sub [a,b,c,d,e] 0 (k:Int)=some ([a,b,c,d,e].take k):=sub_le (l:=[a,b,c,d,e]) (a:=0) (b:=k) (Nat.zero_le _) hk
 have hm2:∀x∈[a,b,c,d,e].take k,x.length≤24:=fun x hx=>hl x (List.mem_of_mem_take hx)
 have hml:([a,b,c,d,e].take k).length≤5:=by rw [List.length_take];simp only [List.length_cons,List.length_nil];omega
 rw [hm]at hsub hm2 hml
 rw [Bool.not_true,cond_false,bind_go hsub]
 generalize (segL 5 s).1=m at *
 refine congrArg (a₂:=some (Ans.ret (m.all segB,()))) unwrapA ?_
 refine loopA_list (ts:=[tI,tB]) m (fun k (_:Unit)=>((k:Int),false,())) (fun l _=>.ret (l.all segB,())) (fun _ _=>True) (fun k hk _ _=>?_) (fun _ _=>?_) () trivial (fuel_lt (by omega))
 ·dsimp only
  have hv:=vseg_e (n+1) m[k] (by have:=hm2 _ (List.getElem_mem hk);omega)
  rw [dlt hk,cond_true,bind_go (ix_lt hk),bind_go hv,List.all_cons]
  dsimp only
  cases segB m[k]
  ·exact .inl ⟨rfl,rfl⟩
  ·exact .inr ⟨(),by rw [Bool.not_true,cond_false,w64n (by omega)],trivial,by rw [Bool.true_and]⟩
 ·dsimp only
  rw [dge (Nat.le_refl _),cond_false]
  exact ⟨rfl,rfl⟩
end
end Go.Proofs.YtcggnmddcbhchaaGreatDoor
set_option linter.unusedSimpArgs false
set_option linter.unusedVariables false
namespace Go.Proofs.YtcggnmddcbhchaaGreatDoor
open Go.RowKit Lim
def rowE:List Int→Int→Int
 | [],s=>if s=1000 then 0 else 19
 | x :: r,s=>if x<1 then 3 else if 1000<x then 3 else rowE r (s+x)
def rowsE (c:Nat):List (List Int)→Int
 | []=>0
 | r :: l=>if r.length≠c then 1 else if rowE r 0≠0 then rowE r 0 else rowsE c l
def modelE (rows:List (List Int)) (k:Int):Int:=if k<1 then 1 else if 21<k then 1 else if (rows.length:Int)≠k then 1 else match rows with
 | []=>1
 | r :: _=>if r.length<2 then 3 else if 6<r.length then 3 else rowsE r.length rows
def riseE:List Int→Int→Int
 | [],_=>0
 | b :: r,a=>if b≤a then 23 else riseE r b
def pairsE (z:Int):List (Int × Int)→Int
 | []=>z
 | x :: r=>if x.1 < -1000 then 3 else if 1000<x.1 then 3 else if x.2<1 then 3 else if 1000<x.2 then 3 else pairsE z r
def gridE (p w:List Int):Int:=if 21<p.length then 5 else match p with
 | []=>20
 | a :: q=>if w.length≠p.length then 1 else pairsE (riseE q a) (p.zip w)
abbrev vG (p w:List Int):V:=.o (.agg [⟨.sl 1 (.int .i64),p⟩,⟨.sl 1 (.int .i64),w⟩])
abbrev vM (rows:List (List Int)):V:=.o (.agg [⟨.sl 1 (.sl 1 (.int .i64)),rows⟩])
def rowR (i:Nat) (l:List Int) (s:Int):Ans (denL gI.ts):=if rowE l s=0 then .cont 0 [tI,tI] (((i+1:Nat):Int),0,()) else .ret (rowE l s,())
theorem rowR_ret {i:Nat} {l:List Int} {s e:Int} (h:rowE l s=e) (he:e≠0):rowR i l s=.ret (e,()):=by unfold rowR;rw [h,if_neg he]
theorem pairs_ok {z:Int}:∀{l:List (Int × Int)},pairsE z l=0→z=0∧∀x∈l,(-1000≤x.1∧x.1≤1000)∧(1≤x.2∧x.2≤1000)
 | [],h=>⟨h,fun x hx=>by cases hx⟩
 | x :: l,h=>by
  rw [pairsE]at h
  by_cases h1:x.1 < -1000
  ·rw [if_pos h1]at h;omega
  by_cases h2:1000<x.1
  ·rw [if_neg h1,if_pos h2]at h;omega
  by_cases h3:x.2<1
  ·rw [if_neg h1,if_neg h2,if_pos h3]at h;omega
  by_cases h4:1000<x.2
  ·rw [if_neg h1,if_neg h2,if_neg h3,if_pos h4]at h;omega
  rw [if_neg h1,if_neg h2,if_neg h3,if_neg h4]at h
  obtain ⟨h5,h6⟩:=pairs_ok h
  refine ⟨h5,fun y hy=>?_⟩
  rcases List.mem_cons.1 hy with rfl|hy
  ·omega
  ·exact h6 y hy
structure GridOK (p w:List Int):Prop where
 pos:1≤p.length
 most:p.length≤21
 len:w.length=p.length
 pts:∀k (h:k<p.length),-1000≤p[k]∧p[k]≤1000
 wts:∀k (h:k<w.length),1≤w[k]∧w[k]≤1000
theorem grid_ok {p w:List Int} (h:gridE p w=0):GridOK p w:=by
 unfold gridE at h
 by_cases h1:21<p.length
 ·rw [if_pos h1]at h;omega
 rw [if_neg h1]at h
 cases p with
 | nil=>dsimp only at h;omega
 | cons a q =>
  dsimp only at h
  by_cases h2:w.length=(a :: q).length
  case neg=>rw [if_pos h2]at h;omega
  rw [if_neg (fun h=>h h2)]at h
  have h3:=(pairs_ok h).2
  have hz:∀k (h:k<(a :: q).length),(-1000≤(a :: q)[k]∧(a :: q)[k]≤1000)∧(1≤w[k]∧w[k]≤1000):=fun k hk=>by
   have hk2:k<((a :: q).zip w).length:=by rw [List.length_zip];omega
   have:=h3 _ (List.getElem_mem hk2)
   rwa [List.getElem_zip]at this
  exact ⟨by simp,by omega,h2,fun k hk=>(hz k hk).1,fun k hk=>(hz k (by omega)).2⟩
theorem row_okE:∀{l:List Int} {s:Int},rowE l s=0→∀x∈l,1≤x∧x≤1000
 | [],_,_,x,hx=>by cases hx
 | y :: l,s,h,x,hx=>by
  rw [rowE]at h
  by_cases h1:y<1
  ·rw [if_pos h1]at h;omega
  by_cases h2:1000<y
  ·rw [if_neg h1,if_pos h2]at h;omega
  rw [if_neg h1,if_neg h2]at h
  rcases List.mem_cons.1 hx with rfl|hx
  ·omega
  ·exact row_okE h x hx
theorem rows_okE {c:Nat}:∀{l:List (List Int)},rowsE c l=0→∀r∈l,r.length=c∧∀x∈r,1≤x∧x≤1000
 | [],_,r,hr=>by cases hr
 | y :: l,h,r,hr=>by
  rw [rowsE]at h
  by_cases h1:y.length=c
  case neg=>rw [if_pos h1]at h;omega
  rw [if_neg (fun h=>h h1)]at h
  by_cases h2:rowE y 0=0
  case neg=>rw [if_pos h2]at h;omega
  rw [if_neg (fun h=>h h2)]at h
  rcases List.mem_cons.1 hr with rfl|hr
  ·exact ⟨h1,row_okE h2⟩
  ·exact rows_okE h r hr
structure ModelOK (rows:List (List Int)) (k:Int):Prop where
 lo:1≤k
 hi:k≤21
 len:(rows.length:Int)=k
 cats:2≤(rows.headD []).length∧(rows.headD []).length≤6
 row:∀i (h:i<rows.length),rows[i].length=(rows.headD []).length
 val:∀i (h:i<rows.length) j (h2:j<rows[i].length),1≤rows[i][j]∧rows[i][j]≤1000
theorem model_ok {rows:List (List Int)} {k:Int} (h:modelE rows k=0):ModelOK rows k:=by
 unfold modelE at h
 by_cases h1:k<1
 ·rw [if_pos h1]at h;omega
 by_cases h2:21<k
 ·rw [if_neg h1,if_pos h2]at h;omega
 by_cases h3:(rows.length:Int)=k
 case neg=>rw [if_neg h1,if_neg h2,if_pos h3]at h;omega
 rw [if_neg h1,if_neg h2,if_neg (fun h=>h h3)]at h
 cases rows with
 | nil=>dsimp only at h;omega
 | cons r l =>
  dsimp only at h
  by_cases h4:r.length<2
  ·rw [if_pos h4]at h;omega
  by_cases h5:6<r.length
  ·rw [if_neg h4,if_pos h5]at h;omega
  rw [if_neg h4,if_neg h5]at h
  have h6:=rows_okE h
  exact ⟨by omega,by omega,h3,⟨by show 2≤r.length;omega,by show r.length≤6;omega⟩,fun i hi=>(h6 _ (List.getElem_mem hi)).1,fun i hi j hj=>(h6 _ (List.getElem_mem hi)).2 _ (List.getElem_mem hj)⟩
section
variable (n:Nat)
theorem model_e (rows:List (List Int)) (k:Int):EF fuel (n+1) 93 [vM rows,vI k] gI=some (modelE rows k,()):=by
 rw [model_Valid_m n rows k]
 unfold modelE
 by_cases h1:k<1
 ·rw [decide_eq_true h1,cond_true,if_pos h1];rfl
 by_cases h2:21<k
 ·rw [decide_eq_false h1,cond_false,decide_eq_true h2,cond_true,if_neg h1,if_pos h2];rfl
 rw [decide_eq_false h1,cond_false,decide_eq_false h2,cond_false,if_neg h1,if_neg h2]
 by_cases h3:(rows.length:Int)=k
 case neg =>
  rw [show ((rows.length:Int) != k)=true from by simpa using h3,if_pos h3];rfl
 rw [show ((rows.length:Int) != k)=false from by simpa using h3,if_neg (fun h=>h h3),cond_false]
 cases hr:rows with
 | nil=>rw [hr]at h3;simp at h3;omega
 | cons r0 l0 =>
 rw [show ix (r0 :: l0) 0=some r0 from rfl]
 simp only [Option.bind_some]
 by_cases h4:r0.length<2
 ·rw [decide_eq_true (show (r0.length:Int)<2 by omega),cond_true,if_pos h4];rfl
 by_cases h5:6<r0.length
 ·rw [decide_eq_false (show ¬(r0.length:Int)<2 by omega),cond_false,decide_eq_true (show (6:Int)<(r0.length:Int)by omega),cond_true,if_neg h4,if_pos h5];rfl
 rw [decide_eq_false (show ¬(r0.length:Int)<2 by omega),cond_false,decide_eq_false (show ¬(6:Int)<(r0.length:Int)by omega),cond_false,if_neg h4,if_neg h5,←hr]
 have hlen:rows.length≤21:=by omega
 clear hr h3
 generalize r0.length=c at *
 refine congrArg (a₂:=some (Ans.ret (rowsE c rows,()))) unwrapA ?_
 refine loopA_list (ts:=[tI,tI]) rows (fun k (_:Unit)=>((k:Int),0,())) (fun l _=>.ret (rowsE c l,())) (fun _ _=>True) (fun i hi _ _=>?_) (fun _ _=>?_) () trivial (fuel_lt (by omega))
 ·dsimp only
  rw [dlt hi,cond_true,bind_go (ix_lt hi)]
  generalize rows[i]=r
  rw [rowsE]
  by_cases h6:r.length=c
  case neg =>
   rw [show ((r.length:Int) != (c:Int))=true from by simpa using fun h=>h6 (by omega),cond_true,if_pos h6]
   exact .inl ⟨rfl,rfl⟩
  rw [show ((r.length:Int) != (c:Int))=false from by rw [h6];simp,cond_false,if_neg (fun h=>h h6)]
  suffices hin:∀{o:Option (Ans (denL gI.ts))},o=some (rowR i r 0)→(o=some (.ret ((if rowE r 0≠0 then rowE r 0 else rowsE c (rows.drop (i+1))),()))∧(Ans.ret (((if rowE r 0≠0 then rowE r 0 else rowsE c (rows.drop (i+1))),()):denL gI.ts)).out 0=true)∨∃b':Unit,o=some (.cont 0 [tI,tI] (((i+1:Nat):Int),0,()))∧True∧Ans.ret (((if rowE r 0≠0 then rowE r 0 else rowsE c (rows.drop (i+1))),()):denL gI.ts)=.ret (rowsE c (rows.drop (i+1)),())from
   hin (loopA_list (ts:=[tI,tI,tI]) r (fun j (s:Int)=>((j:Int),s,0,())) (rowR i) (fun j s=>0≤s∧s≤1000*(j:Int)) (fun j hj s hs=>by
    dsimp only
    rw [dlt hj,cond_true,bind_go (ix_lt hj)]
    generalize r[j]=x
    by_cases c1:x<1
    ·rw [decide_eq_true c1,cond_true,rowR_ret (e:=3) (by rw [rowE,if_pos c1]) (by omega)]
     exact .inl ⟨rfl,rfl⟩
    by_cases c2:1000<x
    ·rw [decide_eq_false c1,cond_false,decide_eq_true c2,cond_true,rowR_ret (e:=3) (by rw [rowE,if_neg c1,if_pos c2]) (by omega)]
     exact .inl ⟨rfl,rfl⟩
    rw [decide_eq_false c1,cond_false,decide_eq_false c2,cond_false,w64n (by omega),w64 (by omega) (by omega)]
    refine .inr ⟨s+x,rfl,by omega,?_⟩
    unfold rowR
    rw [rowE,if_neg c1,if_neg c2]) (fun s hs=>by
    dsimp only
    rw [dge (Nat.le_refl _),cond_false]
    by_cases c1:s=1000
    ·rw [show (s != 1000)=false by simpa using c1,cond_false,w64n (by omega)]
     have e:rowR i [] s=.cont 0 [tI,tI] (((i+1:Nat):Int),0,()):=by unfold rowR;rw [rowE,if_pos c1];rfl
     rw [e]
     exact ⟨rfl,rfl⟩
    ·rw [show (s != 1000)=true by simpa using c1,cond_true,rowR_ret (e:=19) (by rw [rowE,if_neg c1]) (by omega)]
     exact ⟨rfl,rfl⟩) 0 (by omega) (fuel_lt (by omega)))
  rintro o rfl
  by_cases h7:rowE r 0=0
  ·rw [if_neg (fun h=>h h7)]
   exact .inr ⟨(),by unfold rowR;rw [if_pos h7],trivial,rfl⟩
  ·rw [if_pos h7,rowR_ret rfl h7]
   exact .inl ⟨rfl,rfl⟩
 ·dsimp only
  rw [dge (Nat.le_refl _),cond_false]
  exact ⟨rfl,rfl⟩
theorem grid_e (p w:List Int):EF fuel (n+1) 150 [vG p w] gI=some (gridE p w,()):=by
 rw [grid_Valid_m n p w]
 unfold gridE
 by_cases h1:21<p.length
 ·rw [decide_eq_true (show (21:Int)<(p.length:Int)by omega),cond_true,if_pos h1];rfl
 rw [decide_eq_false (show ¬(21:Int)<(p.length:Int)by omega),cond_false,if_neg h1]
 cases hp:p with
 | nil=>rfl
 | cons a q =>
 rw [show (((a :: q).length:Int) == 0)=false by rw [beq_eq_false_iff_ne];simp;omega,cond_false]
 dsimp only
 by_cases h2:w.length=(a :: q).length
 case neg =>
  rw [show ((w.length:Int) != ((a :: q).length:Int))=true from by simpa using fun h=>h2 (by simp;omega),cond_true,if_pos h2];rfl
 rw [show ((w.length:Int) != ((a :: q).length:Int))=false from by rw [h2];simp,cond_false,if_neg (fun h=>h h2),←hp]
 rw [←hp]at h2
 have hz:(p.zip w).length=p.length:=by rw [List.length_zip];omega
 have hpos:0<p.length:=by rw [hp];simp
 have ha:∀k,k<q.length→p[k+1]? = q[k]?:=fun k _=>by rw [hp];rfl
 have hq:q.length+1=p.length:=by rw [hp];rfl
 have h0:p[0]=a:=by simp only [hp];rfl
 clear hp
 refine congrArg (a₂:=some (Ans.ret (pairsE (riseE q a) (p.zip w),()))) unwrapA ?_
 refine loopA_list (ts:=[tI,tI]) (p.zip w) (fun k (_:Unit)=>((k:Int),0,())) (fun l _=>.ret (pairsE (riseE q a) l,())) (fun _ _=>True) (fun k hk _ _=>?_) (fun _ _=>?_) () trivial (fuel_lt (by omega))
 ·have hk1:k<p.length:=by omega
  have hk2:k<w.length:=by omega
  dsimp only
  rw [dlt hk1,cond_true,ix_lt hk1,ix_lt hk2,List.getElem_zip,pairsE]
  simp only [Option.bind_some]
  generalize p[k]=u
  generalize w[k]=v
  by_cases c1:u < -1000
  ·rw [decide_eq_true c1,cond_true,if_pos c1]
   exact .inl ⟨rfl,rfl⟩
  by_cases c2:1000<u
  ·rw [decide_eq_false c1,cond_false,decide_eq_true c2,cond_true,if_neg c1,if_pos c2]
   exact .inl ⟨rfl,rfl⟩
  by_cases c3:v<1
  ·rw [decide_eq_false c1,cond_false,decide_eq_false c2,cond_false,decide_eq_true c3,cond_true,if_neg c1,if_neg c2,if_pos c3]
   exact .inl ⟨rfl,rfl⟩
  by_cases c4:1000<v
  ·rw [decide_eq_false c1,cond_false,decide_eq_false c2,cond_false,decide_eq_false c3,cond_false,decide_eq_true c4,cond_true,if_neg c1,if_neg c2,if_neg c3,if_pos c4]
   exact .inl ⟨rfl,rfl⟩
  rw [decide_eq_false c1,cond_false,decide_eq_false c2,cond_false,decide_eq_false c3,cond_false,decide_eq_false c4,cond_false,if_neg c1,if_neg c2,if_neg c3,if_neg c4,w64n (by omega)]
  exact .inr ⟨(),rfl,trivial,rfl⟩
 ·dsimp only
  rw [hz,dge (Nat.le_refl _),cond_false]
  refine ⟨?_,rfl⟩
  refine loopA_list (ts:=[tI,tI]) q (fun k (_:Int)=>(((k+1:Nat):Int),0,())) (fun l b=>.ret (riseE l b,())) (fun k b=>p[k]? = some b) (fun k hk b hb=>?_) (fun b hb=>?_) a (by rw [List.getElem?_eq_getElem hpos,h0]) (fuel_lt (by omega))
  ·have hk1:k+1<p.length:=by omega
   have e:p[k+1]? = some q[k]:=by rw [ha k hk,List.getElem?_eq_getElem hk]
   have e1:IntKind.i64.wrap (((k+1:Nat):Int)-1)=(k:Int):=by rw [w64 (by omega) (by omega)];omega
   dsimp only
   rw [dlt hk1,cond_true,bind_go (ix_get e),e1,bind_go (ix_get hb),riseE]
   by_cases c1:q[k]≤b
   ·rw [decide_eq_true c1,cond_true,if_pos c1]
    exact .inl ⟨rfl,rfl⟩
   ·rw [decide_eq_false c1,cond_false,if_neg c1,w64n (by omega)]
    exact .inr ⟨q[k],rfl,e,rfl⟩
  ·dsimp only
   rw [dge (by omega),cond_false]
   exact ⟨rfl,rfl⟩
end
end Go.Proofs.YtcggnmddcbhchaaGreatDoor
set_option linter.unusedSimpArgs false
set_option linter.unusedVariables false
namespace Go.Proofs.YtcggnmddcbhchaaGreatDoor
open Go.RowKit Lim
abbrev tPI:VT:=.pair (.int .i64) (.pair .str (.pair (.int .i64) (.pair (.int .i64) (.pair (.int .i64) (.pair (.int .i64) (.pair (.int .i64) (.pair (.int .i64) (.sl 1 (.sl 1 (.int .i64))))))))))
abbrev PI:=Int × List UInt8 × Int × Int × Int × Int × Int × Int × List (List Int)
abbrev vP (pool:List PI):V:=.o (.c ⟨.sl 9 tPI,pool⟩)
abbrev vW (w:List (List Nat)):V:=.o (.c ⟨.sl 1 .nat,w⟩)
theorem mk24 {N:Nat} (h:N≤1000):mkB (N:Int) (N:Int) 24=true:=by
 unfold mkB
 rw [decide_eq_true (show (0:Int)≤(N:Nat)by omega),decide_eq_true (Int.le_refl _),Int.toNat_natCast,Nat.ble_eq_true_of_le (by omega),Nat.ble_eq_true_of_le (by omega)]
 rfl
theorem put_go {α R:Type} {row:List α} {k:Nat} (hk:k<row.length) {o:Option R}:(bif Nat.beq 1 1 && (decide (0≤(k:Int)) && decide (Int.toNat (k:Int)<row.length)) then (row[Int.toNat (k:Int)]?).bind (fun _=>o) else none)=o:=by
 rw [Int.toNat_natCast,decide_eq_true hk,decide_eq_true (show (0:Int)≤(k:Nat)by omega),List.getElem?_eq_getElem hk]
 rfl
theorem loopA_fill {R:Type} {dp:Nat} {t:VT} {step:denL [tI,t]→Option (Ans R)} {n:Nat} {α:Type} (ht:t.den=List α) (z:α) (L:List α) (g:List α→Ans R) (h1:∀k (hk:k<L.length) (row:List α),row.length=L.length→step ((k:Int),cast ht.symm row,())=some (.cont dp [tI,t] (((k+1:Nat):Int),cast ht.symm (row.set k L[k]),())))
  (h2:∀row:List α,step ((L.length:Int),cast ht.symm row,())=some (g row)∧(g row).out dp=true) (hn:L.length<n):loopA dp [tI,t] step n (0,cast ht.symm (List.replicate L.length z),())=some (g L):=by
 have e:=loopA_range (dp:=dp) (ts:=[tI,t]) (step:=step) (N:=L.length) (n:=n) (a:=g L) (fun k=>((k:Int),cast ht.symm (L.take k ++ List.replicate (L.length-k) z),())) (fun k hk=>by
  refine (h1 k hk _ (by simp;omega)).trans ?_
  rw [List.set_append_right _ _ (by simp;omega),List.length_take,Nat.min_eq_left (by omega),Nat.sub_self,show L.length-k=(L.length-(k+1))+1 by omega,List.replicate_succ,List.set_cons_zero,List.take_add_one,List.getElem?_eq_getElem hk,Option.toList_some,List.append_assoc,List.singleton_append]) (by
  rw [Nat.sub_self,List.replicate_zero,List.append_nil,List.take_length]
  exact (h2 L).1) (h2 L).2 hn
 simpa using e
def gOf (x:Int):List Nat:=limbsK x.toNat
def startE (p w:List Int):List (List Nat) × Int:=if gridE p w=0 then (w.map gOf,0) else ([],gridE p w)
def cats (rows:List (List Int)):Int:=((rows.headD []).length:Int)
def mulW (a:List Nat) (r:List Int) (k:Int):List Nat:=limbsK (val a*(r.getD k.toNat 0).toNat)
def updE (w:List (List Nat)) (rows:List (List Int)) (k:Int):List (List Nat) × Int:=if 21<w.length then ([],5) else if modelE rows w.length≠0 then ([],modelE rows w.length) else if k = -1∨k = -2 then (w.map (fun a=>limbsK (val a)),0) else if k<0 then ([],3) else if cats rows≤k then ([],3) else ((w.zip rows).map (fun x=>mulW x.1 x.2 k),0)
def WOK (w:List (List Nat)) (c:Nat):Prop:=∀a∈w,Dig a∧a.length≤c
def numB (n:Int):Bool:=decide (1≤n) && decide (n≤9999999)
def itE (y:PI) (k:Int):Int:=bif !contentB y.2.1 then 2 else bif decide (y.2.2.1<0) then 3 else bif decide (9999999<y.2.2.1) then 3 else bif decide (y.2.2.2.1<0) then 3 else bif decide (9999999<y.2.2.2.1) then 3 else bif decide (y.2.2.2.2.1<0) then 3 else bif decide (2000<y.2.2.2.2.1) then 3 else bif decide (y.2.2.2.2.2.1<1) then 3 else bif decide (2000<y.2.2.2.2.2.1) then 3 else bif decide (y.2.2.2.2.2.2.1<1) then 3 else bif decide (5<y.2.2.2.2.2.2.1) then 3 else bif decide (y.2.2.2.2.2.2.2.1<0) then 3 else bif decide (10<y.2.2.2.2.2.2.2.1) then 3 else modelE y.2.2.2.2.2.2.2.2 k
def idsE:List PI→Int→Bool
 | [],_=>true
 | y :: r,a=>if numB y.1=false then false else if y.1≤a then false else idsE r y.1
def itsE (k:Int):List PI→Int
 | []=>0
 | y :: r=>if itE y k≠0 then itE y k else itsE k r
def poolE (pool:List PI) (k:Int):Int:=if 18<pool.length then 5 else if idsE pool 0=false then 23 else itsE k pool
section
variable (n:Nat)
theorem prior_e (p w:List Int):EF fuel (n+2) 90 [vG p w] [.c (.sl 1 .nat),.c (.int .i64)]=some ((startE p w).1,(startE p w).2,()):=by
 rw [grid_Prior_m (n+1) p w,bind_go (grid_e n p w)]
 dsimp only
 unfold startE
 by_cases h0:gridE p w=0
 case neg=>rw [show (gridE p w != 0)=true by simpa using h0,cond_true,if_neg h0];rfl
 have hg:=grid_ok h0
 have h1:=hg.most
 have h2:=hg.len
 rw [h0,show ((0:Int) != 0)=false from rfl,cond_false,if_pos rfl,mk24 (by omega),cond_true,Int.toNat_natCast]
 refine congrArg (a₂:=some (Ans.ret (w.map gOf,0,()))) unwrapA ?_
 rw [show w.length=(w.map gOf).length by simp]
 refine loopA_fill (t:=.sl 1 tN) rfl [] (w.map gOf) (fun row=>.ret (row,0,())) (fun k hk row hrow=>?_) (fun row=>?_) (fuel_lt (by simp;omega))
 ·have hk2:k<w.length:=by simpa using hk
  have hw:=hg.wts k hk2
  dsimp only [cast]
  rw [dlt hk,cond_true,bind_go (ix_lt hk2),u64w (by omega) (by omega),bind_go (pNOf_e n _ (capU_ok (by omega) (by omega))),put_go (by rw [hrow];exact hk),w64n (by simp at hk;omega),List.getElem_map]
  rfl
 ·dsimp only [cast]
  rw [dge (Nat.le_refl _),cond_false]
  exact ⟨rfl,rfl⟩
theorem start_e (p w:List Int):EF fuel (n+3) 42 [vG p w] [.c (.sl 1 .nat),.c (.int .i64)]=some ((startE p w).1,(startE p w).2,()):=by
 rw [posterior_Start_m (n+2) p w,bind_go (prior_e n p w)]
 rfl
theorem cats_e (rows:List (List Int)):EF fuel (n+1) 94 [vM rows] [.c (.int .i64)]=some (cats rows,()):=by
 rw [model_Categories_m n rows]
 cases rows with
 | nil=>rfl
 | cons r l =>
  rw [show (((r :: l).length:Int) == 0)=false by rw [beq_eq_false_iff_ne];simp;omega,cond_false]
  rfl
theorem numB_e (x:Int):EF fuel (n+1) 91 [vI x] [.c .bool]=some (numB x,()):=by
 rw [blueprint_numbered_m n x]
 unfold numB
 cases decide (1≤x) <;> rfl
theorem item_e (y:PI) (k:Int):EF fuel (n+4) 92 [.o (.agg [⟨.int .i64,y.1⟩,⟨.str,y.2.1⟩,⟨.int .i64,y.2.2.1⟩,⟨.int .i64,y.2.2.2.1⟩,⟨.int .i64,y.2.2.2.2.1⟩,⟨.int .i64,y.2.2.2.2.2.1⟩,⟨.int .i64,y.2.2.2.2.2.2.1⟩,⟨.int .i64,y.2.2.2.2.2.2.2.1⟩,⟨.sl 1 (.sl 1 (.int .i64)),y.2.2.2.2.2.2.2.2⟩]),vI k] [.c (.int .i64)]=some (itE y k,()):=by
 rw [blueprint_checkItem_m (n+3) y.1 y.2.1 y.2.2.1 y.2.2.2.1 y.2.2.2.2.1 y.2.2.2.2.2.1 y.2.2.2.2.2.2.1 y.2.2.2.2.2.2.2.1 y.2.2.2.2.2.2.2.2 k,bind_go (content_e n y.2.1),bind_go (model_e (n+2) y.2.2.2.2.2.2.2.2 k)]
 unfold itE
 dsimp only
 generalize modelE y.2.2.2.2.2.2.2.2 k=e
 cases contentB y.2.1
 case false=>rfl
 cases decide (y.2.2.1<0)
 case true=>rfl
 cases decide (9999999<y.2.2.1)
 case true=>rfl
 cases decide (y.2.2.2.1<0)
 case true=>rfl
 cases decide (9999999<y.2.2.2.1)
 case true=>rfl
 cases decide (y.2.2.2.2.1<0)
 case true=>rfl
 cases decide (2000<y.2.2.2.2.1)
 case true=>rfl
 cases decide (y.2.2.2.2.2.1<1)
 case true=>rfl
 cases decide (2000<y.2.2.2.2.2.1)
 case true=>rfl
 cases decide (y.2.2.2.2.2.2.1<1)
 case true=>rfl
 cases decide (5<y.2.2.2.2.2.2.1)
 case true=>rfl
 cases decide (y.2.2.2.2.2.2.2.1<0)
 case true=>rfl
 cases decide (10<y.2.2.2.2.2.2.2.1) <;> rfl
theorem check_pool (pool:List PI) (k:Int):EF fuel (n+5) 43 [vP pool,vI k] [.c (.int .i64)]=some (poolE pool k,()):=by
 rw [blueprint_Check_m (n+4) pool k]
 unfold poolE
 by_cases h1:18<pool.length
 ·rw [decide_eq_true (show (18:Int)<(pool.length:Int)by omega),cond_true,if_pos h1];rfl
 rw [decide_eq_false (show ¬(18:Int)<(pool.length:Int)by omega),cond_false,if_neg h1]
 refine congrArg (a₂:=some (Ans.ret ((if idsE pool 0=false then 23 else itsE k pool),()))) unwrapA ?_
 refine loopA_list (ts:=[tI,tI]) pool (fun i (_:Int)=>((i:Int),0,())) (fun l b=>.ret ((if idsE l b=false then 23 else itsE k pool),())) (fun i b=>(i=0∧b=0)∨(0<i∧∃y,pool[i-1]? = some y∧b=y.1)) (fun i hi b hb=>?_) (fun b hb=>?_) 0 (.inl ⟨rfl,rfl⟩) (fuel_lt (by omega))
 ·dsimp only
  rw [dlt hi,cond_true,bind_go (ix_lt hi),bind_go (numB_e (n+3) pool[i].1),idsE]
  dsimp only
  cases hn:numB pool[i].1
  ·exact .inl ⟨rfl,rfl⟩
  have hpos:1≤pool[i].1:=by
   unfold numB at hn
   rw [Bool.and_eq_true]at hn
   exact of_decide_eq_true hn.1
  have hnext:IntKind.i64.wrap ((i:Int)+1)=((i+1:Nat):Int):=w64n (by omega)
  have hI:(i+1=0∧pool[i].1=0)∨(0<i+1∧∃y,pool[i+1-1]? = some y∧pool[i].1=y.1):=.inr ⟨by omega,pool[i],by rw [Nat.add_sub_cancel,List.getElem?_eq_getElem hi],rfl⟩
  rw [Bool.not_true,cond_false,if_neg (show ¬(true=false)by decide),hnext]
  rcases hb with ⟨rfl,rfl⟩|⟨h0,y,hy,rfl⟩
  ·rw [decide_eq_false (show ¬(0:Int)<((0:Nat):Int)by omega),cond_false,if_neg (show ¬pool[0].1≤0 by omega)]
   exact .inr ⟨_,rfl,hI,rfl⟩
  ·have e1:IntKind.i64.wrap ((i:Int)-1)=((i-1:Nat):Int):=by rw [w64 (by omega) (by omega)];omega
   rw [decide_eq_true (show (0:Int)<(i:Int)by omega),cond_true,e1,bind_go (ix_get hy)]
   by_cases c1:pool[i].1≤y.1
   ·rw [decide_eq_true c1,cond_true,if_pos c1]
    exact .inl ⟨rfl,rfl⟩
   ·rw [decide_eq_false c1,cond_false,if_neg c1]
    exact .inr ⟨_,rfl,hI,rfl⟩
 ·dsimp only
  rw [dge (Nat.le_refl _),cond_false,idsE,if_neg (show ¬(true=false)by decide)]
  refine ⟨?_,rfl⟩
  refine loopA_list (ts:=[tI,tI]) pool (fun i (_:Unit)=>((i:Int),0,())) (fun l _=>.ret (itsE k l,())) (fun _ _=>True) (fun i hi _ _=>?_) (fun _ _=>?_) () trivial (fuel_lt (by omega))
  ·dsimp only
   rw [dlt hi,cond_true,bind_go (ix_lt hi),bind_go (item_e n pool[i] k),itsE]
   by_cases c1:itE pool[i] k=0
   ·rw [c1,if_neg (by decide)]
    exact .inr ⟨(),by rw [show ((0:Int) != 0)=false from rfl,cond_false,w64n (by omega)],trivial,rfl⟩
   ·rw [if_pos c1]
    dsimp only
    rw [show (itE pool[i] k != 0)=true by simpa using c1]
    exact .inl ⟨rfl,rfl⟩
  ·dsimp only
   rw [dge (Nat.le_refl _),cond_false]
   exact ⟨rfl,rfl⟩
end
end Go.Proofs.YtcggnmddcbhchaaGreatDoor
set_option linter.unusedSimpArgs false
set_option linter.unusedVariables false
namespace Go.Proofs.YtcggnmddcbhchaaGreatDoor
open Go.RowKit Lim
theorem identPrint_m {F:Nat} (n0:Nat) (x0 x1:Int):EF F (n0+1) 25 [.o (.c ⟨(.int .i64),x0⟩),.o (.c ⟨(.int .i64),x1⟩)] [.c .str,.c (.int .i64)]=unwrapA ((EF F n0 58 [vI x0,vI x1] [.c (tI),.c (tI)]).bind fun x=>bif x.2.1 != 0 then some (.ret ([],x.2.1,())) else bif decide (0≤IntKind.i64.wrap (x0-1)) && decide ((IntKind.i64.wrap (x0-1)).toNat<6) then ([[73,84,77],[70,82,77],[67,65,78],[83,69,83],[82,65,84],[65,83,84]]:List (List UInt8))[0+(IntKind.i64.wrap (x0-1)).toNat*1]?.bind fun y=>bif strB y.length [45].length then (EF F n0 59 [vI x1,vI 7] [.c tS]).bind fun x_1=>bif strB (y ++ [45]).length (List.length x_1.1) then bif strB (y ++ [45] ++ x_1.1).length [45].length then (EF F n0 59 [vI x.1,vI 2] [.c tS]).bind fun x=>bif strB (y ++ [45] ++ x_1.1 ++ [45]).length (List.length x.1) then some (.ret (y ++ [45] ++ x_1.1 ++ [45] ++ x.1,0,())) else none else none else none else none else none):=by kernel_rfl
theorem identCheck_m {F:Nat} (n0:Nat) (x0 x1:Int):EF F (n0+1) 58 [.o (.c ⟨(.int .i64),x0⟩),.o (.c ⟨(.int .i64),x1⟩)] [.c (.int .i64),.c (.int .i64)]=unwrapA (bif decide (x0<1) then some (.ret (0,1,())) else bif decide (6<x0) then some (.ret (0,1,())) else bif decide (x1<1) then some (.ret (0,3,())) else bif decide (9999999<x1) then some (.ret (0,3,())) else (EF F n0 128 [vI x0,vI x1] [.c (tI)]).bind fun x=>some (.ret (x.1,0,()))):=by kernel_rfl
theorem pad_m {F:Nat} (n0:Nat) (x0 x1:Int):EF F (n0+1) 59 [.o (.c ⟨(.int .i64),x0⟩),.o (.c ⟨(.int .i64),x1⟩)] [.c .str]=unwrapA ((EF F n0 100 [vI x0] [.c tS]).bind fun x=>(EF F n0 129 [vS [48],vI (maxI2 (IntKind.i64.wrap (x1-(Nat.cast (R:=Int) (List.length x.1)))) 0)] [.c tS]).bind fun x_1=>bif strB (List.length x_1.1) (List.length x.1) then some (.ret (x_1.1 ++ x.1,())) else none):=by kernel_rfl
theorem checkDigits_m {F:Nat} (n0:Nat) (x0 x1:Int):EF F (n0+1) 128 [.o (.c ⟨(.int .i64),x0⟩),.o (.c ⟨(.int .i64),x1⟩)] [.c (.int .i64)]=unwrapA (some (.ret (IntKind.i64.wrap (98-(IntKind.i64.wrap (IntKind.i64.wrap (IntKind.i64.wrap (x0*10000000)+x1)*100)).tmod 97),()))):=by kernel_rfl
end Go.Proofs.YtcggnmddcbhchaaGreatDoor
set_option linter.unusedSimpArgs false
set_option linter.unusedVariables false
namespace Go.Proofs.YtcggnmddcbhchaaGreatDoor
open Go.RowKit Lim
structure Res where
 m:Q3
 v:Q3
 lo:Int
 hi:Int
 sc:Int
 es:Int
 st:Int
 sp:Int
abbrev vR (r:Res):V:=.o (.agg [⟨.bool,r.m.t⟩,⟨.nat,r.m.a⟩,⟨.nat,r.m.b⟩,⟨.bool,r.v.t⟩,⟨.nat,r.v.a⟩,⟨.nat,r.v.b⟩,⟨.int .i64,r.lo⟩,⟨.int .i64,r.hi⟩,⟨.int .i64,r.sc⟩,⟨.int .i64,r.es⟩,⟨.int .i64,r.st⟩,⟨.int .i64,r.sp⟩])
abbrev gQ:Sig:=[.agg [.bool,.nat,.nat]]
abbrev gP:Sig:=[.c .str,.c (.int .i64)]
def in64 (z:Int):Prop:=-9223372036854775808≤z∧z≤9223372036854775807
theorem in64.cap {z:Int} (h:in64 z):capI z=true:=capI_ok h.1 h.2
structure Res.OK (r:Res):Prop where
 m:r.m.OK
 v:r.v.OK
 lo:in64 r.lo
 hi:in64 r.hi
 sc:in64 r.sc
 es:in64 r.es
 st:in64 r.st
 sp:in64 r.sp
section
variable (n:Nat)
end
end Go.Proofs.YtcggnmddcbhchaaGreatDoor
set_option linter.unusedSimpArgs false
set_option linter.unusedVariables false
namespace Go.Proofs.YtcggnmddcbhchaaGreatDoor
open Go.RowKit Lim
theorem pItoa_k (n0:Nat) (z:Int):EF fuel (n0+1) 100 [vI z] gS=bif capI z then some (itoaK z,()) else none:=by kernel_rfl
theorem pRep_k (n0:Nat) (s:List UInt8) (z:Int):EF fuel (n0+1) 129 [vS s,vI z] gS=bif Nat.ble s.length 1048576 && capR z then some (Lib.repeatL s z.toNat,()) else none:=by kernel_rfl
theorem repeatL_len (b:UInt8) (k:Nat):(Lib.repeatL [b] k).length=k:=by
 induction k with
 | zero=>rfl
 | succ k ih=>simp [Lib.repeatL,ih]
def padT (z w:Int):List UInt8:=Lib.repeatL [48] (maxI2 (w-((itoaK z).length:Int)) 0).toNat ++ itoaK z
def idT (y:List UInt8) (k c:Int):List UInt8:=y ++ [45] ++ padT c 7 ++ [45] ++ padT (98-((k*10000000+c)*100).tmod 97) 2
section
variable (n:Nat)
theorem itoa_e (z:Int) (h:in64 z):EF fuel (n+1) 100 [vI z] gS=some (itoaK z,()):=by rw [pItoa_k,h.cap];rfl
theorem rep_e (z:Int) (h0:0≤z) (h1:z≤1048576):EF fuel (n+1) 129 [vS [48],vI z] gS=some (Lib.repeatL [48] z.toNat,()):=by
 rw [pRep_k,capR_ok h0 h1];rfl
theorem itoa_l21 {z:Int} (h:in64 z):(itoaK z).length≤21:=itoaK_len h.1 h.2
theorem max_le {w:Int} {k:Nat} (h0:0≤w) (h1:w≤100):0≤maxI2 (w-(k:Int)) 0∧maxI2 (w-(k:Int)) 0≤100:=by
 unfold maxI2
 split <;> omega
theorem padT_len {z w:Int} (h:in64 z) (h0:0≤w) (h1:w≤100):(padT z w).length≤121:=by
 have h2:=max_le (k:=(itoaK z).length) h0 h1
 have h3:=itoa_l21 h
 unfold padT
 rw [List.length_append,repeatL_len]
 omega
theorem pad_e (z w:Int) (h:in64 z) (h0:0≤w) (h1:w≤100):EF fuel (n+2) 59 [vI z,vI w] gS=some (padT z w,()):=by
 have h2:=max_le (k:=(itoaK z).length) h0 h1
 have h3:=itoa_l21 h
 refine (pad_m (n+1) z w).trans ?_
 rw [bind_go (itoa_e n z h)]
 dsimp only
 rw [w64 (by omega) (by omega),bind_go (rep_e n _ h2.1 (by omega))]
 dsimp only
 rw [strB_s (by rw [repeatL_len];omega)]
 rfl
theorem tmod97 (z:Int):-97<z.tmod 97∧z.tmod 97<97:=by
 have h1:=Int.tmod_lt_of_pos z (show (0:Int)<97 by omega)
 have h2:=Int.lt_tmod_of_pos z (show (0:Int)<97 by omega)
 omega
theorem idT_len {y:List UInt8} {k c:Int} (hy:y.length=3) (hc:in64 c):(idT y k c).length≤300:=by
 have h1:=padT_len (w:=7) hc (by omega) (by omega)
 have h3:=tmod97 ((k*10000000+c)*100)
 have h2:=padT_len (z:=98-((k*10000000+c)*100).tmod 97) (w:=2) ⟨by omega,by omega⟩ (by omega) (by omega)
 unfold idT
 simp only [List.length_append,List.length_cons,List.length_nil]
 omega
theorem check_e (k c:Int) (k1:1≤k) (k6:k≤6) (c1:1≤c) (c9:c≤9999999):EF fuel (n+2) 58 [vI k,vI c] [.c (.int .i64),.c (.int .i64)]=some (98-((k*10000000+c)*100).tmod 97,0,()):=by
 refine (identCheck_m (n+1) k c).trans ?_
 have h3:=tmod97 ((k*10000000+c)*100)
 rw [decide_eq_false (show ¬k<1 by omega),decide_eq_false (show ¬6<k by omega),decide_eq_false (show ¬c<1 by omega),decide_eq_false (show ¬9999999<c by omega),cond_false,cond_false,cond_false,cond_false,checkDigits_m n k c]
 rw [w64 (z:=k*10000000) (by omega) (by omega),w64 (z:=k*10000000+c) (by omega) (by omega),w64 (z:=(k*10000000+c)*100) (by omega) (by omega),w64 (z:=98-((k*10000000+c)*100).tmod 97) (by omega) (by omega)]
 rfl
theorem identPrint_e (k c:Int) (y:List UInt8) (k1:1≤k) (k6:k≤6) (c1:1≤c) (c9:c≤9999999) (hy:([[73,84,77],[70,82,77],[67,65,78],[83,69,83],[82,65,84],[65,83,84]]:List (List UInt8))[0+(k-1).toNat*1]? = some y) (hl:y.length=3) :
  EF fuel (n+3) 25 [vI k,vI c] gP=some (idT y k c,0,()):=by
 refine (identPrint_m (n+2) k c).trans ?_
 have h3:=tmod97 ((k*10000000+c)*100)
 have hc:in64 c:=⟨by omega,by omega⟩
 have l1:=padT_len (w:=7) hc (by omega) (by omega)
 have hd:in64 (98-((k*10000000+c)*100).tmod 97):=⟨by omega,by omega⟩
 have l2:=padT_len (w:=2) hd (by omega) (by omega)
 rw [bind_go (check_e n k c k1 k6 c1 c9)]
 dsimp only
 rw [w64 (z:=k-1) (by omega) (by omega),decide_eq_true (show 0≤k-1 by omega),decide_eq_true (show (k-1).toNat<6 by omega),bind_go hy,strB_s (by simp only [List.length_cons,List.length_nil];omega),bind_go (pad_e n c 7 hc (by omega) (by omega))]
 dsimp only
 rw [strB_s (by simp only [List.length_append,List.length_cons,List.length_nil];omega),strB_s (by simp only [List.length_append,List.length_cons,List.length_nil];omega),bind_go (pad_e n _ 2 hd (by omega) (by omega))]
 dsimp only
 rw [strB_s (by simp only [List.length_append,List.length_cons,List.length_nil];omega)]
 rfl
end
end Go.Proofs.YtcggnmddcbhchaaGreatDoor
set_option linter.unusedSimpArgs false
set_option linter.unusedVariables false
namespace Go.Proofs.YtcggnmddcbhchaaGreatDoor
open Go.RowKit Lim
theorem rndU_nlen (N:Int) (D p:Nat) (mode:Int) (hp:p≤9):nlen (rndU N D p mode).natAbs≤nlen N.natAbs+2:=by
 have h1:(N*((10 ^ p:Nat):Int) / (D:Int)).natAbs≤(N*((10 ^ p:Nat):Int)).natAbs:=Int.natAbs_ediv_le_natAbs _ _
 have h2:nlen (N*((10 ^ p:Nat):Int)).natAbs≤nlen N.natAbs+1:=by
  rw [Int.natAbs_mul,Int.natAbs_natCast]
  have:=nlen_mul N.natAbs (10 ^ p)
  have:=nlen_pow10 hp
  omega
 have h3:(rndU N D p mode).natAbs≤(N*((10 ^ p:Nat):Int)).natAbs+1:=by
  unfold rndU
  split
  ·omega
  ·split
   ·omega
   ·omega
 have h4:=nlen_mono h3
 have h5:=nlen_add (N*((10 ^ p:Nat):Int)).natAbs 1
 have h6:nlen 1=1:=nlen_one
 rcases Nat.eq_zero_or_pos (nlen (N*((10 ^ p:Nat):Int)).natAbs)with h0|h0
 ·omega
 ·omega
theorem decTx_len {z:Int} {p:Nat} (hp:p≤9) (hl:nlen z.natAbs<1099511627776):(decTx z p).length<10995116277800:=by
 have h1:=dec_len hl
 have h2:=decT1_len z.natAbs p
 have h3:(decT2 z.natAbs p).length≤(decT1 z.natAbs p).length+1:=by
  unfold decT2
  split
  ·simp;omega
  ·omega
 unfold decTx
 split
 ·simp;omega
 ·omega
def findE (pool:List PI) (id:Int):Option PI:=pool.find? (fun y=>y.1 == id)
abbrev gF:Sig:=[.agg [.int .i64,.str,.int .i64,.int .i64,.int .i64,.int .i64,.int .i64,.int .i64,.sl 1 (.sl 1 (.int .i64))],.c .bool]
def foundA:Option PI→denL gF.ts
 | some y=>(y.1,y.2.1,y.2.2.1,y.2.2.2.1,y.2.2.2.2.1,y.2.2.2.2.2.1,y.2.2.2.2.2.2.1,y.2.2.2.2.2.2.2.1,y.2.2.2.2.2.2.2.2,true,())
 | none=>(0,[],0,0,0,0,0,0,[],false,())
theorem nlen_1000 {k:Nat} (h:k<4294967296):nlen k≤1:=nlen_le (by have h1:pw 1=4294967296:=(by decide);omega)
theorem mulW_len {a:List Nat} {r:List Int} {k:Int} {c:Nat} (ha:Dig a) (hl:a.length≤c) (hr:(r.getD k.toNat 0).toNat<4294967296):Dig (mulW a r k)∧(mulW a r k).length≤c+1:=by
 unfold mulW
 rw [limbsK_eq]
 refine ⟨dig_limbs _,?_⟩
 have h1:=nlen_mul (val a) (r.getD k.toNat 0).toNat
 have h2:=nlen_val ha
 have h3:=nlen_1000 hr
 show nlen _≤_
 omega
theorem normW_len {a:List Nat} {c:Nat} (ha:Dig a) (hl:a.length≤c):Dig (limbsK (val a))∧(limbsK (val a)).length≤c+1:=by
 rw [limbsK_eq]
 refine ⟨dig_limbs _,?_⟩
 have h2:=nlen_val ha
 show nlen _≤_
 omega
theorem start_ok {p w:List Int} (h:(startE p w).2=0):GridOK p w∧(startE p w).1.length=p.length∧WOK (startE p w).1 1∧∀a∈(startE p w).1,0<val a:=by
 unfold startE at h ⊢
 by_cases h0:gridE p w=0
 case neg=>rw [if_neg h0]at h;exact absurd h h0
 have hg:=grid_ok h0
 rw [if_pos h0]
 have key:∀a∈w.map gOf,(Dig a∧a.length≤1)∧0<val a:=fun a ha=>by
  obtain ⟨x,hx,rfl⟩:=List.mem_map.1 ha
  obtain ⟨k,hk,rfl⟩:=List.getElem_of_mem hx
  have:=hg.wts k hk
  unfold gOf
  rw [limbsK_eq,val_limbs]
  exact ⟨⟨dig_limbs _,nlen_1000 (by omega)⟩,by omega⟩
 exact ⟨hg,by rw [List.length_map];exact hg.len,fun a ha=>(key a ha).1,fun a ha=>(key a ha).2⟩
theorem upd_ok {w:List (List Nat)} {rows:List (List Int)} {k:Int} {c:Nat} (h:(updE w rows k).2=0) (hw:WOK w c) (hp:∀a∈w,0<val a):(updE w rows k).1.length=w.length∧WOK (updE w rows k).1 (c+1)∧∀a∈(updE w rows k).1,0<val a:=by
 unfold updE at h ⊢
 by_cases h1:21<w.length
 ·rw [if_pos h1]at h;dsimp only at h;omega
 rw [if_neg h1]at h ⊢
 by_cases h2:modelE rows w.length=0
 case neg=>rw [if_pos h2]at h;exact absurd h h2
 rw [if_neg (fun h=>h h2)]at h ⊢
 have hm:=model_ok h2
 by_cases h3:k = -1∨k = -2
 ·rw [if_pos h3]
  have key:∀a∈w.map (fun a=>limbsK (val a)),(Dig a∧a.length≤c+1)∧0<val a:=fun a ha=>by
   obtain ⟨x,hx,rfl⟩:=List.mem_map.1 ha
   refine ⟨normW_len (hw x hx).1 (hw x hx).2,?_⟩
   rw [val_K]
   exact hp x hx
  exact ⟨by simp,fun a ha=>(key a ha).1,fun a ha=>(key a ha).2⟩
 rw [if_neg h3]at h ⊢
 by_cases h4:k<0
 ·rw [if_pos h4]at h;dsimp only at h;omega
 rw [if_neg h4]at h ⊢
 by_cases h5:cats rows≤k
 ·rw [if_pos h5]at h;dsimp only at h;omega
 rw [if_neg h5]
 have hlen:=hm.len
 have key:∀a∈(w.zip rows).map (fun x=>mulW x.1 x.2 k),(Dig a∧a.length≤c+1)∧0<val a:=fun a ha=>by
  obtain ⟨x,hx,rfl⟩:=List.mem_map.1 ha
  obtain ⟨i,hi,rfl⟩:=List.getElem_of_mem hx
  rw [List.length_zip]at hi
  rw [List.getElem_zip]
  have h6:=hm.row i (by omega)
  unfold cats at h5
  have h7:=hm.val i (by omega) k.toNat (by omega)
  have e:rows[i].getD k.toNat 0=rows[i][k.toNat]:=by rw [List.getD_eq_getElem?_getD,List.getElem?_eq_getElem];rfl
  have hwi:=hw _ (List.getElem_mem (show i<w.length by omega))
  have hpi:=hp _ (List.getElem_mem (show i<w.length by omega))
  refine ⟨mulW_len hwi.1 hwi.2 (by rw [e];omega),?_⟩
  unfold mulW
  rw [val_K,e]
  exact Nat.mul_pos hpi (by omega)
 exact ⟨by rw [List.length_map,List.length_zip];omega,fun a ha=>(key a ha).1,fun a ha=>(key a ha).2⟩
section
variable (n:Nat)
theorem find_e (pool:List PI) (id:Int) (hl:pool.length<1000000):EF fuel (n+1) 44 [vP pool,vI id] gF=some (foundA (findE pool id)):=by
 rw [report_find_m n pool id]
 refine congrArg (a₂:=some (Ans.ret (foundA (findE pool id)))) unwrapA ?_
 refine loopA_list (R:=denL gF.ts) (ts:=[tI,tB,tI,tS,tI,tI,tI,tI,tI,tI,VT.sl 1 (VT.sl 1 tI)]) pool (fun i (_:Unit)=>((i:Int),false,0,[],0,0,0,0,0,0,[],())) (fun l _=>.ret (foundA (findE l id))) (fun _ _=>True) (fun i hi _ _=>?_) (fun _ _=>?_) () trivial (fuel_lt (by omega))
 ·dsimp only
  rw [dlt hi,cond_true,bind_go (ix_lt hi)]
  unfold findE
  rw [List.find?_cons]
  cases hc:pool[i].1 == id
  ·exact .inr ⟨(),by rw [cond_false,w64n (by omega)];rfl,trivial,rfl⟩
  ·exact .inl ⟨rfl,rfl⟩
 ·dsimp only
  rw [dge (Nat.le_refl _),cond_false]
  exact ⟨rfl,rfl⟩
theorem upd_e (w:List (List Nat)) (rows:List (List Int)) (k:Int) (hk:in64 k) (hw:WOK w 1000):EF fuel (n+2) 45 [vW w,vM rows,vI k] [.c (.sl 1 .nat),.c (.int .i64)]=some ((updE w rows k).1,(updE w rows k).2,()):=by
 rw [posterior_Update_m (n+1) w rows k]
 unfold updE
 by_cases h1:21<w.length
 ·rw [decide_eq_true (show (21:Int)<(w.length:Int)by omega),cond_true,if_pos h1];rfl
 rw [decide_eq_false (show ¬(21:Int)<(w.length:Int)by omega),cond_false,if_neg h1,bind_go (model_e n rows w.length)]
 dsimp only
 by_cases h2:modelE rows w.length=0
 case neg=>rw [show (modelE rows w.length != 0)=true by simpa using h2,cond_true,if_pos h2];rfl
 have hm:=model_ok h2
 have hlen:=hm.len
 rw [h2,show ((0:Int) != 0)=false from rfl,cond_false,if_neg (by decide),mk24 (by omega),cond_true,cond_true,Int.toNat_natCast]
 have hcap:∀i (hi:i<w.length),capN w[i]=true:=fun i hi=>by
  have:=hw _ (List.getElem_mem hi)
  exact capN_ok this.1 (by omega)
 by_cases h3:k = -1∨k = -2
 ·rw [if_pos h3]
  have loop:∀{step:denL [tI,VT.sl 1 tN]→Option (Ans (denL [.sl 1 tN,tI]))},(∀i (hi:i<w.length) (row:List (List Nat)),row.length=w.length→step ((i:Int),row,())=some (.cont 0 [tI,VT.sl 1 tN] (((i+1:Nat):Int),row.set i (limbsK (val w[i])),())))→(∀row:List (List Nat),step ((w.length:Int),row,())=some (.ret (row,0,())))→loopA 0 [tI,VT.sl 1 tN] step fuel (0,List.replicate w.length [],())=some (.ret (w.map (fun a=>limbsK (val a)),0,())):=fun ha hb=>by
   rw [show w.length=(w.map (fun a=>limbsK (val a))).length by simp]
   refine loopA_fill (t:=.sl 1 tN) rfl [] (w.map (fun a=>limbsK (val a))) (fun row=>.ret (row,0,())) (fun i hi row hrow=>?_) (fun row=>⟨?_,rfl⟩) (fuel_lt (by simp;omega))
   ·rw [List.getElem_map]
    exact ha i (by simpa using hi) row (by simpa using hrow)
   ·have:=hb row
    rw [List.length_map]
    exact this
  rcases h3 with rfl|rfl
  ·rw [show ((-1:Int) != -1)=false from rfl,cond_false]
   refine congrArg (a₂:=some (Ans.ret (w.map (fun a=>limbsK (val a)),0,()))) unwrapA ?_
   refine loop (fun i hi row hrow=>?_) (fun row=>?_)
   ·dsimp only
    rw [dlt hi,cond_true,bind_go (ix_lt hi),bind_go (pNNorm_e n _ (hcap i hi)),put_go (by rw [hrow];exact hi),w64n (by omega)]
    rfl
   ·dsimp only
    rw [dge (Nat.le_refl _),cond_false]
  ·rw [show ((-2:Int) != -1)=true from rfl,cond_true,show ((-2:Int) != -2)=false from rfl,cond_false]
   refine congrArg (a₂:=some (Ans.ret (w.map (fun a=>limbsK (val a)),0,()))) unwrapA ?_
   refine loop (fun i hi row hrow=>?_) (fun row=>?_)
   ·dsimp only
    rw [dlt hi,cond_true,bind_go (ix_lt hi),cond_false,bind_go (pNNorm_e n _ (hcap i hi)),put_go (by rw [hrow];exact hi),w64n (by omega)]
    rfl
   ·dsimp only
    rw [dge (Nat.le_refl _),cond_false]
 rw [if_neg h3,show (k != -1)=true from by simpa using fun h=>h3 (.inl h),cond_true,show (k != -2)=true from by simpa using fun h=>h3 (.inr h),cond_true]
 by_cases h4:k<0
 ·rw [decide_eq_true h4,cond_true,if_pos h4];rfl
 rw [decide_eq_false h4,cond_false,if_neg h4,bind_go (cats_e n rows)]
 dsimp only
 by_cases h5:cats rows≤k
 ·rw [decide_eq_true h5,cond_true,if_pos h5];rfl
 rw [decide_eq_false h5,cond_false,if_neg h5]
 have hzl:((w.zip rows).map (fun x=>mulW x.1 x.2 k)).length=w.length:=by rw [List.length_map,List.length_zip];omega
 refine congrArg (a₂:=some (Ans.ret (((w.zip rows).map (fun x=>mulW x.1 x.2 k),0,()):denL [.sl 1 tN,tI]))) unwrapA ?_
 rw [←hzl]
 refine loopA_fill (R:=denL [.sl 1 tN,tI]) (t:=.sl 1 tN) rfl [] ((w.zip rows).map (fun x=>mulW x.1 x.2 k)) (fun row=>.ret (row,0,())) (fun i hi row hrow=>?_) (fun row=>?_) (fuel_lt (by omega))
 ·have hi1:i<w.length:=by omega
  have hi2:i<rows.length:=by omega
  have h6:=hm.row i hi2
  unfold cats at h5
  have hj:k.toNat<rows[i].length:=by omega
  have h7:=hm.val i hi2 k.toNat hj
  have e:rows[i].getD k.toNat 0=rows[i][k.toNat]:=by rw [List.getD_eq_getElem?_getD,List.getElem?_eq_getElem];rfl
  have ek:k=((k.toNat:Nat):Int):=by omega
  have hix:ix rows[i] k=some rows[i][k.toNat]:=(congrArg (ix rows[i]) ek).trans (ix_lt hj)
  dsimp only [cast]
  rw [dlt hi,cond_true,bind_go (ix_lt hi1),cond_true,bind_go (ix_lt hi2),bind_go hix,u64w (by omega) (by omega),bind_go (pNOf_e n _ (capU_ok (by omega) (by omega)))]
  dsimp only
  rw [bind_go (pNMul_e n _ _ (hcap i hi1) (capN_K (Nat.le_trans (log2_le (show (rows[i][k.toNat]).toNat≤2 ^ 10 by omega)) (by decide +kernel)))),put_go (by rw [hrow];exact hi),w64n (by omega),List.getElem_map,List.getElem_zip,val_K]
  unfold mulW
  rw [e]
  rfl
 ·dsimp only [cast]
  rw [dge (Nat.le_refl _),cond_false]
  exact ⟨rfl,rfl⟩
end
end Go.Proofs.YtcggnmddcbhchaaGreatDoor
set_option linter.unusedSimpArgs false
set_option linter.unusedVariables false
namespace Go.Proofs.YtcggnmddcbhchaaGreatDoor
open Go.RowKit Lim
abbrev vZ (z:Int):V:=.o (.agg [⟨.bool,decide (z<0)⟩,⟨.nat,limbsK z.natAbs⟩])
abbrev gZ:Sig:=[.agg [.bool,.nat]]
def sumT:List (Int × List Nat)→Int
 | []=>0
 | x :: r=>(val x.2:Int)+sumT r
def sumF:List (Int × List Nat)→Int
 | []=>0
 | x :: r=>(val x.2:Int)*x.1+sumF r
def sumS:List (Int × List Nat)→Int
 | []=>0
 | x :: r=>(val x.2:Int)*x.1*x.1+sumS r
theorem capZ {z:Int} (h:nlen z.natAbs≤1000000):capN (limbsK z.natAbs)=true:=by
 rw [limbsK_eq]
 exact capN_ok (dig_limbs _) (by show nlen _≤_;omega)
theorem nlen_addZ (x y:Int):nlen (x+y).natAbs≤max (nlen x.natAbs) (nlen y.natAbs)+1:=Nat.le_trans (nlen_mono (Int.natAbs_add_le _ _)) (nlen_add _ _)
theorem nlen_mulZ (x y:Int):nlen (x*y).natAbs≤nlen x.natAbs+nlen y.natAbs:=by rw [Int.natAbs_mul];exact nlen_mul _ _
theorem sumT_pos:∀{l:List (Int × List Nat)},(∀x∈l,0<val x.2)→0≤sumT l∧(l≠[]→0<sumT l)
 | [],_=>⟨by simp [sumT],fun h=>absurd rfl h⟩
 | x :: l,h=>by
  have h1:=(sumT_pos (l:=l) fun y hy=>h y (List.mem_cons_of_mem _ hy)).1
  have h2:=h x (List.mem_cons_self ..)
  rw [sumT]
  exact ⟨by omega,fun _=>by omega⟩
abbrev gS3:Sig:=[.agg [.bool,.nat],.agg [.bool,.nat],.agg [.bool,.nat],.c (.int .i64)]
def sumA (l:List (Int × List Nat)) (b:Int × Int × Int):Ans (denL gS3.ts):=if b.2.2+sumT l=0 then .ret (false,[],false,[],false,[],20,()) else .ret (decide (b.2.2+sumT l<0),limbsK (b.2.2+sumT l).natAbs,decide (b.2.1+sumF l<0),limbsK (b.2.1+sumF l).natAbs,decide (b.1+sumS l<0),limbsK (b.1+sumS l).natAbs,0,())
theorem sumA_out (l:List (Int × List Nat)) (b:Int × Int × Int):(sumA l b).out 0=true:=by unfold sumA;split <;> rfl
theorem sumA_cons (x:Int × List Nat) (l:List (Int × List Nat)) (b:Int × Int × Int):sumA (x :: l) b=sumA l (b.1+(val x.2:Int)*x.1*x.1,b.2.1+(val x.2:Int)*x.1,b.2.2+(val x.2:Int)):=by
 unfold sumA
 rw [sumT,sumF,sumS,←Int.add_assoc,←Int.add_assoc,←Int.add_assoc]
theorem sgn_zero (z:Int):(sgnI z == 0)=decide (z=0):=by
 unfold sgnI
 by_cases h1:z<0
 ·rw [if_pos h1,decide_eq_false (by omega)];rfl
 ·rw [if_neg h1]
  by_cases h2:0<z
  ·rw [if_pos h2,decide_eq_false (by omega)];rfl
  ·rw [if_neg h2,decide_eq_true (by omega)];rfl
section
variable (n:Nat)
theorem zmake (a:List Nat) (h:capN a=true):EF fuel (n+1) 130 [vB false,vN a] gZ=some (decide ((val a:Int)<0),limbsK (val a:Int).natAbs,()):=pIMake_e n false a h
theorem zof (z:Int) (h:in64 z):EF fuel (n+1) 61 [vI z] gZ=some (decide (z<0),limbsK z.natAbs,()):=pIOf_e n z h.cap
theorem zmul (x y:Int) (hx:nlen x.natAbs≤1000000) (hy:nlen y.natAbs≤1000000):EF fuel (n+1) 121 [vZ x,vZ y] gZ=some (decide (x*y<0),limbsK (x*y).natAbs,()):=by
 have:=pIMul_e n (decide (x<0)) (limbsK x.natAbs) (decide (y<0)) (limbsK y.natAbs) (capZ hx) (capZ hy)
 simp only [val_K,sg_own]at this
 exact this
theorem zadd (x y:Int) (hx:nlen x.natAbs≤1000000) (hy:nlen y.natAbs≤1000000):EF fuel (n+1) 157 [vZ x,vZ y] gZ=some (decide (x+y<0),limbsK (x+y).natAbs,()):=by
 have:=pIAdd_e n (decide (x<0)) (limbsK x.natAbs) (decide (y<0)) (limbsK y.natAbs) (capZ hx) (capZ hy)
 simp only [val_K,sg_own]at this
 exact this
theorem zsign (x:Int) (hx:nlen x.natAbs≤1000000):EF fuel (n+1) 74 [vZ x] gI=some (sgnI x,()):=by
 have:=pISign_e n (decide (x<0)) (limbsK x.natAbs) (capZ hx)
 simp only [val_K,sg_own]at this
 exact this
theorem sums_e (p w0:List Int) (w:List (List Nat)) (hg:gridE p w0=0) (hl:w.length=p.length) (hw:WOK w 1000) (hp:∀a∈w,0<val a) :
  EF fuel (n+2) 200 [vG p w0,vW w] gS3=some (decide (sumT (p.zip w)<0),limbsK (sumT (p.zip w)).natAbs,decide (sumF (p.zip w)<0),limbsK (sumF (p.zip w)).natAbs,decide (sumS (p.zip w)<0),limbsK (sumS (p.zip w)).natAbs,0,()):=by
 have hok:=grid_ok hg
 have h1:=hok.pos
 have h2:=hok.most
 have hz:(p.zip w).length=p.length:=by rw [List.length_zip];omega
 have hpos:0<sumT (p.zip w):=(sumT_pos (l:=p.zip w) fun x hx=>by
  obtain ⟨k,hk,rfl⟩:=List.getElem_of_mem hx
  rw [List.getElem_zip]
  exact hp _ (List.getElem_mem _)).2 (fun h=>by rw [h]at hz;simp at hz;omega)
 refine (grid_sums_m (n+1) p w0 w).trans ?_
 rw [bind_go (grid_e n p w0),hg]
 dsimp only
 rw [show ((0:Int) != 0)=false from rfl,cond_false,hl,show ((p.length:Int) != (p.length:Int))=false by simp,cond_false]
 refine congrArg (a₂:=some (Ans.ret ((decide (sumT (p.zip w)<0),limbsK (sumT (p.zip w)).natAbs,decide (sumF (p.zip w)<0),limbsK (sumF (p.zip w)).natAbs,decide (sumS (p.zip w)<0),limbsK (sumS (p.zip w)).natAbs,0,()):denL gS3.ts))) unwrapA ?_
 suffices key:∀{o:Option (Ans (denL gS3.ts))},o=some (sumA (p.zip w) (0,0,0))→o=some (Ans.ret (decide (sumT (p.zip w)<0),limbsK (sumT (p.zip w)).natAbs,decide (sumF (p.zip w)<0),limbsK (sumF (p.zip w)).natAbs,decide (sumS (p.zip w)<0),limbsK (sumS (p.zip w)).natAbs,0,()))from
  key (loopA_list (ts:=[tI,tB,tN,tB,tN,tB,tN]) (p.zip w) (fun k (b:Int × Int × Int)=>((k:Int),decide (b.1<0),limbsK b.1.natAbs,decide (b.2.1<0),limbsK b.2.1.natAbs,decide (b.2.2<0),limbsK b.2.2.natAbs,())) sumA (fun k b=>nlen b.1.natAbs≤1002+k∧nlen b.2.1.natAbs≤1002+k∧nlen b.2.2.natAbs≤1002+k) (fun k hk b hb=>by
   have hk1:k<p.length:=by omega
   have hk2:k<w.length:=by omega
   have hx:=hok.pts k hk1
   have ha:=hw _ (List.getElem_mem hk2)
   have hc:capN w[k]=true:=capN_ok ha.1 (by omega)
   have l1:=nlen_val ha.1
   dsimp only
   rw [dlt hk1,cond_true,bind_go (ix_lt hk1),bind_go (ix_lt hk2),sumA_cons,List.getElem_zip]
   dsimp only
   generalize p[k]=x at *
   generalize w[k]=a at *
   have l2:nlen x.natAbs≤1:=nlen_1000 (by omega)
   have l0:nlen (val a:Int).natAbs≤1000:=by rw [Int.natAbs_natCast];omega
   have l3:=nlen_mulZ (val a:Int) x
   have l4:=nlen_mulZ ((val a:Int)*x) x
   have l5:=nlen_addZ b.1 ((val a:Int)*x*x)
   have l6:=nlen_addZ b.2.1 ((val a:Int)*x)
   have l7:=nlen_addZ b.2.2 (val a:Int)
   rw [bind_go (zmake n a hc),bind_go (zof n x ⟨by omega,by omega⟩)]
   dsimp only
   rw [bind_go (zmul n _ _ (by omega) (by omega))]
   dsimp only
   rw [bind_go (zadd n b.2.2 _ (by omega) (by omega)),bind_go (zadd n b.2.1 _ (by omega) (by omega)),bind_go (zmul n _ _ (by omega) (by omega))]
   dsimp only
   rw [bind_go (zadd n b.1 _ (by omega) (by omega)),w64n (by omega)]
   exact .inr ⟨_,rfl,⟨by dsimp only;omega,by dsimp only;omega,by dsimp only;omega⟩,rfl⟩) (fun b hb=>by
   dsimp only
   rw [hz,dge (Nat.le_refl _),cond_false,bind_go (zsign n b.2.2 (by omega)),sgn_zero]
   refine ⟨?_,sumA_out _ _⟩
   unfold sumA
   rw [sumT,sumF,sumS,Int.add_zero,Int.add_zero,Int.add_zero]
   by_cases h0:b.2.2=0
   ·rw [decide_eq_true h0,if_pos h0];rfl
   ·rw [decide_eq_false h0,if_neg h0];rfl) (0,0,0) (by simp [nlen_zero]) (fuel_lt (by omega)))
 rintro o rfl
 unfold sumA
 rw [Int.zero_add,Int.zero_add,Int.zero_add,if_neg (by omega)]
 rfl
end
end Go.Proofs.YtcggnmddcbhchaaGreatDoor
set_option linter.unusedSimpArgs false
set_option linter.unusedVariables false
namespace Go.Proofs.YtcggnmddcbhchaaGreatDoor
open Go.RowKit Lim
def meanN (p:List Int) (w:List (List Nat)):Int:=rn (mz (sumF (p.zip w)) (sumT (p.zip w))) (sumT (p.zip w)).natAbs
def meanD (p:List Int) (w:List (List Nat)):Nat:=rd (mz (sumF (p.zip w)) (sumT (p.zip w))) (sumT (p.zip w)).natAbs
def meanU (p:List Int) (w:List (List Nat)):Int:=rndU (rn (pz (meanN p w) (meanD p w)) (pd (meanD p w))) (rd (pz (meanN p w) (meanD p w)) (pd (meanD p w))) 2 1
def lineT (p:List Int) (w:List (List Nat)) (i:Nat) (s:Int × Int):List UInt8:=itoaK (i:Int) ++ [32] ++ idT [73,84,77] 1 s.1 ++ [32,99,97,116,101,103,111,114,121,32] ++ itoaK s.2 ++ [32,109,101,97,110,32] ++ decTK (meanU p w) 2
def explE (p:List Int) (pool:List PI):List (Int × Int)→Nat→List (List Nat)→List (List UInt8)→List (List UInt8) × Int
 | [],_,_,L=>(L,0)
 | s :: r,i,w,L=>match findE pool s.1 with
  | none=>([],6)
  | some y=>if (updE w y.2.2.2.2.2.2.2.2 s.2).2≠0 then ([],(updE w y.2.2.2.2.2.2.2.2 s.2).2) else explE p pool r (i+1) (updE w y.2.2.2.2.2.2.2.2 s.2).1 (L ++ [lineT p (updE w y.2.2.2.2.2.2.2.2 s.2).1 (i+1) s])
def explainE (p w0:List Int) (pool:List PI) (steps:List (Int × Int)):List (List UInt8) × Int:=if (startE p w0).2≠0 then ([],(startE p w0).2) else if poolE pool p.length≠0 then ([],poolE pool p.length) else if 18<steps.length then ([],5) else explE p pool steps 0 (startE p w0).1 []
theorem sumF_len:∀{l:List (Int × List Nat)} {c:Nat},(∀x∈l,nlen x.1.natAbs≤1∧nlen (val x.2)≤c)→nlen (sumF l).natAbs≤c+2+l.length∧nlen (sumT l).natAbs≤c+2+l.length
 | [],c,_=>by simp [sumF,sumT,nlen_zero]
 | x :: l,c,h=>by
  have h1:=sumF_len (l:=l) (c:=c) fun y hy=>h y (List.mem_cons_of_mem _ hy)
  have h2:=h x (List.mem_cons_self ..)
  rw [sumF,sumT]
  have l1:=nlen_mulZ (val x.2:Int) x.1
  have l2:=nlen_addZ ((val x.2:Int)*x.1) (sumF l)
  have l3:=nlen_addZ (val x.2:Int) (sumT l)
  rw [Int.natAbs_natCast]at l1 l3
  rw [List.length_cons]
  omega
structure WtOK (p:List Int) (w:List (List Nat)) (c:Nat):Prop where
 len:w.length=p.length
 ok:WOK w c
 pos:∀a∈w,0<val a
theorem WtOK.sums {p w0:List Int} {w:List (List Nat)} {c:Nat} (h:WtOK p w c) (hg:GridOK p w0):0<sumT (p.zip w)∧nlen (sumF (p.zip w)).natAbs≤c+23∧nlen (sumT (p.zip w)).natAbs≤c+23:=by
 have h1:=hg.pos
 have h2:=hg.most
 have h3:=h.len
 have hz:(p.zip w).length=p.length:=by rw [List.length_zip];omega
 have hpos:0<sumT (p.zip w):=(sumT_pos (l:=p.zip w) fun x hx=>by
  obtain ⟨k,hk,rfl⟩:=List.getElem_of_mem hx
  rw [List.getElem_zip]
  exact h.pos _ (List.getElem_mem _)).2 (fun h=>by rw [h]at hz;simp at hz;omega)
 have hl:=sumF_len (l:=p.zip w) (c:=c) fun x hx=>by
  obtain ⟨k,hk,rfl⟩:=List.getElem_of_mem hx
  rw [List.getElem_zip]
  have hx:=hg.pts k (by omega)
  have ha:=h.ok _ (List.getElem_mem (show k<w.length by omega))
  have:=nlen_val ha.1
  exact ⟨nlen_1000 (by dsimp only;omega),by dsimp only;omega⟩
 exact ⟨hpos,by omega,by omega⟩
theorem nlen_rnz (z:Int) (d:Nat):nlen (rn z d).natAbs≤nlen z.natAbs∧nlen (rd z d)≤nlen d:=by
 refine ⟨?_,nlen_mono (Nat.div_le_self _ _)⟩
 rw [rn_abs]
 exact nlen_mono (Nat.div_le_self _ _)
section
variable (n:Nat)
theorem mean_e (p w0:List Int) (w:List (List Nat)) (hg:gridE p w0=0) {c:Nat} (h:WtOK p w c) (hc:c≤1000) :
  EF fuel (n+4) 97 [vG p w0,vW w] [.agg [.bool,.nat,.nat],.c (.int .i64)]=some (decide (meanN p w<0),limbsK (meanN p w).natAbs,limbsK (meanD p w),0,()):=by
 have hw:WOK w 1000:=fun a ha=>⟨(h.ok a ha).1,by have:=(h.ok a ha).2;omega⟩
 obtain ⟨hT,lF,lT⟩:=h.sums (grid_ok hg)
 refine (estimate_Mean_m (n+3) p w0 w).trans ?_
 have hm:EF fuel (n+3) 152 [vG p w0,vW w] [.agg [.bool,.nat,.nat],.c (.int .i64)]=some (decide (meanN p w<0),limbsK (meanN p w).natAbs,limbsK (meanD p w),0,()):=by
  refine (grid_Mean_m (n+2) p w0 w).trans ?_
  have hs:=sums_e n p w0 w hg h.len hw h.pos
  have hr:=pRMake_e (n+1) (decide (sumF (p.zip w)<0)) (limbsK (sumF (p.zip w)).natAbs) (decide (sumT (p.zip w)<0)) (limbsK (sumT (p.zip w)).natAbs) (capZ (by omega)) (capZ (by omega)) (by rw [val_K,sg_own];exact decide_eq_true (by omega))
  simp only [val_K,sg_own]at hr
  rw [bind_go hs]
  dsimp only
  rw [show ((0:Int) != 0)=false from rfl,cond_false,bind_go hr]
  rfl
 rw [bind_go hm]
 rfl
theorem round_e (p:List Int) (w:List (List Nat)) (h1:nlen (meanN p w).natAbs≤100000) (h2:nlen (meanD p w)≤100000) :
  EF fuel (n+1) 98 [.o (.agg [⟨.bool,decide (meanN p w<0)⟩,⟨.nat,limbsK (meanN p w).natAbs⟩,⟨.nat,limbsK (meanD p w)⟩]),vI 2,vI 1] [.agg [.bool,.nat,.int .i64],.c (.int .i64)]=some (decide (meanU p w<0),limbsK (meanU p w).natAbs,2,0,()):=by
 have hr:=pDRound_e n (decide (meanN p w<0)) (limbsK (meanN p w).natAbs) (limbsK (meanD p w)) 2 1 (capZ (by omega)) (by have:=capZ (z:=(meanD p w:Int)) (by rw [Int.natAbs_natCast];omega);rwa [Int.natAbs_natCast]at this) rfl rfl rfl
 simp only [val_K,sg_own]at hr
 exact hr
theorem dtext_e (p:List Int) (w:List (List Nat)) (h:nlen (meanU p w).natAbs≤100100) :
  EF fuel (n+1) 99 [.o (.agg [⟨.bool,decide (meanU p w<0)⟩,⟨.nat,limbsK (meanU p w).natAbs⟩,⟨.int .i64,2⟩])] [.c .str,.c (.int .i64)]=some (decTK (meanU p w) 2,0,()):=by
 have hr:=pDPrint_e n (decide (meanU p w<0)) (limbsK (meanU p w).natAbs) 2 (capZ (by omega)) rfl
 simp only [val_K,sg_own]at hr
 exact hr
theorem line_e (p w0:List Int) (w:List (List Nat)) (i:Nat) (s:Int × Int) (hg:gridE p w0=0) {c:Nat} (h:WtOK p w c) (hc:c≤1000) (hi:i≤1000) (h1:numB s.1=true) (h2:in64 s.2) :
  EF fuel (n+5) 46 [vG p w0,vW w,vI (i:Int),.o (.agg [⟨.int .i64,s.1⟩,⟨.int .i64,s.2⟩])] [.c .str,.c (.int .i64)]=some (lineT p w i s,0,()):=by
 obtain ⟨hT,lF,lT⟩:=h.sums (grid_ok hg)
 unfold numB at h1
 rw [Bool.and_eq_true]at h1
 have i1:=of_decide_eq_true h1.1
 have i2:=of_decide_eq_true h1.2
 have hmz:nlen (mz (sumF (p.zip w)) (sumT (p.zip w))).natAbs=nlen (sumF (p.zip w)).natAbs:=by unfold mz;rw [if_neg (by omega)]
 have hN:=nlen_rnz (mz (sumF (p.zip w)) (sumT (p.zip w))) (sumT (p.zip w)).natAbs
 have lN:nlen (meanN p w).natAbs≤c+23:=by have:=hN.1;unfold meanN;omega
 have lD:nlen (meanD p w)≤c+23:=by have:=hN.2;unfold meanD;omega
 have lR:=(nlen_rnz (pz (meanN p w) (meanD p w)) (pd (meanD p w))).1
 have lP:=nlen_pz' (meanN p w) (meanD p w)
 have lU:nlen (meanU p w).natAbs≤c+25:=by
  have:=rndU_nlen (rn (pz (meanN p w) (meanD p w)) (pd (meanD p w))) (rd (pz (meanN p w) (meanD p w)) (pd (meanD p w))) 2 1 (by omega)
  unfold meanU
  omega
 have t1:=itoa_l21 (z:=(i:Int)) ⟨by omega,by omega⟩
 have t2:=itoa_l21 h2
 have t3:=idT_len (y:=[73,84,77]) (k:=1) (c:=s.1) rfl ⟨by omega,by omega⟩
 have t4:(decTK (meanU p w) 2).length<10995116277800:=by rw [decTK_eq];exact decTx_len (by omega) (by omega)
 have hid:=identPrint_e (n+1) 1 s.1 [73,84,77] (by omega) (by omega) i1 i2 rfl rfl
 refine (report_explain_m (n+4) p w0 w i s.1 s.2).trans ?_
 rw [bind_go hid]
 dsimp only
 rw [show ((0:Int) != 0)=false from rfl,cond_false,bind_go (mean_e n p w0 w hg h hc)]
 dsimp only
 rw [show ((0:Int) != 0)=false from rfl,cond_false,bind_go (round_e (n+3) p w (by omega) (by omega))]
 dsimp only
 rw [show ((0:Int) != 0)=false from rfl,cond_false,bind_go (dtext_e (n+3) p w (by omega))]
 dsimp only
 rw [show ((0:Int) != 0)=false from rfl,cond_false,bind_go (itoa_e (n+3) (i:Int) ⟨by omega,by omega⟩)]
 dsimp only
 rw [strB_le (by simp only [List.length_append,List.length_cons,List.length_nil];omega),strB_le (by simp only [List.length_append,List.length_cons,List.length_nil];omega),strB_le (by simp only [List.length_append,List.length_cons,List.length_nil];omega),bind_go (itoa_e (n+3) s.2 h2)]
 dsimp only
 rw [strB_le (by simp only [List.length_append,List.length_cons,List.length_nil];omega),strB_le (by simp only [List.length_append,List.length_cons,List.length_nil];omega),strB_le (by simp only [List.length_append,List.length_cons,List.length_nil];omega)]
 rfl
end
end Go.Proofs.YtcggnmddcbhchaaGreatDoor
set_option linter.unusedSimpArgs false
set_option linter.unusedVariables false
namespace Go.Proofs.YtcggnmddcbhchaaGreatDoor
open Go.RowKit Lim
section
variable (n:Nat)
end
theorem awake_e:EF fuel 20 15 [] gB=some (true,()):=by kernel_rfl
end Go.Proofs.YtcggnmddcbhchaaGreatDoor
set_option linter.unusedSimpArgs false
set_option linter.unusedVariables false
namespace Go.Proofs.YtcggnmddcbhchaaGreatDoor
open Go.ChangeShapes Go.WideShapes Go.ChangeAt Go.RowKit Lim
inductive SH where
 | int (k:IntKind)
 | bool
 | str
 | nat
 | sl (e:SH)
 | nil
 | cons (f r:SH)
def SH.sz:SH→Nat
 | .nil=>0
 | .cons f r=>f.sz+r.sz
 | _=>1
inductive Ok (B:Nat):SH→List AV→Prop
 | int {k:IntKind} {z:Int} (h:k.min≤z∧z≤k.max):Ok B (.int k) [.lit (.int k z)]
 | bool {b:Bool}:Ok B .bool [.lit (.bool b)]
 | str {l:List UInt8} (h:l.length≤B):Ok B .str [Go.Proofs.YtcggnmddcbhchaaGreatDoor.str l]
 | nat {l:List Nat} (h1:Dig l) (h2:l.length≤B):Ok B .nat [.nat l]
 | sl {e:SH} {xs:List (List AV)} (h1:xs.length≤B) (h2:∀x,x∈xs→Ok B e x):Ok B (.sl e) [.sl e.sz (xs.map (mkEl e.sz))]
 | nil:Ok B .nil []
 | cons {f r:SH} {a b:List AV} (h1:Ok B f a) (h2:Ok B r b):Ok B (.cons f r) (a ++ b)
theorem Ok.facts {B:Nat} {s:SH} {cs:List AV} (h:Ok B s cs):cs.length=s.sz∧cs.all AV.one=true:=by
 induction h with
 | cons _ _ ih1 ih2=>simp only [SH.sz,List.length_append,List.all_append,ih1.1,ih2.1,ih1.2,ih2.2,Bool.and_self];exact ⟨trivial,trivial⟩
 | nil=>exact ⟨rfl,rfl⟩
 | _=>exact ⟨rfl,rfl⟩
def shB (P:Program):SH→(TypeId→Bool) × (List Field→Nat→Bool)
 | .int k=>(fun t=>match P.underlying t with|some (.int k')=>decide (k'=k)|_=>false,fun _ _=>false)
 | .bool=>(fun t=>match P.underlying t with|some .bool=>true|_=>false,fun _ _=>false)
 | .str=>(fun t=>match P.underlying t with|some .string=>true|_=>false,fun _ _=>false)
 | .nat=>(fun t=>match P.underlying t with|some (.slice e)=>(match P.underlying e with|some (.int .u32)=>P.cellsOf e == 1|_=>false)|_=>false,fun _ _=>false)
 | .sl s=>(fun t=>match P.underlying t with|some (.slice e)=>(shB P s).1 e && P.cellsOf e == s.sz && decide (0<s.sz)|_=>false,fun _ _=>false)
 | .nil=>(fun t=>match P.underlying t with|some (.struct fs)=>fs.toList.isEmpty && P.cellsOf t == 0|_=>false,fun fs _=>fs.isEmpty)
 | .cons f r=>(fun t=>match P.underlying t with|some (.struct fs)=>(match fs.toList with|g :: gs=>g.offset == 0 && (shB P f).1 g.type && P.cellsOf g.type == f.sz && (shB P r).2 gs (0+f.sz)|[]=>false) && P.cellsOf t == f.sz+r.sz|_=>false,
   fun fs off=>match fs with|g :: gs=>g.offset == off && (shB P f).1 g.type && P.cellsOf g.type == f.sz && (shB P r).2 gs (off+f.sz)|[]=>false)
theorem bulk_one {H:Type} (d:DataW H):1≤Rows.uptoBulk d:=by
 cases d with
 | lit l=>cases l <;> simp [Rows.uptoBulk]
 | nil=>simp [Rows.uptoBulk]
 | ptr d=>simp [Rows.uptoBulk]
 | slice elems spare=>simp [Rows.uptoBulk]
 | agg parts=>simp [Rows.uptoBulk]
 | iface t d=>simp [Rows.uptoBulk]
 | map entries=>simp [Rows.uptoBulk]
 | held h=>simp [Rows.uptoBulk]
theorem bulk_len {H:Type} (l:List (DataW H)):l.length≤Rows.uptoBulkAll l:=by
 induction l with
 | nil=>simp [Rows.uptoBulkAll]
 | cons x r ih=>have:=bulk_one x;simp only [Rows.uptoBulkAll,List.length_cons];omega
theorem bulk_mem {H:Type} {l:List (DataW H)} {x:DataW H} (h:x∈l):Rows.uptoBulk x≤Rows.uptoBulkAll l:=by
 induction l with
 | nil=>simp at h
 | cons y r ih =>
  simp only [Rows.uptoBulkAll]
  rcases List.mem_cons.1 h with rfl|h
  ·omega
  ·have:=ih h;omega
theorem cell_spot {w:World} {a:Addr} {v:Value} (h:w.cell? a=some v):a=⟨a.block,a.off,none⟩:=by
 obtain ⟨b,o,s⟩:=a
 cases s with
 | none=>rfl
 | some q =>
  simp only [World.cell?]at h
  split at h <;> simp at h
abbrev inW (w:World):Zone:=fun b _=>b<w.heap.size
section
variable {H:Type} {enc:TypeId × Value→H} {P:Program} {w:World} {base:Nat} {spare:Nat→Bool} {held:Bool} {B:Nat}
theorem open_nat {t e:TypeId} {fuel:Nat} {cs:List Value} {x:DataW H × List MemPlace} (ht:P.underlying t=some (.slice e)) (he:P.underlying e=some (.int .u32)) (hc:P.cellsOf e=1)
  (h:DataW.trod enc P w base spare held fuel t cs=some x) (hB:Rows.uptoBulk x.1≤B):∃l v,cs=[v]∧Dig l∧l.length≤B∧Rep w (inW w) (.nat l) v:=by
 rcases open_ints ht he hc h with ⟨rfl,rfl⟩|⟨a,len,cap,zs,rfl,_,hl,hm,hz,rfl,hcell,hwf⟩
 ·exact ⟨[],_,rfl,dig_nil,by simp,Rep.nat (l:=[]) (Rd.nil _ _) (by simp) (fun _ _ _ j hj=>by simp at hj)⟩
 ·have hlen:len≤zs.length:=by rw [hz];split <;> omega
  have hb:∀n∈zs,0≤n∧n<4294967296:=fun n hn=>by
   have:=hwf n hn
   simp [Lit.wf,IntKind.min,IntKind.max,IntKind.signed,IntKind.bits]at this
   omega
  have hl2:((zs.take len).map Int.toNat).length=len:=by simp;omega
  have hd:Dig ((zs.take len).map Int.toNat):=by
   intro y hy
   obtain ⟨n,hn,rfl⟩:=List.mem_map.1 hy
   have:=hb n (List.mem_of_mem_take hn)
   omega
  have hR:Rd w (some a) ((zs.take len).map Int.toNat):=⟨hd,fun hpos=>by
   have h0:=hcell 0 (by omega)
   rw [show a.add 0=a by simp [Addr.add]]at h0
   have ha:=cell_spot h0
   refine ⟨a.block,a.off,by rw [←ha],World.block_lt_of_cell? w a h0,fun j hj=>?_⟩
   have hj2:j<zs.length:=by omega
   have:=hcell j hj2
   rw [ha,add_addr]at this
   rw [this]
   simp only [List.getElem_map,List.getElem_take]
   have hb2:=hb zs[j] (List.getElem_mem hj2)
   rw [Int.toNat_of_nonneg hb2.1]
   simp [List.getD,List.getElem?_eq_getElem hj2]⟩
  refine ⟨(zs.take len).map Int.toNat,.slice (some a) ((zs.take len).map Int.toNat).length cap,by rw [hl2],hd,?_,.nat hR (by omega) ?_⟩
  ·rw [hl2]
   simp only [Rows.uptoBulk]at hB
   have h1:=bulk_len (lits (H:=H) .u32 (zs.take len))
   have:(lits (H:=H) .u32 (zs.take len)).length=len:=by simp [lits];omega
   omega
  ·intro b off e j hj
   obtain ⟨b',off',e',hb',_⟩:=hR.2 (by omega)
   rw [e]at e'
   cases e'
   exact hb'
def Stand (w:World) (as':List AV) (cs:List Value):Prop:=as'.length=cs.length∧∀j (h1:j<as'.length) (h2:j<cs.length),Rep w (inW w) (as'[j]'h1) (cs[j]'h2)
theorem Stand.one {a:AV} {v:Value} (h:Rep w (inW w) a v):Stand w [a] [v]:=⟨rfl,fun j h1 h2=>by
 have:j=0:=by simp at h1;exact h1
 subst this
 exact h⟩
theorem add_cell {a:Addr} {i j:Nat}:(a.add i).add j=a.add (i+j):=Go.Deep.add_add a i j
theorem open_sl {s:SH} {t e:TypeId} {fuel:Nat} {cs:List Value} {x:DataW H × List MemPlace} (ht:P.underlying t=some (.slice e)) (hc:P.cellsOf e=s.sz) (hs:0<s.sz)
  (ih:∀{n:Nat} {cs':List Value} {y:DataW H × List MemPlace},DataW.trod enc P w base spare held n e cs'=some y→Rows.uptoBulk y.1≤B→∃as',Ok B s as'∧Stand w as' cs')
  (h:DataW.trod enc P w base spare held fuel t cs=some x) (hB:Rows.uptoBulk x.1≤B):∃as',Ok B (.sl s) as'∧Stand w as' cs:=by
 rcases Go.Deep.open_slice ht h with ⟨rfl,rfl⟩|⟨a,len,cap,m,n,D,Pl,rfl,hb,hl,hm,hmm,rfl,hx⟩
 ·exact ⟨_,.sl (xs:=[]) (by simp) (fun x hx=>by simp at hx),Stand.one .nil⟩
 have hlm:len≤m:=by rw [hmm];split <;> omega
 simp only [Rows.uptoBulk]at hB
 have h1:=bulk_len ((List.range len).map D)
 have h2:((List.range len).map D).length=len:=by simp
 have hel:∀i,i<len→∃as',Ok B s as'∧∃cs',w.cells? base (a.add (i*s.sz)) s.sz=some cs'∧Stand w as' cs':=fun i hi=>by
  obtain ⟨cs',k1,k2⟩:=hx i (by omega)
  rw [hc]at k1
  have k3:Rows.uptoBulk (D i)≤Rows.uptoBulkAll ((List.range len).map D):=bulk_mem (List.mem_map.2 ⟨i,List.mem_range.2 hi,rfl⟩)
  obtain ⟨as',o1,o2⟩:=ih k2 (show Rows.uptoBulk (D i)≤B by omega)
  exact ⟨as',o1,cs',k1,o2⟩
 let A:Nat→List AV:=fun i=>if h:i<len then Classical.choose (hel i h) else []
 have hA:∀i (hi:i<len),Ok B s (A i)∧∃cs',w.cells? base (a.add (i*s.sz)) s.sz=some cs'∧Stand w (A i) cs':=fun i hi=>by
  have:=Classical.choose_spec (hel i hi)
  simp only [A,dif_pos hi]
  exact this
 let V:Nat→List Value:=fun i=>(w.cells? base (a.add (i*s.sz)) s.sz).getD []
 have hV:∀i (hi:i<len),w.cells? base (a.add (i*s.sz)) s.sz=some (V i)∧Stand w (A i) (V i):=fun i hi=>by
  obtain ⟨_,cs',k1,k2⟩:=hA i hi
  simp only [V,k1,Option.getD_some]
  exact ⟨trivial,k2⟩
 have hcl:∀i (hi:i<len) j (hj:j<s.sz),∃hv:j<(V i).length,w.cell? (a.add (i*s.sz+j))=some ((V i)[j]'hv):=fun i hi j hj=>by
  obtain ⟨_,k2,k3⟩:=World.cells?_some (hV i hi).1
  refine ⟨by omega,?_⟩
  rw [←add_cell,k3 j hj,List.getElem?_eq_getElem]
 have hE:∀i (hi:i<len),(mkEl s.sz (A i)).cells=A i:=fun i hi=>mkEl_cells hs (hA i hi).1.facts.1 (hA i hi).1.facts.2
 have hmm':((List.range len).map A).map (mkEl s.sz)=(List.range len).map fun i=>mkEl s.sz (A i):=by rw [List.map_map];rfl
 refine ⟨_,.sl (xs:=(List.range len).map A) (by simp;omega) (fun x hx=>?_),Stand.one ?_⟩
 ·obtain ⟨i,hi,rfl⟩:=List.mem_map.1 hx
  exact (hA i (List.mem_range.1 hi)).1
 ·rw [hmm']
  by_cases h0:len=0
  ·subst h0
   exact .nil
  ·obtain ⟨_,hc0⟩:=hcl 0 (by omega) 0 hs
   have hadd0:a.add (0*s.sz+0)=a:=by simp [Addr.add]
   rw [hadd0]at hc0
   have ha:=cell_spot hc0
   have hlt:=World.block_lt_of_cell? w a hc0
   have key:Rep w (inW w) (.sl s.sz ((List.range len).map fun i=>mkEl s.sz (A i))) (.slice (some ⟨a.block,a.off,none⟩) ((List.range len).map fun i=>mkEl s.sz (A i)).length cap):=by
    refine .sl (fun i j=>(V i).getD j undef) hlt (by simp;exact hl) (fun i hi=>?_) (fun i j hi hj=>?_) (fun i hi j hj=>?_)
    ·simp only [List.length_map,List.length_range]at hi
     simp only [List.getElem_map,List.getElem_range,hE i hi]
     exact (hA i hi).1.facts.1
    ·simp only [List.length_map,List.length_range]at hi
     obtain ⟨q1,q2⟩:=hcl i hi j hj
     rw [ha,add_addr]at q2
     refine ⟨?_,hlt⟩
     rw [Nat.add_assoc,q2]
     simp [List.getD,List.getElem?_eq_getElem q1]
    ·simp only [List.length_map,List.length_range]at hi
     have e0:((List.range len).map fun i=>mkEl s.sz (A i))[i]'(by simpa using hi)=mkEl s.sz (A i):=by simp
     have hj':j<(A i).length:=by
      rw [←hE i hi]
      simpa [e0]using hj
     obtain ⟨q1,q2⟩:=hcl i hi j (by rw [←(hA i hi).1.facts.1];exact hj')
     have:=(hV i hi).2.2 j hj' q1
     have e1:(V i).getD j undef=(V i)[j]:=by simp [List.getD,List.getElem?_eq_getElem q1]
     rw [e1]
     have e2:(((List.range len).map fun i=>mkEl s.sz (A i))[i]'(by simpa using hi)).cells[j]'hj=(A i)[j]:=by simp only [e0,hE i hi]
     rw [e2]
     exact this
   rw [ha]
   simpa using key
end
end Go.Proofs.YtcggnmddcbhchaaGreatDoor
set_option linter.unusedSimpArgs false
set_option linter.unusedVariables false
namespace Go.Proofs.YtcggnmddcbhchaaGreatDoor
open Go.ChangeShapes Go.WideShapes Go.ChangeAt Go.RowKit Lim
section
variable {H:Type} {enc:TypeId × Value→H} {P:Program} {w:World} {base:Nat} {spare:Nat→Bool} {held:Bool} {B:Nat}
theorem Stand.app {as' bs':List AV} {cs ds:List Value} (h1:Stand w as' cs) (h2:Stand w bs' ds):Stand w (as' ++ bs') (cs ++ ds):=by
 refine ⟨by rw [List.length_append,List.length_append,h1.1,h2.1],fun j k1 k2=>?_⟩
 by_cases hj:j<as'.length
 ·rw [List.getElem_append_left hj,List.getElem_append_left (by rw [←h1.1];exact hj)]
  exact h1.2 j hj _
 ·have e:cs.length=as'.length:=h1.1.symm
  rw [List.getElem_append_right (by omega),List.getElem_append_right (by omega)]
  have:=h2.2 (j-as'.length) (by simp at k1;omega) (by simp at k2;omega)
  simpa [e]using this
def OpenF (enc:TypeId × Value→H) (P:Program) (w:World) (base:Nat) (spare:Nat→Bool) (held:Bool) (B:Nat) (s:SH):Prop :=
 ∀(fs:List Field) (off n:Nat) (cs:List Value) (xs:List (DataW H × List MemPlace)),(shB P s).2 fs off=true→off+s.sz≤cs.length →
  (∀(i:Nat) (f:Field),fs[i]? = some f→DataW.trod enc P w base spare held n f.type ((cs.drop f.offset).take (P.cellsOf f.type))=xs[i]?)→xs.length=fs.length →
  Rows.uptoBulkAll (xs.map (·.1))≤B→∃as',Ok B s as'∧Stand w as' ((cs.drop off).take s.sz)
def OpenT (enc:TypeId × Value→H) (P:Program) (w:World) (base:Nat) (spare:Nat→Bool) (held:Bool) (B:Nat) (s:SH):Prop :=
 ∀(t:TypeId) (n:Nat) (cs:List Value) (x:DataW H × List MemPlace),(shB P s).1 t=true→DataW.trod enc P w base spare held n t cs=some x→Rows.uptoBulk x.1≤B→∃as',Ok B s as'∧Stand w as' cs
theorem openT_struct {s:SH} (hF:OpenF enc P w base spare held B s) {t:TypeId} {fs:Array Field} (hu:P.underlying t=some (.struct fs)) (hs:(shB P s).2 fs.toList 0=true) (hc:P.cellsOf t=s.sz)
  {n:Nat} {cs:List Value} {x:DataW H × List MemPlace} (h:DataW.trod enc P w base spare held n t cs=some x) (hB:Rows.uptoBulk x.1≤B):∃as',Ok B s as'∧Stand w as' cs:=by
 obtain ⟨xs,n,rfl,rfl,hl,hx,hf⟩:=DataW.trod_struct hu h
 rw [hc]at hl
 simp only [Rows.uptoBulk]at hB
 obtain ⟨as',h1,h2⟩:=hF fs.toList 0 n cs xs hs (by omega) (fun i f hi=>hf i f (by simpa using hi)) (by simpa using hx) (by omega)
 rw [List.drop_zero,List.take_of_length_le (by omega)]at h2
 exact ⟨as',h1,h2⟩
theorem open_sh:∀s:SH,OpenT enc P w base spare held B s∧OpenF enc P w base spare held B s
 | .int k=>⟨fun t n cs x hs h hB=>by
   simp only [shB]at hs
   split at hs
   ·rename_i k' hu
    have hs:=of_decide_eq_true hs
    subst hs
    obtain ⟨z,rfl,rfl,hw⟩:=DataW.trod_int hu h
    refine ⟨_,.int (z:=z) ?_,Stand.one (.lit rfl)⟩
    simpa [Lit.wf]using hw
   ·exact Bool.noConfusion hs,fun fs off n cs xs hs=>by simp [shB]at hs⟩
 | .bool=>⟨fun t n cs x hs h hB=>by
   simp only [shB]at hs
   split at hs
   ·rename_i hu
    obtain ⟨b,rfl,rfl⟩:=DataW.trod_bool hu h
    exact ⟨_,.bool (b:=b),Stand.one (.lit rfl)⟩
   ·exact Bool.noConfusion hs,fun fs off n cs xs hs=>by simp [shB]at hs⟩
 | .str=>⟨fun t n cs x hs h hB=>by
   simp only [shB]at hs
   split at hs
   ·rename_i hu
    obtain ⟨b,rfl,rfl,_⟩:=DataW.trod_string hu h
    simp only [Rows.uptoBulk]at hB
    refine ⟨_,.str (l:=b.data.toList) (by omega),Stand.one ?_⟩
    have e:bs b.data.toList=b:=by cases b;simp [bs]
    show Rep w _ (.lit (.string (bs b.data.toList))) (.string b)
    rw [e]
    exact .lit rfl
   ·exact Bool.noConfusion hs,fun fs off n cs xs hs=>by simp [shB]at hs⟩
 | .nat=>⟨fun t n cs x hs h hB=>by
   simp only [shB]at hs
   split at hs
   ·rename_i e hu
    split at hs
    ·rename_i he
     obtain ⟨l,v,rfl,h1,h2,h3⟩:=open_nat hu he (by simpa using hs) h hB
     exact ⟨_,.nat h1 h2,Stand.one h3⟩
    ·cases hs
   ·exact Bool.noConfusion hs,fun fs off n cs xs hs=>by simp [shB]at hs⟩
 | .sl s=>⟨fun t n cs x hs h hB=>by
   simp only [shB]at hs
   split at hs
   ·rename_i e hu
    simp only [Bool.and_eq_true,beq_iff_eq,decide_eq_true_eq]at hs
    exact open_sl hu hs.1.2 hs.2 (fun hy hb=>(open_sh s).1 e _ _ _ hs.1.1 hy hb) h hB
   ·exact Bool.noConfusion hs,fun fs off n cs xs hs=>by simp [shB]at hs⟩
 | .nil=>by
  have hF:OpenF enc P w base spare held B .nil:=fun fs off n cs xs hs hl hf hx hb=>⟨[],.nil,by simp [SH.sz],fun j h1 h2=>by simp at h1⟩
  refine ⟨fun t n cs x hs h hB=>?_,hF⟩
  simp only [shB]at hs
  split at hs
  ·rename_i fs hu
   simp only [Bool.and_eq_true,beq_iff_eq]at hs
   exact openT_struct hF hu hs.1 hs.2 h hB
  ·cases hs
 | .cons f r=>by
  have hF:OpenF enc P w base spare held B (.cons f r):=fun fs off n cs xs hs hl hf hx hb=>by
   cases fs with
   | nil=>simp [shB]at hs
   | cons g gs =>
    simp only [shB,Bool.and_eq_true,beq_iff_eq]at hs
    obtain ⟨⟨⟨ho,hg⟩,hc⟩,hr⟩:=hs
    cases xs with
    | nil=>simp at hx
    | cons x xs =>
     simp only [List.map_cons,Rows.uptoBulkAll]at hb
     simp only [SH.sz]at hl
     have h0:=hf 0 g rfl
     rw [ho,hc]at h0
     obtain ⟨as1,k1,k2⟩:=(open_sh f).1 g.type n _ x hg h0 (by omega)
     obtain ⟨as2,k3,k4⟩:=(open_sh r).2 gs (off+f.sz) n cs xs hr (by omega) (fun i q hi=>hf (i+1) q (by simpa using hi)) (by simpa using hx) (by omega)
     refine ⟨as1 ++ as2,.cons k1 k3,?_⟩
     have e:(cs.drop off).take (f.sz+r.sz)=(cs.drop off).take f.sz ++ (cs.drop (off+f.sz)).take r.sz:=by
      rw [List.take_add,List.drop_drop]
     show Stand w _ ((cs.drop off).take (f.sz+r.sz))
     rw [e]
     exact k2.app k4
  refine ⟨fun t n cs x hs h hB=>?_,hF⟩
  simp only [shB]at hs
  split at hs
  ·rename_i fs hu
   simp only [Bool.and_eq_true,beq_iff_eq]at hs
   exact openT_struct hF hu hs.1 hs.2 h hB
  ·cases hs
def SH.top:SH→List AV→AV
 | .nil,cs=>.agg cs
 | .cons _ _,cs=>.agg cs
 | _,cs=>cs.headD (.agg [])
theorem stand_top {s:SH} {t:TypeId} {v:Value} {as':List AV} {r:Reach} (hs:(shB P s).1 t=true) (ho:Ok B s as') (h:Stand w as' v.cells.toList) (hv:Value.okWide P w r base t v):Rep w (inW w) (s.top as') v:=by
 have one:∀{a:AV},as'=[a]→v.cells.toList=[v]→Rep w (inW w) a v:=fun {a} e1 e2=>by
  subst e1
  rw [e2]at h
  exact h.2 0 (by simp) (by simp)
 have agg:(∃cs,v=.agg cs)→Rep w (inW w) (.agg as') v:=fun ⟨cs,e⟩=>by
  subst e
  have h':Stand w as' cs.toList:=h
  exact .agg (by have:=h'.1;simp at this;omega) fun j hj=>by
   have:=h'.2 j hj (by have:=h'.1;simp at this ⊢;omega)
   simpa using this
 cases ho with
 | int hh =>
  simp only [shB]at hs
  split at hs
  ·rename_i hu
   obtain ⟨n,rfl⟩:=okWide_int hu hv
   exact one rfl rfl
  ·cases hs
 | bool =>
  simp only [shB]at hs
  split at hs
  ·rename_i hu
   obtain ⟨n,rfl⟩:=okWide_bool hu hv
   exact one rfl rfl
  ·cases hs
 | str hh =>
  simp only [shB]at hs
  split at hs
  ·rename_i hu
   obtain ⟨n,rfl⟩:=okWide_string hu hv
   exact one rfl rfl
  ·cases hs
 | nat h1 h2 =>
  simp only [shB]at hs
  split at hs
  ·rename_i hu
   obtain ⟨a,n,c,rfl⟩:=okWide_slice hu hv
   exact one rfl rfl
  ·cases hs
 | sl h1 h2 =>
  simp only [shB]at hs
  split at hs
  ·rename_i hu
   obtain ⟨a,n,c,rfl⟩:=okWide_slice hu hv
   exact one rfl rfl
  ·cases hs
 | nil =>
  simp only [shB]at hs
  split at hs
  ·rename_i hu
   obtain ⟨cs,e,_⟩:=okWide_struct hu hv
   exact agg ⟨cs,e⟩
  ·cases hs
 | cons h1 h2 =>
  simp only [shB]at hs
  split at hs
  ·rename_i hu
   obtain ⟨cs,e,_⟩:=okWide_struct hu hv
   exact agg ⟨cs,e⟩
  ·cases hs
inductive OkA (B:Nat):List SH→List AV→Prop
 | nil:OkA B [] []
 | cons {s:SH} {ss:List SH} {cs:List AV} {as':List AV} (h1:Ok B s cs) (h2:OkA B ss as'):OkA B (s :: ss) (s.top cs :: as')
def shAll (P:Program):List SH→List TypeId→Bool
 | [],[]=>true
 | s :: ss,t :: ts=>(shB P s).1 t && shAll P ss ts
 | _,_=>false
theorem args_open:∀(ss:List SH) (ts:List TypeId) (vs:List Value) (ds:List (DataW H)) (p:List MemPlace) (r:Reach) (b:Nat),shAll P ss ts=true→DataW.TrodAll enc P w base spare held ts vs ds p →
  (∀(j:Nat) (t:TypeId) (v:Value),ts[j]? = some t→vs[j]? = some v→Value.okWide P w r b t v)→Rows.uptoBulkAll ds≤B→∃as',OkA B ss as'∧Stand w as' vs
 | [],[],vs,ds,p,r,b,_,h,_,_=>by
  obtain ⟨rfl,rfl,rfl⟩:=trodAll_nil h
  exact ⟨[],.nil,rfl,fun j h1=>by simp at h1⟩
 | [],t :: ts,_,_,_,_,_,hs,_,_,_=>by simp [shAll]at hs
 | s :: ss,[],_,_,_,_,_,hs,_,_,_=>by simp [shAll]at hs
 | s :: ss,t :: ts,vs,ds,p,r,b,hs,h,hv,hB=>by
  obtain ⟨v,vs1,d,ds1,p1,p2,rfl,rfl,rfl,⟨n,h1⟩,h2⟩:=trodAll_cons h
  simp only [shAll,Bool.and_eq_true]at hs
  simp only [Rows.uptoBulkAll]at hB
  obtain ⟨cs,k1,k2⟩:=(open_sh s).1 t n _ _ hs.1 h1 (show Rows.uptoBulk d≤B by omega)
  obtain ⟨as',k3,k4⟩:=args_open ss ts vs1 ds1 p2 r b hs.2 h2 (fun j t v ht hv'=>hv (j+1) t v (by simpa using ht) (by simpa using hv')) (by omega)
  have hr:=stand_top hs.1 k1 k2 (hv 0 t v rfl rfl)
  exact ⟨_,.cons k1 k3,(Stand.one hr).app k4⟩
theorem stand_args {as':List AV} {args:Array Value} (h:Stand w as' args.toList):Rep w (inW w) (.agg as') (.agg args) :=
 .agg (by have:=h.1;simp at this;omega) fun j hj=>by
  have:=h.2 j hj (by have:=h.1;simp at this ⊢;omega)
  simpa using this
end
section
variable {H:Type} {enc:TypeId × Value→H} {P:Program}
theorem stay_all (hl:laidOutB P=true) {W W':World} (hb:Below W.heap.size W W'):∀(ts:List TypeId) (vs:List Value) (ds:List (DataW H)) (p:List MemPlace),ts.all (fun t=>P.readableRec t && decide (t<P.types.size))=true →
  DataW.TrodAll enc P W 0 (fun _=>true) true ts vs ds p→(∀x∈p,x.block<W.heap.size)→∀sp:Nat→Bool,(∀q∈p,sp q.block=true)→DataW.TrodAll enc P W' 0 sp true ts vs ds p
 | [],vs,ds,p,_,h,_,sp,_=>by
  obtain ⟨rfl,rfl,rfl⟩:=trodAll_nil h
  exact trodAll_mk0
 | t :: ts,vs,ds,p,ht,h,hlt,sp,hsp=>by
  obtain ⟨v,vs1,d,ds1,a,b,rfl,rfl,rfl,h1,h2⟩:=trodAll_cons h
  simp only [List.all_cons,Bool.and_eq_true,decide_eq_true_eq]at ht
  refine trodAll_cons_mk (WideElems.Trod_stays hl ht.1.1 ht.1.2 h1 (fun x hx=>hb.same (hlt x (List.mem_append_left _ hx))) (fun x hx=>hsp x (List.mem_append_left _ hx))) ?_
  exact stay_all hl hb ts vs1 ds1 b (by simpa using ht.2) h2 (fun x hx=>hlt x (List.mem_append_right _ hx)) sp (fun x hx=>hsp x (List.mem_append_right _ hx))
theorem law_end (hl:laidOutB P=true) {tb:TypeId} (hu:P.underlying tb=some .bool) {fid:FuncId} {fn:Func} {s:ChangeSpec} {apart:Bool} (hv:s.vars=[]) (hres:fn.resultTypes=#[tb]) (hts:fn.params.toList.all (fun t=>P.readableRec t && decide (t<P.types.size))=true)
  {W:World} {args:Array Value} {ds:List (DataW H)} {before:List MemPlace} (hW:DataW.Whole enc P fn.params.toList s.vars apart W args.toList ds [] before)
  (hfn:s.fn H (ds ++ [])={ results:=[.lit (.bool true)],args:=ds }) (hc:Calls P fid args W fun e W'=>e=.returned (.bool true)∧Below W.heap.size W W') :
  Calls P fid args W fun e W'=>∃v,e=.returned v∧s.post enc P fn apart true false false W args v W':=by
 have hW':=hW
 obtain ⟨p,q,hA,hV,rfl,hfz,hnd⟩:=hW
 rw [hv]at hV
 obtain ⟨_,rfl⟩:=trodVars_none hV
 refine hc.mono fun e W' ⟨he,hb⟩=>⟨.bool true,he,?_⟩
 have hlt:∀x∈p,x.block<W.heap.size:=fun x hx=>hW'.lt x (List.mem_append_left _ hx)
 have hl2:∀x∈p ++ [],x.block<W.heap.size:=fun x hx=>hW'.lt x hx
 have hA2:∀sp:Nat→Bool,(∀x∈p,sp x.block=true)→DataW.TrodAll enc P W' 0 sp true fn.params.toList args.toList (s.fn H (ds ++ [])).args p:=fun sp h=>by
  rw [hfn]
  exact stay_all hl hb _ _ _ _ hts hA hlt sp h
 have hR2:∀b sp hd,DataW.TrodAll enc P W' b sp hd fn.resultTypes.toList ((Value.bool true).resultList fn.resultTypes.size) (s.fn H (ds ++ [])).results []:=fun b sp hd=>by
  rw [hfn,hres]
  exact trodAll_cons_mk (shut_bool hu _) trodAll_mk0
 have hV2:∀sp,DataW.TrodVars enc P W' sp s.vars (s.fn H (ds ++ [])).vars []:=fun sp=>by
  rw [hfn,hv]
  rfl
 refine ⟨ds,[],p ++ [],[],p,[],hW',hR2 _ _ _,hA2 _ (fun x hx=>by simpa using hlt x hx),hV2 _,World.keptBut_mono (fun x hx=>⟨hx,.inr (List.mem_append.1 hx)⟩) (hb.frame (·∈p ++ [])),fun _ =>
  ⟨ok_one hres rfl (okWide_bool_mk hu _),_,_,([] ++ p) ++ [],⟨[] ++ p,[],trodAll_append (hA2 _ fun _ _=>rfl) (hR2 _ _ _),hV2 _,rfl,fun b off hx=>?_,fun h=>by simpa using hnd h⟩,fun x hx _=>by simpa using hx⟩⟩
 have hx2:MemPlace.cell b off∈p ++ []:=by simpa using hx
 rw [hb.frozen (hl2 _ hx2)]
 exact hfz b off hx2
end
theorem ac_calls {fid:FuncId} {avs:List AV} {W:World} {args:Array Value} (hc:AC fid avs (boo true)) (hE:Env W) (hR:Rep W (inW W) (.agg avs) (.agg args)) :
  Calls Tryz.prog fid args W fun e W'=>e=.returned (.bool true)∧Below W.heap.size W W':=by
 refine (hc.2 W _ args hE (fun _ _ h=>h) (fun _ b o v h _=>World.block_lt_of_cell? W _ h) hR).mono fun e W' ⟨v,he,hb,hr⟩=>⟨?_,hb⟩
 cases hr
 exact he
set_option maxRecDepth 100000 in
theorem law_row {H:Type} {enc:TypeId × Value→H} (hl:laidOutB Tryz.prog=true) {tb:TypeId} (hu:Tryz.prog.underlying tb=some .bool) {fid:FuncId} {fn:Func} {s:ChangeSpec} (hv:s.vars=[]) (hres:fn.resultTypes=#[tb]) (hts:fn.params.toList.all (fun t=>Tryz.prog.readableRec t && decide (t<Tryz.prog.types.size))=true)
  (ss:List SH) (hss:shAll Tryz.prog ss fn.params.toList=true) (hfn:∀ds:List (DataW H),ds.length=fn.params.toList.length→s.fn H (ds ++ [])={ results:=[.lit (.bool true)],args:=ds })
  (law:∀as',OkA 1048576 ss as'→AC fid as' (boo true))
  {W:World} {base:Nat} {args:Array Value} {ds gs:List (DataW H)} {before:List MemPlace} (hval:∀(j:Nat) t v,fn.params[j]? = some t→args[j]? = some v→Value.okWide Tryz.prog W .any base t v)
  (hW:DataW.Whole enc Tryz.prog fn.params.toList s.vars false W args.toList ds gs before) (hE:Env W) (hsm:Rows.uptoSmall H (ds ++ gs)=true) :
  Calls Tryz.prog fid args W fun e W'=>∃v,e=.returned v∧s.post enc Tryz.prog fn false true false false W args v W':=by
 have hW':=hW
 obtain ⟨p,q,hA,hV,rfl,hfz,hnd⟩:=hW
 rw [hv]at hV
 obtain ⟨rfl,rfl⟩:=trodVars_none hV
 simp only [Rows.uptoSmall,List.append_nil,decide_eq_true_eq]at hsm
 obtain ⟨as',k1,k2⟩:=args_open ss _ _ _ _ .any base hss hA (fun j t v ht hv'=>hval j t v (by simpa using ht) (by simpa using hv')) hsm
 have hlen:ds.length=fn.params.toList.length:=by
  have:∀(ts:List TypeId) (vs:List Value) (ds:List (DataW H)) (p:List MemPlace),DataW.TrodAll enc Tryz.prog W 0 (fun _=>true) true ts vs ds p→ds.length=ts.length:=by
   intro ts
   induction ts with
   | nil=>intro vs ds p h;obtain ⟨rfl,rfl,rfl⟩:=trodAll_nil h;rfl
   | cons t ts ih =>
    intro vs ds p h
    obtain ⟨v,vs1,d,ds1,p1,p2,rfl,rfl,rfl,_,h2⟩:=trodAll_cons h
    rw [List.length_cons,List.length_cons,ih _ _ _ h2]
  exact this _ _ _ _ hA
 exact law_end hl hu hv hres hts hW' (hfn ds hlen) (ac_calls (law as' k1) hE (stand_args k2))
end Go.Proofs.YtcggnmddcbhchaaGreatDoor
set_option linter.unusedSimpArgs false
set_option linter.unusedVariables false
namespace Go.Proofs.YtcggnmddcbhchaaGreatDoor
open Go.RowKit Lim
theorem E_calls {n:Nat} {f:FuncId} {args:List V} {g:Sig} {x:denL g.ts} (h:EF fuel n f args g=some x) (hp:args.all V.plain=true):AC f (args.map V.av) (resO g x):=by
 rcases (ev_sound evw_ok n).a f args g x hp h with h|h
 ·exact h.ofT
 ·exact h
section
variable {B:Nat} {cs:List AV}
abbrev shI:SH:=.int .i64
structure Res.Small (r:Res):Prop where
 ok:r.OK
 l1:r.m.a.length≤1048576
 l2:r.m.b.length≤1048576
 l3:r.v.a.length≤1048576
 l4:r.v.b.length≤1048576
theorem okA_one {s:SH} {as':List AV} (h:OkA B [s] as'):∃a,as'=[s.top a]∧Ok B s a:=by
 cases h with|cons h1 h2=>cases h2;exact ⟨_,rfl,h1⟩
theorem okA_more {s:SH} {ss:List SH} {as':List AV} (h:OkA B (s :: ss) as'):∃a r,as'=s.top a :: r∧Ok B s a∧OkA B ss r:=by
 cases h with|cons h1 h2=>exact ⟨_,_,rfl,h1,h2⟩
end
end Go.Proofs.YtcggnmddcbhchaaGreatDoor
set_option linter.unusedSimpArgs false
set_option linter.unusedVariables false
namespace Go.Proofs.YtcggnmddcbhchaaGreatDoor
open Go.RowKit Lim
def vtOf:SH→VT
 | .int k=>.int k
 | .bool=>.bool
 | .str=>.str
 | .nat=>.nat
 | .sl e=>.sl e.sz (vtOf e)
 | .nil=>.unit
 | .cons f r=>match r with
  | .nil=>vtOf f
  | r=>.pair (vtOf f) (vtOf r)
def goodV (B:Nat):(t:VT)→t.den→Prop
 | .int k,z=>k.min≤z∧z≤k.max
 | .str,s=>s.length≤B
 | .nat,l=>Dig l∧l.length≤B
 | .sl _ e,l=>l.length≤B∧∀x∈l,goodV B e x
 | .pair a b,x=>goodV B a x.1∧goodV B b x.2
 | _,_=>True
theorem map_of {α β:Type} {f:α→β} {Q:α→Prop}:∀(xs:List β),(∀x,x∈xs→∃r,x=f r∧Q r)→∃rs:List α,xs=rs.map f∧∀r∈rs,Q r
 | [],_=>⟨[],rfl,fun r hr=>by simp at hr⟩
 | x :: xs,h=>by
  obtain ⟨r,rfl,hr⟩:=h x (by simp)
  obtain ⟨rs,rfl,hrs⟩:=map_of xs (fun y hy=>h y (by simp [hy]))
  exact ⟨r :: rs,rfl,fun q hq=>by
   rcases List.mem_cons.1 hq with rfl|hq
   ·exact hr
   ·exact hrs q hq⟩
theorem Ok.den {B:Nat} {s:SH} {cs:List AV} (h:Ok B s cs):∃x:(vtOf s).den,cs=eraL (vtOf s) x∧goodV B (vtOf s) x:=by
 induction h with
 | @int k z h=>exact ⟨z,rfl,h⟩
 | @bool b=>exact ⟨b,rfl,trivial⟩
 | @str l h=>exact ⟨l,rfl,h⟩
 | @nat l h1 h2=>exact ⟨l,rfl,h1,h2⟩
 | @sl e xs h1 h2 ih =>
  obtain ⟨rs,rfl,hrs⟩:=map_of xs (fun x hx=>ih x hx)
  refine ⟨rs,?_,by simpa using h1,hrs⟩
  rw [List.map_map]
  rfl
 | nil=>exact ⟨(),rfl,trivial⟩
 | @cons f r a b h1 h2 ih1 ih2 =>
  obtain ⟨x,rfl,hx⟩:=ih1
  obtain ⟨y,rfl,hy⟩:=ih2
  cases r with
  | nil=>exact ⟨x,by simp [vtOf,eraL],hx⟩
  | _=>exact ⟨(x,y),rfl,hx,hy⟩
end Go.Proofs.YtcggnmddcbhchaaGreatDoor
set_option linter.unusedSimpArgs false
set_option linter.unusedVariables false
namespace Go.Proofs.YtcggnmddcbhchaaGreatDoor
open Go.RowKit Lim
abbrev gLn:Sig:=[.c (.sl 1 .str),.c (.int .i64)]
abbrev vSt (steps:List (Int × Int)):V:=.o (.c ⟨.sl 2 (.pair (.int .i64) (.int .i64)),steps⟩)
theorem start_zero {p w:List Int} (h:(startE p w).2=0):gridE p w=0:=by
 unfold startE at h
 by_cases h0:gridE p w=0
 ·exact h0
 ·rw [if_neg h0]at h;exact h
theorem ids_num:∀{l:List PI} {a:Int},idsE l a=true→∀y∈l,numB y.1=true
 | [],_,_,y,hy=>by cases hy
 | x :: l,a,h,y,hy=>by
  rw [idsE]at h
  cases hn:numB x.1
  ·rw [hn,if_pos rfl]at h;cases h
  rw [hn,if_neg (by decide)]at h
  by_cases h1:x.1≤a
  ·rw [if_pos h1]at h;cases h
  rw [if_neg h1]at h
  rcases List.mem_cons.1 hy with rfl|hy
  ·exact hn
  ·exact ids_num h y hy
theorem pool_ok {pool:List PI} {k:Int} (h:poolE pool k=0):pool.length≤18∧∀y∈pool,numB y.1=true:=by
 unfold poolE at h
 by_cases h1:18<pool.length
 ·rw [if_pos h1]at h;omega
 rw [if_neg h1]at h
 cases h2:idsE pool 0
 ·rw [h2,if_pos rfl]at h;omega
 exact ⟨by omega,ids_num h2⟩
section
variable (n:Nat)
theorem explain_e (p w0:List Int) (pool:List PI) (steps:List (Int × Int)) (hs:∀s∈steps,in64 s.2) :
  EF fuel (n+6) 19 [vG p w0,vP pool,vSt steps] gLn=some ((explainE p w0 pool steps).1,(explainE p w0 pool steps).2,()):=by
 rw [report_Explain_m (n+5) p w0 pool steps,bind_go (start_e (n+2) p w0)]
 unfold explainE
 dsimp only
 by_cases h0:(startE p w0).2=0
 case neg=>rw [show ((startE p w0).2 != 0)=true by simpa using h0,cond_true,if_pos h0];rfl
 rw [h0,show ((0:Int) != 0)=false from rfl,cond_false,if_neg (show ¬((0:Int)≠0)by decide),bind_go (check_pool n pool p.length)]
 dsimp only
 by_cases h1:poolE pool p.length=0
 case neg=>rw [show (poolE pool p.length != 0)=true by simpa using h1,cond_true,if_pos h1];rfl
 rw [h1,show ((0:Int) != 0)=false from rfl,cond_false,if_neg (show ¬((0:Int)≠0)by decide)]
 by_cases h2:18<steps.length
 ·rw [decide_eq_true (show (18:Int)<(steps.length:Int)by omega),cond_true,if_pos h2];rfl
 rw [decide_eq_false (show ¬(18:Int)<(steps.length:Int)by omega),cond_false,if_neg h2]
 obtain ⟨hg,hlen,hok,hpos⟩:=start_ok h0
 have hgz:=start_zero h0
 obtain ⟨hp1,hp2⟩:=pool_ok h1
 generalize (startE p w0).1=ws at *
 refine congrArg (a₂:=some (Ans.ret (((explE p pool steps 0 ws []).1,(explE p pool steps 0 ws []).2,()):denL gLn.ts))) unwrapA ?_
 refine loopA_list (R:=denL gLn.ts) (ts:=[tI,VT.sl 1 tS,tI,VT.sl 1 tN,tI,VT.sl 1 tS]) steps (fun k (b:Nat × List (List Nat) × List (List UInt8))=>((k:Int),b.2.2,0,b.2.1,0,[],())) (fun l b=>.ret (((explE p pool l b.1 b.2.1 b.2.2).1,(explE p pool l b.1 b.2.1 b.2.2).2,()):denL gLn.ts)) (fun k b=>b.1=k∧WtOK p b.2.1 (k+1)∧b.2.2.length=k) (fun k hk b hb=>?_) (fun b hb=>?_) (0,ws,[]) ⟨rfl,⟨hlen,hok,hpos⟩,rfl⟩ (fuel_lt (by omega))
 ·obtain ⟨i,w,L⟩:=b
  obtain ⟨rfl,hw,hL⟩:=hb
  dsimp only at hw hL hk ⊢
  rw [dlt hk,cond_true,bind_go (ix_lt hk),bind_go (find_e (n+4) pool steps[i].1 (by omega)),explE]
  have hin:=hs _ (List.getElem_mem hk)
  generalize steps[i]=s at *
  cases hf:findE pool s.1 with
  | none=>exact .inl ⟨rfl,rfl⟩
  | some y =>
   have hy:y.1=s.1:=by simpa using List.find?_some hf
   have hn:=hp2 y (List.mem_of_find?_eq_some hf)
   rw [hy]at hn
   dsimp only [foundA]
   rw [Bool.not_true,cond_false,bind_go (upd_e (n+3) w y.2.2.2.2.2.2.2.2 s.2 hin (fun a ha=>⟨(hw.ok a ha).1,by have:=(hw.ok a ha).2;omega⟩))]
   dsimp only
   by_cases hu:(updE w y.2.2.2.2.2.2.2.2 s.2).2=0
   case neg =>
    rw [show ((updE w y.2.2.2.2.2.2.2.2 s.2).2 != 0)=true by simpa using hu,cond_true,if_pos hu]
    exact .inl ⟨rfl,rfl⟩
   obtain ⟨u1,u2,u3⟩:=upd_ok hu hw.ok hw.pos
   have hw':WtOK p (updE w y.2.2.2.2.2.2.2.2 s.2).1 (i+1+1):=⟨u1.trans hw.len,u2,u3⟩
   rw [hu,show ((0:Int) != 0)=false from rfl,cond_false,if_neg (show ¬((0:Int)≠0)by decide),w64n (by omega),bind_go (line_e n p w0 _ (i+1) s hgz hw' (by omega) (by omega) hn hin)]
   dsimp only
   rw [show ((0:Int) != 0)=false from rfl,cond_false,capB_le (by rw [hL,List.length_singleton];omega),cond_true]
   exact .inr ⟨(i+1,(updE w y.2.2.2.2.2.2.2.2 s.2).1,L ++ [lineT p (updE w y.2.2.2.2.2.2.2.2 s.2).1 (i+1) s]),rfl,⟨rfl,hw',by simp [hL]⟩,rfl⟩
 ·dsimp only
  rw [dge (Nat.le_refl _),cond_false]
  exact ⟨rfl,rfl⟩
theorem sameL_e (l:List (List UInt8)) (h:l.length<2000000):EF fuel (n+1) 21 [.o (.c ⟨.sl 1 .str,l⟩),.o (.c ⟨.sl 1 .str,l⟩)] [.c .bool]=some (true,()):=by
 rw [examboardlaw56_sameLines_m n l l,show ((l.length:Int) != (l.length:Int))=false by simp,cond_false]
 refine congrArg (a₂:=some (Ans.ret ((true,()):denL gB.ts))) unwrapA ?_
 refine loopA_range (R:=denL gB.ts) (ts:=[tI,tB]) (N:=l.length) (fun k=>((k:Int),false,())) (fun k hk=>?_) ?_ rfl (fuel_lt (by omega))
 ·dsimp only
  rw [dlt hk,cond_true,bind_go (ix_lt hk),bind_go (ix_lt hk),show (l[k] == l[k])=true from beq_self_eq_true _,Bool.not_true,cond_false,w64n (by omega)]
  rfl
 ·dsimp only
  rw [dge (Nat.le_refl _),cond_false]
  rfl
end
theorem explE_err (p:List Int) (pool:List PI):∀(l:List (Int × Int)) (i:Nat) (w:List (List Nat)) (L:List (List UInt8)),(explE p pool l i w L).2≠0→(explE p pool l i w L).1=[]
 | [],_,_,_,h=>absurd rfl h
 | s :: l,i,w,L,h=>by
  rw [explE]at h ⊢
  cases hf:findE pool s.1 with
  | none=>rfl
  | some y =>
   rw [hf]at h
   dsimp only at h ⊢
   by_cases hu:(updE w y.2.2.2.2.2.2.2.2 s.2).2=0
   case neg=>rw [if_pos hu]
   rw [if_neg (fun h=>h hu)]at h ⊢
   exact explE_err p pool l _ _ _ h
theorem explE_take (p:List Int) (pool:List PI):∀(l:List (Int × Int)) (i:Nat) (w:List (List Nat)) (L:List (List UInt8)),(explE p pool l i w L).2=0 →
  (explE p pool l i w L).1.length=L.length+l.length∧(explE p pool l i w L).1.take L.length=L∧∀m,m≤l.length→explE p pool (l.take m) i w L=((explE p pool l i w L).1.take (L.length+m),0)
 | [],i,w,L,_=>⟨rfl,List.take_length,fun m hm=>by
  obtain rfl:m=0:=by simpa using hm
  show (L,(0:Int))=(L.take (L.length+0),0)
  rw [Nat.add_zero,List.take_length]⟩
 | s :: l,i,w,L,h=>by
  have hnil:explE p pool [] i w L=(L,0):=rfl
  rw [explE]at h ⊢
  cases hf:findE pool s.1 with
  | none=>rw [hf]at h;exact absurd (show (6:Int)=0 from h) (by decide)
  | some y =>
   rw [hf]at h
   dsimp only at h ⊢
   by_cases hu:(updE w y.2.2.2.2.2.2.2.2 s.2).2=0
   case neg=>rw [if_pos hu]at h;exact absurd h hu
   rw [if_neg (fun h=>h hu)]at h ⊢
   obtain ⟨h1,h2,h3⟩:=explE_take p pool l _ _ _ h
   rw [List.length_append,List.length_singleton]at h1 h2 h3
   have h4:=congrArg (List.take L.length) h2
   rw [List.take_take,Nat.min_eq_left (by omega),List.take_append_of_le_length (Nat.le_refl _),List.take_length]at h4
   refine ⟨by rw [h1,List.length_cons];omega,h4,fun m hm=>?_⟩
   cases m with
   | zero=>rw [List.take_zero,hnil,Nat.add_zero,h4]
   | succ m =>
    rw [List.take_succ_cons,explE,hf]
    dsimp only
    rw [if_neg (fun h=>h hu),h3 m (by simpa using hm),show L.length+1+m=L.length+(m+1)by omega]
theorem explain_take {p w0:List Int} {pool:List PI} {steps:List (Int × Int)} (h:(explainE p w0 pool steps).2=0):(explainE p w0 pool steps).1.length=steps.length∧∀m,m≤steps.length→explainE p w0 pool (steps.take m)=((explainE p w0 pool steps).1.take m,0):=by
 unfold explainE at h ⊢
 by_cases h0:(startE p w0).2=0
 case neg=>rw [if_pos h0]at h;exact absurd h h0
 rw [if_neg (fun h=>h h0)]at h ⊢
 by_cases h1:poolE pool p.length=0
 case neg=>rw [if_pos h1]at h;exact absurd h h1
 rw [if_neg (fun h=>h h1)]at h ⊢
 by_cases h2:18<steps.length
 ·rw [if_pos h2]at h;exact absurd (show (5:Int)=0 from h) (by decide)
 rw [if_neg h2]at h ⊢
 obtain ⟨h3,_,h4⟩:=explE_take p pool steps 0 (startE p w0).1 [] h
 refine ⟨by rw [h3];simp,fun m hm=>?_⟩
 rw [if_neg (fun h=>h h0),if_neg (fun h=>h h1),if_neg (by rw [List.length_take];omega),h4 m hm,List.length_nil,Nat.zero_add]
theorem explain_err {p w0:List Int} {pool:List PI} {steps:List (Int × Int)} (h:(explainE p w0 pool steps).2≠0):(explainE p w0 pool steps).1=[]:=by
 unfold explainE at h ⊢
 by_cases h0:(startE p w0).2=0
 case neg=>rw [if_pos h0]
 rw [if_neg (fun h=>h h0)]at h ⊢
 by_cases h1:poolE pool p.length=0
 case neg=>rw [if_pos h1]
 rw [if_neg (fun h=>h h1)]at h ⊢
 by_cases h2:18<steps.length
 ·rw [if_pos h2]
 rw [if_neg h2]at h ⊢
 exact explE_err p pool steps 0 _ [] h
abbrev shG:SH:=.cons (.sl shI) (.cons (.sl shI) .nil)
abbrev shM:SH:=.cons (.sl (.sl shI)) .nil
abbrev shPI:SH:=.cons shI (.cons .str (.cons shI (.cons shI (.cons shI (.cons shI (.cons shI (.cons shI (.cons shM .nil))))))))
abbrev shSt:SH:=.cons shI (.cons shI .nil)
end Go.Proofs.YtcggnmddcbhchaaGreatDoor
set_option linter.unusedSimpArgs false
set_option linter.unusedVariables false
namespace Go.Proofs.YtcggnmddcbhchaaGreatDoor
open Go.RowKit Lim
theorem law56_ReportExplains_m {F:Nat} (n0:Nat) (x0_0:VT.den (.sl 1 (.int .i64))) (x0_1:VT.den (.sl 1 (.int .i64))) (x1:VT.den (.sl 9 (.pair (.int .i64) (.pair .str (.pair (.int .i64) (.pair (.int .i64) (.pair (.int .i64) (.pair (.int .i64) (.pair (.int .i64) (.pair (.int .i64) (.sl 1 (.sl 1 (.int .i64))))))))))))) (x2:VT.den (.sl 2 (.pair (.int .i64) (.int .i64)))):EF F (n0+1) 5 [.o (.agg [⟨(.sl 1 (.int .i64)),x0_0⟩,⟨(.sl 1 (.int .i64)),x0_1⟩]),.o (.c ⟨(.sl 9 (.pair (.int .i64) (.pair .str (.pair (.int .i64) (.pair (.int .i64) (.pair (.int .i64) (.pair (.int .i64) (.pair (.int .i64) (.pair (.int .i64) (.sl 1 (.sl 1 (.int .i64)))))))))))),x1⟩),.o (.c ⟨(.sl 2 (.pair (.int .i64) (.int .i64))),x2⟩)] [.c .bool]=unwrapA (bif decide (6<(Nat.cast (R:=Int) (List.length x2))) then bif decide ((Nat.cast (R:=Int) (List.length x2))≤18) then (EF F n0 15 [] [.c tB]).bind fun x=>some (.ret (x.1,())) else (EF F n0 19 [.o (.agg [⟨VT.sl 1 (tI),x0_0⟩,⟨VT.sl 1 (tI),x0_1⟩]),.o (.c { t:=VT.sl 9 ((tI).pair (tS.pair ((tI).pair ((tI).pair ((tI).pair ((tI).pair ((tI).pair ((tI).pair (VT.sl 1 (VT.sl 1 (tI))))))))))),x:=x1 }),.o (.c { t:=VT.sl 2 ((tI).pair (tI)),x:=x2 })] [.c (VT.sl 1 tS),.c (tI)]).bind fun x=>(EF F n0 20 [.o (.agg [⟨VT.sl 1 (tI),x0_0⟩,⟨VT.sl 1 (tI),x0_1⟩]),.o (.c { t:=VT.sl 9 ((tI).pair (tS.pair ((tI).pair ((tI).pair ((tI).pair ((tI).pair ((tI).pair ((tI).pair (VT.sl 1 (VT.sl 1 (tI))))))))))),x:=x1 }),.o (.c { t:=VT.sl 2 ((tI).pair (tI)),x:=x2 })] [.c (VT.sl 1 tS),.c (tI)]).bind fun x_1=>(EF F n0 21 [.o (.c ⟨VT.sl 1 tS,x.1⟩),.o (.c ⟨VT.sl 1 tS,x_1.1⟩)] [.c tB]).bind fun x_2=>bif x_2.1 then bif x.2.1 == x_1.2.1 then (EF F n0 15 [] [.c tB]).bind fun x=>some (.ret (x.1,())) else some (.ret (false,())) else some (.ret (false,())) else (EF F n0 19 [.o (.agg [⟨VT.sl 1 (tI),x0_0⟩,⟨VT.sl 1 (tI),x0_1⟩]),.o (.c { t:=VT.sl 9 ((tI).pair (tS.pair ((tI).pair ((tI).pair ((tI).pair ((tI).pair ((tI).pair ((tI).pair (VT.sl 1 (VT.sl 1 (tI))))))))))),x:=x1 }),.o (.c { t:=VT.sl 2 ((tI).pair (tI)),x:=x2 })] [.c (VT.sl 1 tS),.c (tI)]).bind fun x=>(EF F n0 20 [.o (.agg [⟨VT.sl 1 (tI),x0_0⟩,⟨VT.sl 1 (tI),x0_1⟩]),.o (.c { t:=VT.sl 9 ((tI).pair (tS.pair ((tI).pair ((tI).pair ((tI).pair ((tI).pair ((tI).pair ((tI).pair (VT.sl 1 (VT.sl 1 (tI))))))))))),x:=x1 }),.o (.c { t:=VT.sl 2 ((tI).pair (tI)),x:=x2 })] [.c (VT.sl 1 tS),.c (tI)]).bind fun x_1=>(EF F n0 21 [.o (.c ⟨VT.sl 1 tS,x.1⟩),.o (.c ⟨VT.sl 1 tS,x_1.1⟩)] [.c tB]).bind fun x_2=>bif x_2.1 then bif x.2.1 == x_1.2.1 then (EF F n0 15 [] [.c tB]).bind fun x=>some (.ret (x.1,())) else some (.ret (false,())) else some (.ret (false,()))):=by kernel_rfl
theorem ref56_Explain_m {F:Nat} (n0:Nat) (x0_0:VT.den (.sl 1 (.int .i64))) (x0_1:VT.den (.sl 1 (.int .i64))) (x1:VT.den (.sl 9 (.pair (.int .i64) (.pair .str (.pair (.int .i64) (.pair (.int .i64) (.pair (.int .i64) (.pair (.int .i64) (.pair (.int .i64) (.pair (.int .i64) (.sl 1 (.sl 1 (.int .i64))))))))))))) (x2:VT.den (.sl 2 (.pair (.int .i64) (.int .i64)))):EF F (n0+1) 20 [.o (.agg [⟨(.sl 1 (.int .i64)),x0_0⟩,⟨(.sl 1 (.int .i64)),x0_1⟩]),.o (.c ⟨(.sl 9 (.pair (.int .i64) (.pair .str (.pair (.int .i64) (.pair (.int .i64) (.pair (.int .i64) (.pair (.int .i64) (.pair (.int .i64) (.pair (.int .i64) (.sl 1 (.sl 1 (.int .i64)))))))))))),x1⟩),.o (.c ⟨(.sl 2 (.pair (.int .i64) (.int .i64))),x2⟩)] [.c (.sl 1 .str),.c (.int .i64)]=unwrapA ((EF F n0 47 [.o (.agg [⟨VT.sl 1 (tI),x0_0⟩,⟨VT.sl 1 (tI),x0_1⟩])] [.c (VT.sl 1 tN),.c (tI)]).bind fun x=>bif x.2.1 != 0 then some (.ret ([],x.2.1,())) else (EF F n0 48 [.o (.c { t:=VT.sl 9 ((tI).pair (tS.pair ((tI).pair ((tI).pair ((tI).pair ((tI).pair ((tI).pair ((tI).pair (VT.sl 1 (VT.sl 1 (tI))))))))))),x:=x1 }),vI ((Nat.cast (R:=Int) (List.length x0_0)))] [.c (tI)]).bind fun x_1=>bif x_1.1 != 0 then some (.ret ([],x_1.1,())) else bif decide (18<(Nat.cast (R:=Int) (List.length x2))) then some (.ret ([],5,())) else loopA 0 [tI,VT.sl 1 tS,tI,VT.sl 1 tN,tI,VT.sl 1 tS] (fun x_2=>bif decide (x_2.1<(Nat.cast (R:=Int) (List.length x2))) then (ix x2 x_2.1).bind fun y=>(EF F n0 49 [.o (.c { t:=VT.sl 9 ((tI).pair (tS.pair ((tI).pair ((tI).pair ((tI).pair ((tI).pair ((tI).pair ((tI).pair (VT.sl 1 (VT.sl 1 (tI))))))))))),x:=x1 }),vI y.1] [.agg [tI,tS,tI,tI,tI,tI,tI,tI,VT.sl 1 (VT.sl 1 (tI))],.c tB]).bind fun x_3=>bif !x_3.2.2.2.2.2.2.2.2.2.1 then some (.ret ([],6,())) else (EF F n0 50 [.o (.c ⟨VT.sl 1 tN,x_2.2.2.2.1⟩),.o (.agg [{ t:=VT.sl 1 (VT.sl 1 (tI)),x:=x_3.2.2.2.2.2.2.2.2.1 }]),vI y.2] [.c (VT.sl 1 tN),.c (tI)]).bind fun x_4=>bif x_4.2.1 != 0 then some (.ret ([],x_4.2.1,())) else (EF F n0 51 [.o (.agg [⟨VT.sl 1 (tI),x0_0⟩,⟨VT.sl 1 (tI),x0_1⟩]),.o (.c ⟨VT.sl 1 tN,x_4.1⟩)] [.agg [tB,tN,tN],.c (tI)]).bind fun x_5=>(EF F n0 52 [.o (.agg [⟨tB,x_5.1⟩,⟨tN,x_5.2.1⟩,⟨tN,x_5.2.2.1⟩]),vI 2,vI 1] [.agg [tB,tN,tI],.c (tI)]).bind fun x_6=>(EF F n0 53 [.o (.agg [⟨tB,x_6.1⟩,⟨tN,x_6.2.1⟩,⟨tI,x_6.2.2.1⟩])] [.c tS,.c (tI)]).bind fun x_7=>(EF F n0 28 [vI 1,vI y.1] [.c tS,.c (tI)]).bind fun x_8=>(EF F n0 30 [vI (IntKind.i64.wrap (x_2.1+1))] [.c tS]).bind fun x_9=>bif strB (List.length x_9.1) [32].length then bif strB (x_9.1 ++ [32]).length (List.length x_8.1) then bif strB (x_9.1 ++ [32] ++ x_8.1).length [32,99,97,116,101,103,111,114,121,32].length then (EF F n0 30 [vI y.2] [.c tS]).bind fun x_10=>bif strB (x_9.1 ++ [32] ++ x_8.1 ++ [32,99,97,116,101,103,111,114,121,32]).length (List.length x_10.1) then bif strB (x_9.1 ++ [32] ++ x_8.1 ++ [32,99,97,116,101,103,111,114,121,32] ++ x_10.1).length [32,109,101,97,110,32].length then bif strB (x_9.1 ++ [32] ++ x_8.1 ++ [32,99,97,116,101,103,111,114,121,32] ++ x_10.1 ++ [32,109,101,97,110,32]).length (List.length x_7.1) then bif capB (List.length x_2.2.1+[x_9.1 ++ [32] ++ x_8.1 ++ [32,99,97,116,101,103,111,114,121,32] ++ x_10.1 ++ [32,109,101,97,110,32] ++ x_7.1].length) 16 then some (.cont 0 [tI,VT.sl 1 tS,tI,VT.sl 1 tN,tI,VT.sl 1 tS] (IntKind.i64.wrap (x_2.1+1),x_2.2.1 ++ [x_9.1 ++ [32] ++ x_8.1 ++ [32,99,97,116,101,103,111,114,121,32] ++ x_10.1 ++ [32,109,101,97,110,32] ++ x_7.1],x_4.2.1,x_4.1,x_2.2.2.2.2.1,x_2.2.2.2.2.2.1,())) else none else none else none else none else none else none else none else some (.ret (x_2.2.1,0,()))) F (0,[],x.2.1,x.1,0,[],())):=by kernel_rfl
theorem ref56_find_m {F:Nat} (n0:Nat) (x0:VT.den (.sl 9 (.pair (.int .i64) (.pair .str (.pair (.int .i64) (.pair (.int .i64) (.pair (.int .i64) (.pair (.int .i64) (.pair (.int .i64) (.pair (.int .i64) (.sl 1 (.sl 1 (.int .i64))))))))))))) (x1:Int):EF F (n0+1) 49 [.o (.c ⟨(.sl 9 (.pair (.int .i64) (.pair .str (.pair (.int .i64) (.pair (.int .i64) (.pair (.int .i64) (.pair (.int .i64) (.pair (.int .i64) (.pair (.int .i64) (.sl 1 (.sl 1 (.int .i64)))))))))))),x0⟩),.o (.c ⟨(.int .i64),x1⟩)] [.agg [(.int .i64),.str,(.int .i64),(.int .i64),(.int .i64),(.int .i64),(.int .i64),(.int .i64),(.sl 1 (.sl 1 (.int .i64)))],.c .bool]=unwrapA (loopA 0 [tI,tB,tI,tS,tI,tI,tI,tI,tI,tI,VT.sl 1 (VT.sl 1 (tI))] (fun x=>bif decide (x.1<(Nat.cast (R:=Int) (List.length x0))) then (ix x0 x.1).bind fun y=>bif y.1 == x1 then some (.ret (y.1,y.2.1,y.2.2.1,y.2.2.2.1,y.2.2.2.2.1,y.2.2.2.2.2.1,y.2.2.2.2.2.2.1,y.2.2.2.2.2.2.2.1,y.2.2.2.2.2.2.2.2,true,())) else some (.cont 0 [tI,tB,tI,tS,tI,tI,tI,tI,tI,tI,VT.sl 1 (VT.sl 1 (tI))] (IntKind.i64.wrap (x.1+1),x.2.1,x.2.2.1,x.2.2.2.1,x.2.2.2.2.1,x.2.2.2.2.2.1,x.2.2.2.2.2.2.1,x.2.2.2.2.2.2.2.1,x.2.2.2.2.2.2.2.2.1,x.2.2.2.2.2.2.2.2.2.1,x.2.2.2.2.2.2.2.2.2.2.1,())) else some (.ret (0,[],0,0,0,0,0,0,[],false,()))) F (0,false,0,[],0,0,0,0,0,0,[],())):=by kernel_rfl
theorem ref26_Start_m {F:Nat} (n0:Nat) (x0_0:VT.den (.sl 1 (.int .i64))) (x0_1:VT.den (.sl 1 (.int .i64))):EF F (n0+1) 47 [.o (.agg [⟨(.sl 1 (.int .i64)),x0_0⟩,⟨(.sl 1 (.int .i64)),x0_1⟩])] [.c (.sl 1 .nat),.c (.int .i64)]=unwrapA ((EF F n0 101 [.o (.agg [⟨VT.sl 1 (tI),x0_0⟩,⟨VT.sl 1 (tI),x0_1⟩])] [.c (tI)]).bind fun x=>bif x.1 != 0 then some (.ret ([],x.1,())) else loopA 0 [tI,VT.sl 1 tN] (fun x=>bif decide (x.1<(Nat.cast (R:=Int) (List.length x0_1))) then (ix x0_1 x.1).bind fun y=>(EF F n0 102 [vI y] [.c tN]).bind fun x_1=>bif capB (List.length x.2.1+[x_1.1].length) 24 then some (.cont 0 [tI,VT.sl 1 tN] (IntKind.i64.wrap (x.1+1),x.2.1 ++ [x_1.1],())) else none else some (.ret (x.2.1,0,()))) F (0,[],())):=by kernel_rfl
theorem ref26_number_m {F:Nat} (n0:Nat) (x0:Int):EF F (n0+1) 102 [.o (.c ⟨(.int .i64),x0⟩)] [.c .nat]=unwrapA ((EF F n0 72 [.o (.c ⟨VT.int IntKind.u64,IntKind.u64.wrap (maxI2 x0 0)⟩)] [.c tN]).bind fun x=>some (.ret (x.1,()))):=by kernel_rfl
theorem ref26_Norm_m {F:Nat} (n0:Nat) (x0:VT.den (.sl 1 .nat)):EF F (n0+1) 106 [.o (.c ⟨(.sl 1 .nat),x0⟩)] [.c (.sl 1 .nat)]=unwrapA (loopA 0 [tI,VT.sl 1 tN] (fun x=>bif decide (x.1<(Nat.cast (R:=Int) (List.length x0))) then (ix x0 x.1).bind fun y=>(EF F n0 133 [vN y] [.c tN]).bind fun x_1=>bif capB (List.length x.2.1+[x_1.1].length) 24 then some (.cont 0 [tI,VT.sl 1 tN] (IntKind.i64.wrap (x.1+1),x.2.1 ++ [x_1.1],())) else none else some (.ret (x.2.1,()))) F (0,[],())):=by kernel_rfl
theorem ref26_Update_m {F:Nat} (n0:Nat) (x0:VT.den (.sl 1 .nat)) (x1:VT.den (.sl 1 (.sl 1 (.int .i64)))) (x2:Int):EF F (n0+1) 50 [.o (.c ⟨(.sl 1 .nat),x0⟩),.o (.agg [⟨(.sl 1 (.sl 1 (.int .i64))),x1⟩]),.o (.c ⟨(.int .i64),x2⟩)] [.c (.sl 1 .nat),.c (.int .i64)]=unwrapA (bif decide (21<(Nat.cast (R:=Int) (List.length x0))) then some (.ret ([],5,())) else (EF F n0 105 [.o (.agg [{ t:=VT.sl 1 (VT.sl 1 (tI)),x:=x1 }]),vI ((Nat.cast (R:=Int) (List.length x0)))] [.c (tI)]).bind fun x=>bif x.1 != 0 then some (.ret ([],x.1,())) else bif x2 == -1 then (EF F n0 106 [.o (.c ⟨VT.sl 1 tN,x0⟩)] [.c (VT.sl 1 tN)]).bind fun x=>some (.ret (x.1,0,())) else bif x2 == -2 then (EF F n0 106 [.o (.c ⟨VT.sl 1 tN,x0⟩)] [.c (VT.sl 1 tN)]).bind fun x=>some (.ret (x.1,0,())) else bif decide (x2<0) then some (.ret ([],3,())) else (EF F n0 107 [.o (.agg [{ t:=VT.sl 1 (VT.sl 1 (tI)),x:=x1 }])] [.c (tI)]).bind fun x=>bif decide (x.1≤x2) then some (.ret ([],3,())) else loopA 0 [tI,VT.sl 1 tN] (fun x=>bif decide (x.1<(Nat.cast (R:=Int) (List.length x0))) then (ix x0 x.1).bind fun y=>(ix x1 x.1).bind fun y_1=>(ix y_1 x2).bind fun y_2=>(EF F n0 102 [vI y_2] [.c tN]).bind fun x_1=>(EF F n0 108 [vN y,vN x_1.1] [.c tN]).bind fun x_2=>bif capB (List.length x.2.1+[x_2.1].length) 24 then some (.cont 0 [tI,VT.sl 1 tN] (IntKind.i64.wrap (x.1+1),x.2.1 ++ [x_2.1],())) else none else some (.ret (x.2.1,0,()))) F (0,[],())):=by kernel_rfl
theorem ref33_Check_m {F:Nat} (n0:Nat) (x0:VT.den (.sl 9 (.pair (.int .i64) (.pair .str (.pair (.int .i64) (.pair (.int .i64) (.pair (.int .i64) (.pair (.int .i64) (.pair (.int .i64) (.pair (.int .i64) (.sl 1 (.sl 1 (.int .i64))))))))))))) (x1:Int):EF F (n0+1) 48 [.o (.c ⟨(.sl 9 (.pair (.int .i64) (.pair .str (.pair (.int .i64) (.pair (.int .i64) (.pair (.int .i64) (.pair (.int .i64) (.pair (.int .i64) (.pair (.int .i64) (.sl 1 (.sl 1 (.int .i64)))))))))))),x0⟩),.o (.c ⟨(.int .i64),x1⟩)] [.c (.int .i64)]=unwrapA (bif decide (18<(Nat.cast (R:=Int) (List.length x0))) then some (.ret (5,())) else loopA 0 [tI,tI] (fun x=>bif decide (x.1<(Nat.cast (R:=Int) (List.length x0))) then (ix x0 x.1).bind fun y=>(EF F n0 103 [vI y.1,vI 1,vI 9999999] [.c tB]).bind fun x_1=>bif !x_1.1 then some (.ret (23,())) else bif decide (0<x.1) then (ix x0 (IntKind.i64.wrap (x.1-1))).bind fun y_1=>bif decide (y.1≤y_1.1) then some (.ret (23,())) else some (.cont 0 [tI,tI] (IntKind.i64.wrap (x.1+1),x.2.1,())) else some (.cont 0 [tI,tI] (IntKind.i64.wrap (x.1+1),x.2.1,())) else loopA 0 [tI,tI] (fun x_1=>bif decide (x_1.1<(Nat.cast (R:=Int) (List.length x0))) then (ix x0 x_1.1).bind fun y=>(EF F n0 104 [.o (.agg [⟨tI,y.1⟩,⟨tS,y.2.1⟩,⟨tI,y.2.2.1⟩,⟨tI,y.2.2.2.1⟩,⟨tI,y.2.2.2.2.1⟩,⟨tI,y.2.2.2.2.2.1⟩,⟨tI,y.2.2.2.2.2.2.1⟩,⟨tI,y.2.2.2.2.2.2.2.1⟩,{ t:=VT.sl 1 (VT.sl 1 (tI)),x:=y.2.2.2.2.2.2.2.2 }]),vI x1] [.c (tI)]).bind fun x_2=>bif x_2.1 != 0 then some (.ret (x_2.1,())) else some (.cont 0 [tI,tI] (IntKind.i64.wrap (x_1.1+1),x_1.2.1,())) else some (.ret (0,()))) F (0,x.2.1,())) F (0,0,())):=by kernel_rfl
theorem ref33_within_m {F:Nat} (n0:Nat) (x0 x1 x2:Int):EF F (n0+1) 103 [.o (.c ⟨(.int .i64),x0⟩),.o (.c ⟨(.int .i64),x1⟩),.o (.c ⟨(.int .i64),x2⟩)] [.c .bool]=unwrapA (bif decide (x1≤x0) then some (.ret (decide (x0≤x2),())) else some (.ret (false,()))):=by kernel_rfl
theorem ref33_item_m {F:Nat} (n0:Nat) (x0_0:Int) (x0_1:List UInt8) (x0_2 x0_3 x0_4 x0_5 x0_6 x0_7:Int) (x0_8:VT.den (.sl 1 (.sl 1 (.int .i64)))) (x1:Int):EF F (n0+1) 104 [.o (.agg [⟨(.int .i64),x0_0⟩,⟨.str,x0_1⟩,⟨(.int .i64),x0_2⟩,⟨(.int .i64),x0_3⟩,⟨(.int .i64),x0_4⟩,⟨(.int .i64),x0_5⟩,⟨(.int .i64),x0_6⟩,⟨(.int .i64),x0_7⟩,⟨(.sl 1 (.sl 1 (.int .i64))),x0_8⟩]),.o (.c ⟨(.int .i64),x1⟩)] [.c (.int .i64)]=unwrapA ((EF F n0 160 [vS x0_1] [.c tB]).bind fun x=>bif !x.1 then some (.ret (2,())) else (EF F n0 103 [vI x0_2,vI 0,vI 9999999] [.c tB]).bind fun x=>bif !x.1 then some (.ret (3,())) else (EF F n0 103 [vI x0_3,vI 0,vI 9999999] [.c tB]).bind fun x=>bif !x.1 then some (.ret (3,())) else (EF F n0 103 [vI x0_4,vI 0,vI 2000] [.c tB]).bind fun x=>bif !x.1 then some (.ret (3,())) else (EF F n0 103 [vI x0_5,vI 1,vI 2000] [.c tB]).bind fun x=>bif !x.1 then some (.ret (3,())) else (EF F n0 103 [vI x0_6,vI 1,vI 5] [.c tB]).bind fun x=>bif !x.1 then some (.ret (3,())) else (EF F n0 103 [vI x0_7,vI 0,vI 10] [.c tB]).bind fun x=>bif !x.1 then some (.ret (3,())) else (EF F n0 105 [.o (.agg [{ t:=VT.sl 1 (VT.sl 1 (tI)),x:=x0_8 }]),vI x1] [.c (tI)]).bind fun x=>some (.ret (x.1,()))):=by kernel_rfl
theorem ref27_Mean_m {F:Nat} (n0:Nat) (x0_0:VT.den (.sl 1 (.int .i64))) (x0_1:VT.den (.sl 1 (.int .i64))) (x1:VT.den (.sl 1 .nat)):EF F (n0+1) 51 [.o (.agg [⟨(.sl 1 (.int .i64)),x0_0⟩,⟨(.sl 1 (.int .i64)),x0_1⟩]),.o (.c ⟨(.sl 1 .nat),x1⟩)] [.agg [.bool,.nat,.nat],.c (.int .i64)]=unwrapA ((EF F n0 109 [.o (.agg [⟨VT.sl 1 (tI),x0_0⟩,⟨VT.sl 1 (tI),x0_1⟩]),.o (.c ⟨VT.sl 1 tN,x1⟩)] [.agg [tB,tN,tN],.c (tI)]).bind fun x=>some (.ret (x.1,x.2.1,x.2.2.1,x.2.2.2.1,()))):=by kernel_rfl
theorem ref18_Mean_m {F:Nat} (n0:Nat) (x0_0:VT.den (.sl 1 (.int .i64))) (x0_1:VT.den (.sl 1 (.int .i64))) (x1:VT.den (.sl 1 .nat)):EF F (n0+1) 109 [.o (.agg [⟨(.sl 1 (.int .i64)),x0_0⟩,⟨(.sl 1 (.int .i64)),x0_1⟩]),.o (.c ⟨(.sl 1 .nat),x1⟩)] [.agg [.bool,.nat,.nat],.c (.int .i64)]=unwrapA ((EF F n0 162 [.o (.agg [⟨VT.sl 1 (tI),x0_0⟩,⟨VT.sl 1 (tI),x0_1⟩]),.o (.c ⟨VT.sl 1 tN,x1⟩)] [.c (tI)]).bind fun x=>bif x.1 != 0 then (EF F n0 163 [vI 0] [.agg [tB,tN,tN]]).bind fun x_1=>some (.ret (x_1.1,x_1.2.1,x_1.2.2.1,x.1,())) else loopA 0 [tI,VT.sl 2 (tB.pair tN)] (fun x=>bif decide (x.1<(Nat.cast (R:=Int) (List.length x1))) then (ix x0_0 x.1).bind fun y=>(EF F n0 70 [vI y] [.agg [tB,tN]]).bind fun x_1=>bif capB (List.length x.2.1+[(x_1.1,x_1.2.1)].length) 32 then some (.cont 0 [tI,VT.sl 2 (tB.pair tN)] (IntKind.i64.wrap (x.1+1),x.2.1 ++ [(x_1.1,x_1.2.1)],())) else none else (EF F n0 164 [.o (.c ⟨VT.sl 2 (tB.pair tN),x.2.1⟩),.o (.c ⟨VT.sl 1 tN,x1⟩)] [.agg [tB,tN,tN]]).bind fun x=>some (.ret (x.1,x.2.1,x.2.2.1,0,()))) F (0,[],())):=by kernel_rfl
theorem ref18_Valid_m {F:Nat} (n0:Nat) (x0_0:VT.den (.sl 1 (.int .i64))) (x0_1:VT.den (.sl 1 (.int .i64))):EF F (n0+1) 101 [.o (.agg [⟨(.sl 1 (.int .i64)),x0_0⟩,⟨(.sl 1 (.int .i64)),x0_1⟩])] [.c (.int .i64)]=unwrapA (bif decide (21<(Nat.cast (R:=Int) (List.length x0_0))) then some (.ret (5,())) else bif (Nat.cast (R:=Int) (List.length x0_0)) == 0 then some (.ret (20,())) else bif (Nat.cast (R:=Int) (List.length x0_1)) != (Nat.cast (R:=Int) (List.length x0_0)) then some (.ret (1,())) else loopA 0 [tI,tI] (fun x=>bif decide (x.1<(Nat.cast (R:=Int) (List.length x0_0))) then (ix x0_0 x.1).bind fun y=>bif decide (y < -1000) then some (.ret (3,())) else (ix x0_0 x.1).bind fun y=>bif decide (1000<y) then some (.ret (3,())) else (ix x0_1 x.1).bind fun y=>bif decide (y<1) then some (.ret (3,())) else (ix x0_1 x.1).bind fun y=>bif decide (1000<y) then some (.ret (3,())) else some (.cont 0 [tI,tI] (IntKind.i64.wrap (x.1+1),x.2.1,())) else loopA 0 [tI,tI] (fun x_1=>bif decide (x_1.1<(Nat.cast (R:=Int) (List.length x0_0))) then (ix x0_0 x_1.1).bind fun y=>(ix x0_0 (IntKind.i64.wrap (x_1.1-1))).bind fun y_1=>bif decide (y≤y_1) then some (.ret (23,())) else some (.cont 0 [tI,tI] (IntKind.i64.wrap (x_1.1+1),x_1.2.1,())) else some (.ret (0,()))) F (1,x.2.1,())) F (0,0,())):=by kernel_rfl
theorem ref18_check_m {F:Nat} (n0:Nat) (x0_0:VT.den (.sl 1 (.int .i64))) (x0_1:VT.den (.sl 1 (.int .i64))) (x1:VT.den (.sl 1 .nat)):EF F (n0+1) 162 [.o (.agg [⟨(.sl 1 (.int .i64)),x0_0⟩,⟨(.sl 1 (.int .i64)),x0_1⟩]),.o (.c ⟨(.sl 1 .nat),x1⟩)] [.c (.int .i64)]=unwrapA ((EF F n0 101 [.o (.agg [⟨VT.sl 1 (tI),x0_0⟩,⟨VT.sl 1 (tI),x0_1⟩])] [.c (tI)]).bind fun x=>bif x.1 != 0 then some (.ret (x.1,())) else bif (Nat.cast (R:=Int) (List.length x1)) != (Nat.cast (R:=Int) (List.length x0_0)) then some (.ret (1,())) else loopA 0 [tI,tI] (fun x=>bif decide (x.1<(Nat.cast (R:=Int) (List.length x1))) then (ix x1 x.1).bind fun y=>(EF F n0 137 [vN y] [.c (tI)]).bind fun x_1=>bif decide (0<x_1.1) then some (.ret (0,())) else some (.cont 0 [tI,tI] (IntKind.i64.wrap (x.1+1),x.2.1,())) else some (.ret (20,()))) F (0,0,())):=by kernel_rfl
theorem ref18_share_m {F:Nat} (n0:Nat) (x0:VT.den (.sl 2 (.pair .bool .nat))) (x1:VT.den (.sl 1 .nat)):EF F (n0+1) 164 [.o (.c ⟨(.sl 2 (.pair .bool .nat)),x0⟩),.o (.c ⟨(.sl 1 .nat),x1⟩)] [.agg [.bool,.nat,.nat]]=unwrapA ((EF F n0 70 [vI 0] [.agg [tB,tN]]).bind fun x=>loopA 0 [tN,tI,tB,tN] (fun x_1=>bif decide (x_1.2.1<(Nat.cast (R:=Int) (List.length x0))) then (ix x0 x_1.2.1).bind fun y=>(ix x1 x_1.2.1).bind fun y_1=>(EF F n0 135 [vB false,vN y_1] [.agg [tB,tN]]).bind fun x_2=>(EF F n0 165 [.o (.agg [⟨tB,y.1⟩,⟨tN,y.2⟩]),.o (.agg [⟨tB,x_2.1⟩,⟨tN,x_2.2.1⟩])] [.agg [tB,tN]]).bind fun x_3=>(EF F n0 119 [.o (.agg [⟨tB,x_1.2.2.1⟩,⟨tN,x_1.2.2.2.1⟩]),.o (.agg [⟨tB,x_3.1⟩,⟨tN,x_3.2.1⟩])] [.agg [tB,tN]]).bind fun x_4=>(ix x1 x_1.2.1).bind fun y=>(EF F n0 171 [vN x_1.1,vN y] [.c tN]).bind fun x_5=>some (.cont 0 [tN,tI,tB,tN] (x_5.1,IntKind.i64.wrap (x_1.2.1+1),x_4.1,x_4.2.1,())) else (EF F n0 135 [vB false,vN x_1.1] [.agg [tB,tN]]).bind fun x_2=>(EF F n0 207 [.o (.agg [⟨tB,x_1.2.2.1⟩,⟨tN,x_1.2.2.2.1⟩]),.o (.agg [⟨tB,x_2.1⟩,⟨tN,x_2.2.1⟩])] [.agg [tB,tN,tN],.c tB]).bind fun x=>some (.ret (x.1,x.2.1,x.2.2.1,()))) F ([],0,x.1,x.2.1,())):=by kernel_rfl
theorem ref19_Valid_m {F:Nat} (n0:Nat) (x0:VT.den (.sl 1 (.sl 1 (.int .i64)))) (x1:Int):EF F (n0+1) 105 [.o (.agg [⟨(.sl 1 (.sl 1 (.int .i64))),x0⟩]),.o (.c ⟨(.int .i64),x1⟩)] [.c (.int .i64)]=unwrapA (bif decide (x1<1) then some (.ret (1,())) else bif decide (21<x1) then some (.ret (1,())) else bif (Nat.cast (R:=Int) (List.length x0)) != x1 then some (.ret (1,())) else (ix x0 0).bind fun y=>bif decide ((Nat.cast (R:=Int) y.length)<2) then some (.ret (3,())) else bif decide (6<(Nat.cast (R:=Int) y.length)) then some (.ret (3,())) else loopA 0 [tI,tI] (fun x=>bif decide (x.1<x1) then (ix x0 x.1).bind fun y_1=>(EF F n0 161 [.o (.c ⟨VT.sl 1 (tI),y_1⟩),vI ((Nat.cast (R:=Int) y.length))] [.c (tI)]).bind fun x_1=>bif x_1.1 != 0 then some (.ret (x_1.1,())) else some (.cont 0 [tI,tI] (IntKind.i64.wrap (x.1+1),x.2.1,())) else some (.ret (0,()))) F (0,0,())):=by kernel_rfl
theorem ref19_row_m {F:Nat} (n0:Nat) (x0:VT.den (.sl 1 (.int .i64))) (x1:Int):EF F (n0+1) 161 [.o (.c ⟨(.sl 1 (.int .i64)),x0⟩),.o (.c ⟨(.int .i64),x1⟩)] [.c (.int .i64)]=unwrapA (bif (Nat.cast (R:=Int) (List.length x0)) != x1 then some (.ret (1,())) else loopA 0 [tI,tI,tI] (fun x=>bif decide (x.1<(Nat.cast (R:=Int) (List.length x0))) then (ix x0 x.1).bind fun y=>bif decide (y<1) then some (.ret (3,())) else (ix x0 x.1).bind fun y=>bif decide (1000<y) then some (.ret (3,())) else (ix x0 x.1).bind fun y=>some (.cont 0 [tI,tI,tI] (IntKind.i64.wrap (x.1+1),IntKind.i64.wrap (x.2.1+y),x.2.2.1,())) else bif x.2.1 != 1000 then some (.ret (19,())) else some (.ret (0,()))) F (0,0,0,())):=by kernel_rfl
theorem ref19_Categories_m {F:Nat} (n0:Nat) (x0:VT.den (.sl 1 (.sl 1 (.int .i64)))):EF F (n0+1) 107 [.o (.agg [⟨(.sl 1 (.sl 1 (.int .i64))),x0⟩])] [.c (.int .i64)]=unwrapA (bif (Nat.cast (R:=Int) (List.length x0)) == 0 then some (.ret (0,())) else (ix x0 0).bind fun y=>some (.ret ((Nat.cast (R:=Int) y.length),()))):=by kernel_rfl
theorem ref13_Valid_m {F:Nat} (n0:Nat) (x0:List UInt8):EF F (n0+1) 160 [.o (.c ⟨.str,x0⟩)] [.c .bool]=unwrapA (bif decide (24<(Nat.cast (R:=Int) (List.length x0))) then some (.ret (false,())) else loopA 0 [tI,tI,tI,tB] (fun x=>bif decide (x.1<(Nat.cast (R:=Int) (List.length x0))) then (ix x0 x.1).bind fun b=>bif (Nat.cast (R:=Int) b.toNat) == 46 then bif x.2.1 == 0 then some (.ret (false,())) else some (.cont 0 [tI,tI,tI,tB] (IntKind.i64.wrap (x.1+1),0,IntKind.i64.wrap (x.2.2.1+1),x.2.2.2.1,())) else bif decide ((Nat.cast (R:=Int) b.toNat)<65) then bif decide ((Nat.cast (R:=Int) b.toNat)<48) then some (.ret (false,())) else bif decide (57<(Nat.cast (R:=Int) b.toNat)) then some (.ret (false,())) else bif decide (8<IntKind.i64.wrap (x.2.1+1)) then some (.ret (false,())) else some (.cont 0 [tI,tI,tI,tB] (IntKind.i64.wrap (x.1+1),IntKind.i64.wrap (x.2.1+1),x.2.2.1,x.2.2.2.1,())) else bif decide (90<(Nat.cast (R:=Int) b.toNat)) then bif decide ((Nat.cast (R:=Int) b.toNat)<48) then some (.ret (false,())) else bif decide (57<(Nat.cast (R:=Int) b.toNat)) then some (.ret (false,())) else bif decide (8<IntKind.i64.wrap (x.2.1+1)) then some (.ret (false,())) else some (.cont 0 [tI,tI,tI,tB] (IntKind.i64.wrap (x.1+1),IntKind.i64.wrap (x.2.1+1),x.2.2.1,x.2.2.2.1,())) else bif decide (8<IntKind.i64.wrap (x.2.1+1)) then some (.ret (false,())) else some (.cont 0 [tI,tI,tI,tB] (IntKind.i64.wrap (x.1+1),IntKind.i64.wrap (x.2.1+1),x.2.2.1,x.2.2.2.1,())) else bif decide (0<x.2.1) then some (.ret (decide (x.2.2.1≤5),())) else some (.ret (false,()))) F (0,0,1,false,())):=by kernel_rfl
theorem ref04_Round_m {F:Nat} (n0:Nat) (x0_0:Bool) (x0_1 x0_2:List Nat) (x1 x2:Int):EF F (n0+1) 52 [.o (.agg [⟨.bool,x0_0⟩,⟨.nat,x0_1⟩,⟨.nat,x0_2⟩]),.o (.c ⟨(.int .i64),x1⟩),.o (.c ⟨(.int .i64),x2⟩)] [.agg [.bool,.nat,(.int .i64)],.c (.int .i64)]=unwrapA ((EF F n0 110 [vI x1] [.c tB]).bind fun x=>bif !x.1 then some (.ret (false,[],0,3,())) else (EF F n0 111 [vI x2] [.c tB]).bind fun x=>bif !x.1 then some (.ret (false,[],0,1,())) else (EF F n0 114 [vI x1] [.c tN]).bind fun x=>(EF F n0 113 [.o (.agg [⟨tB,false⟩,⟨tN,x.1⟩])] [.agg [tB,tN,tN]]).bind fun x=>(EF F n0 112 [.o (.agg [⟨tB,x0_0⟩,⟨tN,x0_1⟩,⟨tN,x0_2⟩]),.o (.agg [⟨tB,x.1⟩,⟨tN,x.2.1⟩,⟨tN,x.2.2.1⟩])] [.agg [tB,tN,tN]]).bind fun x=>(EF F n0 116 [.o (.agg [⟨tB,x.1⟩,⟨tN,x.2.1⟩,⟨tN,x.2.2.1⟩])] [.agg [tB,tN]]).bind fun x_1=>(EF F n0 115 [.o (.agg [⟨tB,x_1.1⟩,⟨tN,x_1.2.1⟩])] [.agg [tB,tN]]).bind fun x_2=>(EF F n0 113 [.o (.agg [⟨tB,x_2.1⟩,⟨tN,x_2.2.1⟩])] [.agg [tB,tN,tN]]).bind fun x_3=>(EF F n0 118 [.o (.agg [⟨tB,x.1⟩,⟨tN,x.2.1⟩,⟨tN,x.2.2.1⟩]),.o (.agg [⟨tB,x_3.1⟩,⟨tN,x_3.2.1⟩,⟨tN,x_3.2.2.1⟩])] [.agg [tB,tN,tN]]).bind fun x_4=>(EF F n0 117 [.o (.agg [⟨tB,x.1⟩,⟨tN,x.2.1⟩,⟨tN,x.2.2.1⟩]),.o (.agg [⟨tB,x_2.1⟩,⟨tN,x_2.2.1⟩]),.o (.agg [⟨tB,x_4.1⟩,⟨tN,x_4.2.1⟩,⟨tN,x_4.2.2.1⟩]),vI x2] [.c tB]).bind fun x=>bif x.1 then (EF F n0 119 [.o (.agg [⟨tB,x_2.1⟩,⟨tN,x_2.2.1⟩]),.o (.agg [⟨tB,false⟩,⟨tN,[Int.toNat 1]⟩])] [.agg [tB,tN]]).bind fun x=>some (.ret (x.1,x.2.1,x1,0,())) else some (.ret (x_2.1,x_2.2.1,x1,0,()))):=by kernel_rfl
theorem ref04_Print_m {F:Nat} (n0:Nat) (x0_0:Bool) (x0_1:List Nat) (x0_2:Int):EF F (n0+1) 53 [.o (.agg [⟨.bool,x0_0⟩,⟨.nat,x0_1⟩,⟨(.int .i64),x0_2⟩])] [.c .str,.c (.int .i64)]=unwrapA ((EF F n0 110 [vI x0_2] [.c tB]).bind fun x=>bif !x.1 then some (.ret ([],3,())) else (EF F n0 115 [.o (.agg [⟨tB,x0_0⟩,⟨tN,x0_1⟩])] [.agg [tB,tN]]).bind fun x=>(EF F n0 68 [vN x.2.1] [.c tS]).bind fun x_1=>loopA 0 [tS] (fun x_2=>bif decide ((Nat.cast (R:=Int) (List.length x_2.1))≤x0_2) then bif strB [48].length (List.length x_2.1) then some (.cont 0 [tS] ([48] ++ x_2.1,())) else none else bif decide (0<x0_2) then (sub x_2.1 0 (IntKind.i64.wrap ((Nat.cast (R:=Int) (List.length x_2.1))-x0_2))).bind fun m=>bif strB m.length [46].length then (sub x_2.1 (IntKind.i64.wrap ((Nat.cast (R:=Int) (List.length x_2.1))-x0_2)) (Nat.cast (R:=Int) (List.length x_2.1))).bind fun m_1=>bif strB (m ++ [46]).length m_1.length then bif x.1 then bif strB [45].length (m ++ [46] ++ m_1).length then some (.ret ([45] ++ (m ++ [46] ++ m_1),0,())) else none else some (.ret (m ++ [46] ++ m_1,0,())) else none else none else bif x.1 then bif strB [45].length (List.length x_2.1) then some (.ret ([45] ++ x_2.1,0,())) else none else some (.ret (x_2.1,0,()))) F (x_1.1,())):=by kernel_rfl
theorem ref04_places_m {F:Nat} (n0:Nat) (x0:Int):EF F (n0+1) 110 [.o (.c ⟨(.int .i64),x0⟩)] [.c .bool]=unwrapA (bif decide (0≤x0) then some (.ret (decide (x0≤9),())) else some (.ret (false,()))):=by kernel_rfl
theorem ref04_Mode_m {F:Nat} (n0:Nat) (x0:Int):EF F (n0+1) 111 [.o (.c ⟨(.int .i64),x0⟩)] [.c .bool]=unwrapA (bif decide (1≤x0) then some (.ret (decide (x0≤7),())) else some (.ret (false,()))):=by kernel_rfl
theorem ref04_Whole_m {F:Nat} (n0:Nat) (x0_0:Bool) (x0_1:List Nat):EF F (n0+1) 113 [.o (.agg [⟨.bool,x0_0⟩,⟨.nat,x0_1⟩])] [.agg [.bool,.nat,.nat]]=unwrapA ((EF F n0 115 [.o (.agg [⟨tB,x0_0⟩,⟨tN,x0_1⟩])] [.agg [tB,tN]]).bind fun x=>some (.ret (x.1,x.2.1,[Int.toNat 1],()))):=by kernel_rfl
theorem ref04_power_m {F:Nat} (n0:Nat) (x0:Int):EF F (n0+1) 114 [.o (.c ⟨(.int .i64),x0⟩)] [.c .nat]=unwrapA ((EF F n0 166 [vN ([Int.toNat 10]),vI x0] [.c tN,.c tB]).bind fun x=>some (.ret (x.1,()))):=by kernel_rfl
theorem ref04_up_m {F:Nat} (n0:Nat) (x0_0:Bool) (x0_1 x0_2:List Nat) (x1_0:Bool) (x1_1:List Nat) (x2_0:Bool) (x2_1 x2_2:List Nat) (x3:Int):EF F (n0+1) 117 [.o (.agg [⟨.bool,x0_0⟩,⟨.nat,x0_1⟩,⟨.nat,x0_2⟩]),.o (.agg [⟨.bool,x1_0⟩,⟨.nat,x1_1⟩]),.o (.agg [⟨.bool,x2_0⟩,⟨.nat,x2_1⟩,⟨.nat,x2_2⟩]),.o (.c ⟨(.int .i64),x3⟩)] [.c .bool]=unwrapA ((EF F n0 34 [.o (.agg [⟨tB,x2_0⟩,⟨tN,x2_1⟩,⟨tN,x2_2⟩])] [.c (tI)]).bind fun x=>bif x.1 == 0 then some (.ret (false,())) else (EF F n0 34 [.o (.agg [⟨tB,x0_0⟩,⟨tN,x0_1⟩,⟨tN,x0_2⟩])] [.c (tI)]).bind fun x=>bif x3 == 6 then some (.ret (false,())) else bif x3 == 7 then some (.ret (true,())) else bif x3 == 5 then some (.ret (decide (x.1<0),())) else bif x3 == 4 then some (.ret (!decide (x.1<0),())) else (EF F n0 168 [.o (.agg [⟨tB,x2_0⟩,⟨tN,x2_1⟩,⟨tN,x2_2⟩]),.o (.agg [⟨tB,false⟩,⟨tN,[Int.toNat 1]⟩,⟨tN,[Int.toNat 2]⟩])] [.c (tI)]).bind fun x_1=>bif x_1.1 != 0 then some (.ret (decide (0<x_1.1),())) else bif x3 == 2 then some (.ret (!decide (x.1<0),())) else bif x3 == 3 then some (.ret (decide (x.1<0),())) else bif decide (0<(Nat.cast (R:=Int) (List.length x1_1))) then (ix x1_1 0).bind fun y=>some (.ret (((Nat.cast (R:=Int) y)).tmod 2 == 1,())) else some (.ret (false,()))):=by kernel_rfl
end Go.Proofs.YtcggnmddcbhchaaGreatDoor
set_option linter.unusedSimpArgs false
set_option linter.unusedVariables false
namespace Go.Proofs.YtcggnmddcbhchaaGreatDoor
open Go.RowKit Lim
section
variable {c:UInt8}
end
end Go.Proofs.YtcggnmddcbhchaaGreatDoor
set_option linter.unusedSimpArgs false
set_option linter.unusedVariables false
namespace Go.Proofs.YtcggnmddcbhchaaGreatDoor
open Go.RowKit Lim
theorem ref09_Print_m {F:Nat} (n0:Nat) (x0 x1:Int):EF F (n0+1) 28 [.o (.c ⟨(.int .i64),x0⟩),.o (.c ⟨(.int .i64),x1⟩)] [.c .str,.c (.int .i64)]=unwrapA ((EF F n0 64 [vI x0,vI x1] [.c (tI),.c (tI)]).bind fun x=>bif x.2.1 != 0 then some (.ret ([],x.2.1,())) else (EF F n0 65 [vI x0] [.c tS]).bind fun x_1=>bif strB (List.length x_1.1) [45].length then (EF F n0 66 [vI x1,vI 7] [.c tS]).bind fun x_2=>bif strB (x_1.1 ++ [45]).length (List.length x_2.1) then bif strB (x_1.1 ++ [45] ++ x_2.1).length [45].length then (EF F n0 66 [vI x.1,vI 2] [.c tS]).bind fun x=>bif strB (x_1.1 ++ [45] ++ x_2.1 ++ [45]).length (List.length x.1) then some (.ret (x_1.1 ++ [45] ++ x_2.1 ++ [45] ++ x.1,0,())) else none else none else none else none):=by kernel_rfl
theorem ref56_number_m {F:Nat} (n0:Nat) (x0:Int):EF F (n0+1) 30 [.o (.c ⟨(.int .i64),x0⟩)] [.c .str]=unwrapA ((EF F n0 70 [vI x0] [.agg [tB,tN]]).bind fun x=>(EF F n0 69 [.o (.agg [⟨tB,x.1⟩,⟨tN,x.2.1⟩])] [.c tS]).bind fun x=>some (.ret (x.1,()))):=by kernel_rfl
theorem ref09_Check_m {F:Nat} (n0:Nat) (x0 x1:Int):EF F (n0+1) 64 [.o (.c ⟨(.int .i64),x0⟩),.o (.c ⟨(.int .i64),x1⟩)] [.c (.int .i64),.c (.int .i64)]=unwrapA ((EF F n0 65 [vI x0] [.c tS]).bind fun x=>bif x.1 == [] then some (.ret (0,1,())) else bif decide (x1<1) then some (.ret (0,3,())) else bif decide (9999999<x1) then some (.ret (0,3,())) else some (.ret (IntKind.i64.wrap (98-(IntKind.i64.wrap (IntKind.i64.wrap (IntKind.i64.wrap (x0*10000000)+x1)*100)).tmod 97),0,()))):=by kernel_rfl
theorem ref09_prefix_m {F:Nat} (n0:Nat) (x0:Int):EF F (n0+1) 65 [.o (.c ⟨(.int .i64),x0⟩)] [.c .str]=unwrapA (bif x0 == 1 then some (.ret ([73,84,77],())) else bif x0 == 2 then some (.ret ([70,82,77],())) else bif x0 == 3 then some (.ret ([67,65,78],())) else bif x0 == 4 then some (.ret ([83,69,83],())) else bif x0 == 5 then some (.ret ([82,65,84],())) else bif x0 == 6 then some (.ret ([65,83,84],())) else some (.ret ([],()))):=by kernel_rfl
theorem ref09_digits_m {F:Nat} (n0:Nat) (x0 x1:Int):EF F (n0+1) 66 [.o (.c ⟨(.int .i64),x0⟩),.o (.c ⟨(.int .i64),x1⟩)] [.c .str]=unwrapA (loopA 0 [tI,tS,tI] (fun x=>bif decide (x.1<x1) then bif byteR (IntKind.u8.wrap (IntKind.i64.wrap (48+Int.tmod x.2.2.1 10))) && true then bif strB [UInt8.ofNat (IntKind.u8.wrap (IntKind.i64.wrap (48+Int.tmod x.2.2.1 10))).toNat].length (List.length x.2.1) then some (.cont 0 [tI,tS,tI] (IntKind.i64.wrap (x.1+1),[UInt8.ofNat (IntKind.u8.wrap (IntKind.i64.wrap (48+Int.tmod x.2.2.1 10))).toNat] ++ x.2.1,IntKind.i64.wrap (Int.tdiv x.2.2.1 10),())) else none else none else some (.ret (x.2.1,()))) F (0,[],x0,())):=by kernel_rfl
theorem ref01_Print_m {F:Nat} (n0:Nat) (x0:List Nat):EF F (n0+1) 68 [.o (.c ⟨.nat,x0⟩)] [.c .str]=unwrapA ((EF F n0 133 [vN x0] [.c tN]).bind fun x=>bif (Nat.cast (R:=Int) (List.length x.1)) == 0 then some (.ret ([48],())) else bif mkB 0 (IntKind.i64.wrap (10*(Nat.cast (R:=Int) (List.length x.1)))) 1 then loopA 0 [VT.sl 1 VT.byte,tN] (fun x_1=>bif decide (0<(Nat.cast (R:=Int) (List.length x_1.2.1))) then (EF F n0 134 [vN x_1.2.1,.o (.c ⟨VT.int IntKind.u64,10⟩)] [.c tN,.c (VT.int IntKind.u64)]).bind fun x_2=>bif byteR (IntKind.u8.wrap (IntKind.u64.wrap (48+x_2.2.1))) && true then bif capB (List.length x_1.1+[UInt8.ofNat (IntKind.u8.wrap (IntKind.u64.wrap (48+x_2.2.1))).toNat].length) 1 then some (.cont 0 [VT.sl 1 VT.byte,tN] (x_1.1 ++ [UInt8.ofNat (IntKind.u8.wrap (IntKind.u64.wrap (48+x_2.2.1))).toNat],x_2.1,())) else none else none else bif mkB ((Nat.cast (R:=Int) (List.length x_1.1))) ((Nat.cast (R:=Int) (List.length x_1.1))) 1 then loopA 0 [tI,VT.sl 1 VT.byte] (fun x_2=>bif decide (x_2.1<(Nat.cast (R:=Int) (List.length x_1.1))) then bif Nat.beq 1 1 && (decide (0≤x_2.1) && decide (Int.toNat x_2.1<List.length x_1.1)) then x_1.1[Int.toNat x_2.1]?.bind fun y=>bif Nat.beq 1 1 && (decide (0≤IntKind.i64.wrap (IntKind.i64.wrap ((Nat.cast (R:=Int) (List.length x_1.1))-1)-x_2.1)) && decide ((IntKind.i64.wrap (IntKind.i64.wrap ((Nat.cast (R:=Int) (List.length x_1.1))-1)-x_2.1)).toNat<List.length x_2.2.1)) then x_2.2.1[(IntKind.i64.wrap (IntKind.i64.wrap ((Nat.cast (R:=Int) (List.length x_1.1))-1)-x_2.1)).toNat]?.bind fun el'=>bif byteR (Nat.cast (R:=Int) y.toNat) && true then some (.cont 0 [tI,VT.sl 1 VT.byte] (IntKind.i64.wrap (x_2.1+1),List.set x_2.2.1 (IntKind.i64.wrap (IntKind.i64.wrap ((Nat.cast (R:=Int) (List.length x_1.1))-1)-x_2.1)).toNat (UInt8.ofNat ((Nat.cast (R:=Int) y.toNat)).toNat),())) else none else none else none else some (.ret (x_2.2.1,()))) F (0,List.replicate ((Nat.cast (R:=Int) (List.length x_1.1))).toNat (UInt8.ofNat (Int.toNat 0)),()) else none) F (List.replicate (Int.toNat 0) (UInt8.ofNat (Int.toNat 0)),x.1,()) else none):=by kernel_rfl
theorem ref02_Print_m {F:Nat} (n0:Nat) (x0_0:Bool) (x0_1:List Nat):EF F (n0+1) 69 [.o (.agg [⟨.bool,x0_0⟩,⟨.nat,x0_1⟩])] [.c .str]=unwrapA ((EF F n0 115 [.o (.agg [⟨tB,x0_0⟩,⟨tN,x0_1⟩])] [.agg [tB,tN]]).bind fun x=>bif x.1 then (EF F n0 68 [vN x.2.1] [.c tS]).bind fun x=>bif strB [45].length (List.length x.1) then some (.ret ([45] ++ x.1,())) else none else (EF F n0 68 [vN x.2.1] [.c tS]).bind fun x=>some (.ret (x.1,()))):=by kernel_rfl
end Go.Proofs.YtcggnmddcbhchaaGreatDoor
set_option linter.unusedSimpArgs false
set_option linter.unusedVariables false
namespace Go.Proofs.YtcggnmddcbhchaaGreatDoor
open Go.RowKit Lim
theorem pd1Norm_k (b:Bool) (n0:Nat) (a0:List Nat):ev (evwF fuel) (n0+1) b 133 [.o (.c ⟨.nat,a0⟩)] [.c .nat]=bif capD a0 then some (limbsK (val a0),()) else none:=by cases b <;> kernel_rfl
theorem pd1Norm_e {b:Bool} (n0:Nat) (a0:List Nat) (c0:capD a0=true):ev (evwF fuel) (n0+1) b 133 [.o (.c ⟨.nat,a0⟩)] [.c .nat]=some (limbsK (val a0),()):=by
 rw [pd1Norm_k]
 simp only [c0,Bool.and_self,Bool.and_true,cond_true]
 try rfl
theorem pd1Of_k (b:Bool) (n0:Nat) (z0:Int):ev (evwF fuel) (n0+1) b 72 [.o (.c ⟨.int .u64,z0⟩)] [.c .nat]=bif capU z0 then some (limbsK (z0.toNat),()) else none:=by cases b <;> kernel_rfl
theorem pd1Of_e {b:Bool} (n0:Nat) (z0:Int) (c0:(capU z0)=true):ev (evwF fuel) (n0+1) b 72 [.o (.c ⟨.int .u64,z0⟩)] [.c .nat]=some (limbsK (z0.toNat),()):=by
 rw [pd1Of_k]
 simp only [c0,Bool.and_self,Bool.and_true,cond_true]
 try rfl
theorem pd1Short_k (b:Bool) (n0:Nat) (a0:List Nat) (z1:Int):ev (evwF fuel) (n0+1) b 134 [.o (.c ⟨.nat,a0⟩),.o (.c ⟨.int .u64,z1⟩)] [.c .nat,.c (.int .u64)]=bif capD a0 && (decide (0<z1) && decide (z1<4294967296)) then some (limbsK (val a0 / z1.toNat),((val a0 % z1.toNat:Nat):Int),()) else none:=by cases b <;> kernel_rfl
theorem pd1Short_e {b:Bool} (n0:Nat) (a0:List Nat) (z1:Int) (c0:capD a0=true) (c1:((decide (0<z1) && decide (z1<4294967296)))=true):ev (evwF fuel) (n0+1) b 134 [.o (.c ⟨.nat,a0⟩),.o (.c ⟨.int .u64,z1⟩)] [.c .nat,.c (.int .u64)]=some (limbsK (val a0 / z1.toNat),((val a0 % z1.toNat:Nat):Int),()):=by
 rw [pd1Short_k]
 simp only [c0,c1,Bool.and_self,Bool.and_true,cond_true]
 try rfl
theorem pd1Mul_k (b:Bool) (n0:Nat) (a0:List Nat) (a1:List Nat):ev (evwF fuel) (n0+1) b 108 [.o (.c ⟨.nat,a0⟩),.o (.c ⟨.nat,a1⟩)] [.c .nat]=bif capD a0 && capD a1 then some (limbsK (val a0*val a1),()) else none:=by cases b <;> kernel_rfl
theorem pd1Mul_e {b:Bool} (n0:Nat) (a0:List Nat) (a1:List Nat) (c0:capD a0=true) (c1:capD a1=true):ev (evwF fuel) (n0+1) b 108 [.o (.c ⟨.nat,a0⟩),.o (.c ⟨.nat,a1⟩)] [.c .nat]=some (limbsK (val a0*val a1),()):=by
 rw [pd1Mul_k]
 simp only [c0,c1,Bool.and_self,Bool.and_true,cond_true]
 try rfl
theorem pd1Add_k (b:Bool) (n0:Nat) (a0:List Nat) (a1:List Nat):ev (evwF fuel) (n0+1) b 171 [.o (.c ⟨.nat,a0⟩),.o (.c ⟨.nat,a1⟩)] [.c .nat]=bif capD a0 && capD a1 then some (limbsK (val a0+val a1),()) else none:=by cases b <;> kernel_rfl
theorem pd1Add_e {b:Bool} (n0:Nat) (a0:List Nat) (a1:List Nat) (c0:capD a0=true) (c1:capD a1=true):ev (evwF fuel) (n0+1) b 171 [.o (.c ⟨.nat,a0⟩),.o (.c ⟨.nat,a1⟩)] [.c .nat]=some (limbsK (val a0+val a1),()):=by
 rw [pd1Add_k]
 simp only [c0,c1,Bool.and_self,Bool.and_true,cond_true]
 try rfl
theorem pd1Bits_k (b:Bool) (n0:Nat) (a0:List Nat):ev (evwF fuel) (n0+1) b 137 [.o (.c ⟨.nat,a0⟩)] [.c (.int .i64)]=bif capD a0 then some (((bitsN (val a0):Nat):Int),()) else none:=by cases b <;> kernel_rfl
theorem pd1Bits_e {b:Bool} (n0:Nat) (a0:List Nat) (c0:capD a0=true):ev (evwF fuel) (n0+1) b 137 [.o (.c ⟨.nat,a0⟩)] [.c (.int .i64)]=some (((bitsN (val a0):Nat):Int),()):=by
 rw [pd1Bits_k]
 simp only [c0,Bool.and_self,Bool.and_true,cond_true]
 try rfl
theorem pd2Make_k (b:Bool) (n0:Nat) (t0:Bool) (a1:List Nat):ev (evwF fuel) (n0+1) b 135 [.o (.c ⟨.bool,t0⟩),.o (.c ⟨.nat,a1⟩)] [.agg [.bool,.nat]]=bif capD a1 then some (decide ((sg t0 (val a1))<0),limbsK (sg t0 (val a1)).natAbs,()) else none:=by cases b <;> kernel_rfl
theorem pd2Make_e {b:Bool} (n0:Nat) (t0:Bool) (a1:List Nat) (c0:capD a1=true):ev (evwF fuel) (n0+1) b 135 [.o (.c ⟨.bool,t0⟩),.o (.c ⟨.nat,a1⟩)] [.agg [.bool,.nat]]=some (decide ((sg t0 (val a1))<0),limbsK (sg t0 (val a1)).natAbs,()):=by
 rw [pd2Make_k]
 simp only [c0,Bool.and_self,Bool.and_true,cond_true]
 try rfl
theorem pd2Norm_k (b:Bool) (n0:Nat) (t0:Bool) (a0:List Nat):ev (evwF fuel) (n0+1) b 115 [.o (.agg [⟨.bool,t0⟩,⟨.nat,a0⟩])] [.agg [.bool,.nat]]=bif capD a0 then some (decide ((sg t0 (val a0))<0),limbsK (sg t0 (val a0)).natAbs,()) else none:=by cases b <;> kernel_rfl
theorem pd2Norm_e {b:Bool} (n0:Nat) (t0:Bool) (a0:List Nat) (c0:capD a0=true):ev (evwF fuel) (n0+1) b 115 [.o (.agg [⟨.bool,t0⟩,⟨.nat,a0⟩])] [.agg [.bool,.nat]]=some (decide ((sg t0 (val a0))<0),limbsK (sg t0 (val a0)).natAbs,()):=by
 rw [pd2Norm_k]
 simp only [c0,Bool.and_self,Bool.and_true,cond_true]
 try rfl
theorem pd2Of_k (b:Bool) (n0:Nat) (z0:Int):ev (evwF fuel) (n0+1) b 70 [.o (.c ⟨.int .i64,z0⟩)] [.agg [.bool,.nat]]=bif capI z0 then some (decide ((z0)<0),limbsK (z0).natAbs,()) else none:=by cases b <;> kernel_rfl
theorem pd2Of_e {b:Bool} (n0:Nat) (z0:Int) (c0:(capI z0)=true):ev (evwF fuel) (n0+1) b 70 [.o (.c ⟨.int .i64,z0⟩)] [.agg [.bool,.nat]]=some (decide ((z0)<0),limbsK (z0).natAbs,()):=by
 rw [pd2Of_k]
 simp only [c0,Bool.and_self,Bool.and_true,cond_true]
 try rfl
theorem pd3Sign_k (b:Bool) (n0:Nat) (t0:Bool) (a0 b0:List Nat):ev (evwF fuel) (n0+1) b 34 [.o (.agg [⟨.bool,t0⟩,⟨.nat,a0⟩,⟨.nat,b0⟩])] [.c (.int .i64)]=bif capD a0 && capD b0 then some (sgnI (pz (sg t0 (val a0)) (val b0)),()) else none:=by cases b <;> kernel_rfl
theorem pd3Sign_e {b:Bool} (n0:Nat) (t0:Bool) (a0 b0:List Nat) (c0:capD a0=true) (c1:capD b0=true):ev (evwF fuel) (n0+1) b 34 [.o (.agg [⟨.bool,t0⟩,⟨.nat,a0⟩,⟨.nat,b0⟩])] [.c (.int .i64)]=some (sgnI (pz (sg t0 (val a0)) (val b0)),()):=by
 rw [pd3Sign_k]
 simp only [c0,c1,Bool.and_self,Bool.and_true,cond_true]
 try rfl
theorem pd1Pow_k (b:Bool) (n0:Nat) (a0:List Nat) (z1:Int):ev (evwF fuel) (n0+1) b 166 [.o (.c ⟨.nat,a0⟩),.o (.c ⟨.int .i64,z1⟩)] [.c .nat,.c .bool]=bif capD a0 && (decide (0≤z1) && decide (z1≤512)) then some (limbsK (val a0 ^ z1.toNat),true,()) else none:=by cases b <;> kernel_rfl
theorem pd1Pow_e {b:Bool} (n0:Nat) (a0:List Nat) (z1:Int) (c0:capD a0=true) (c1:((decide (0≤z1) && decide (z1≤512)))=true):ev (evwF fuel) (n0+1) b 166 [.o (.c ⟨.nat,a0⟩),.o (.c ⟨.int .i64,z1⟩)] [.c .nat,.c .bool]=some (limbsK (val a0 ^ z1.toNat),true,()):=by
 rw [pd1Pow_k]
 simp only [c0,c1,Bool.and_self,Bool.and_true,cond_true]
 try rfl
theorem pd2Mul_k (b:Bool) (n0:Nat) (t0:Bool) (a0:List Nat) (t1:Bool) (a1:List Nat):ev (evwF fuel) (n0+1) b 165 [.o (.agg [⟨.bool,t0⟩,⟨.nat,a0⟩]),.o (.agg [⟨.bool,t1⟩,⟨.nat,a1⟩])] [.agg [.bool,.nat]]=bif capD a0 && capD a1 then some (decide ((sg t0 (val a0)*sg t1 (val a1))<0),limbsK (sg t0 (val a0)*sg t1 (val a1)).natAbs,()) else none:=by cases b <;> kernel_rfl
theorem pd2Mul_e {b:Bool} (n0:Nat) (t0:Bool) (a0:List Nat) (t1:Bool) (a1:List Nat) (c0:capD a0=true) (c1:capD a1=true):ev (evwF fuel) (n0+1) b 165 [.o (.agg [⟨.bool,t0⟩,⟨.nat,a0⟩]),.o (.agg [⟨.bool,t1⟩,⟨.nat,a1⟩])] [.agg [.bool,.nat]]=some (decide ((sg t0 (val a0)*sg t1 (val a1))<0),limbsK (sg t0 (val a0)*sg t1 (val a1)).natAbs,()):=by
 rw [pd2Mul_k]
 simp only [c0,c1,Bool.and_self,Bool.and_true,cond_true]
 try rfl
theorem pd2Add_k (b:Bool) (n0:Nat) (t0:Bool) (a0:List Nat) (t1:Bool) (a1:List Nat):ev (evwF fuel) (n0+1) b 119 [.o (.agg [⟨.bool,t0⟩,⟨.nat,a0⟩]),.o (.agg [⟨.bool,t1⟩,⟨.nat,a1⟩])] [.agg [.bool,.nat]]=bif capD a0 && capD a1 then some (decide ((sg t0 (val a0)+sg t1 (val a1))<0),limbsK (sg t0 (val a0)+sg t1 (val a1)).natAbs,()) else none:=by cases b <;> kernel_rfl
theorem pd2Add_e {b:Bool} (n0:Nat) (t0:Bool) (a0:List Nat) (t1:Bool) (a1:List Nat) (c0:capD a0=true) (c1:capD a1=true):ev (evwF fuel) (n0+1) b 119 [.o (.agg [⟨.bool,t0⟩,⟨.nat,a0⟩]),.o (.agg [⟨.bool,t1⟩,⟨.nat,a1⟩])] [.agg [.bool,.nat]]=some (decide ((sg t0 (val a0)+sg t1 (val a1))<0),limbsK (sg t0 (val a0)+sg t1 (val a1)).natAbs,()):=by
 rw [pd2Add_k]
 simp only [c0,c1,Bool.and_self,Bool.and_true,cond_true]
 try rfl
theorem pd3Cmp_k (b:Bool) (n0:Nat) (t0:Bool) (a0 b0:List Nat) (t1:Bool) (a1 b1:List Nat):ev (evwF fuel) (n0+1) b 168 [.o (.agg [⟨.bool,t0⟩,⟨.nat,a0⟩,⟨.nat,b0⟩]),.o (.agg [⟨.bool,t1⟩,⟨.nat,a1⟩,⟨.nat,b1⟩])] [.c (.int .i64)]=bif capD a0 && capD b0 && capD a1 && capD b1 then some (cmpZ (pz (sg t0 (val a0)) (val b0)*(pd (val b1):Int)) (pz (sg t1 (val a1)) (val b1)*(pd (val b0):Int)),()) else none:=by cases b <;> kernel_rfl
theorem pd3Cmp_e {b:Bool} (n0:Nat) (t0:Bool) (a0 b0:List Nat) (t1:Bool) (a1 b1:List Nat) (c0:capD a0=true) (c1:capD b0=true) (c2:capD a1=true) (c3:capD b1=true):ev (evwF fuel) (n0+1) b 168 [.o (.agg [⟨.bool,t0⟩,⟨.nat,a0⟩,⟨.nat,b0⟩]),.o (.agg [⟨.bool,t1⟩,⟨.nat,a1⟩,⟨.nat,b1⟩])] [.c (.int .i64)]=some (cmpZ (pz (sg t0 (val a0)) (val b0)*(pd (val b1):Int)) (pz (sg t1 (val a1)) (val b1)*(pd (val b0):Int)),()):=by
 rw [pd3Cmp_k]
 simp only [c0,c1,c2,c3,Bool.and_self,Bool.and_true,cond_true]
 try rfl
theorem pd3Mul_k (b:Bool) (n0:Nat) (t0:Bool) (a0 b0:List Nat) (t1:Bool) (a1 b1:List Nat):ev (evwF fuel) (n0+1) b 112 [.o (.agg [⟨.bool,t0⟩,⟨.nat,a0⟩,⟨.nat,b0⟩]),.o (.agg [⟨.bool,t1⟩,⟨.nat,a1⟩,⟨.nat,b1⟩])] [.agg [.bool,.nat,.nat]]=bif capD a0 && capD b0 && capD a1 && capD b1 then some (decide ((rn (pz (sg t0 (val a0)) (val b0)*pz (sg t1 (val a1)) (val b1)) (pd (val b0)*pd (val b1)))<0),limbsK (rn (pz (sg t0 (val a0)) (val b0)*pz (sg t1 (val a1)) (val b1)) (pd (val b0)*pd (val b1))).natAbs,limbsK (rd (pz (sg t0 (val a0)) (val b0)*pz (sg t1 (val a1)) (val b1)) (pd (val b0)*pd (val b1))),()) else none:=by cases b <;> kernel_rfl
theorem pd3Mul_e {b:Bool} (n0:Nat) (t0:Bool) (a0 b0:List Nat) (t1:Bool) (a1 b1:List Nat) (c0:capD a0=true) (c1:capD b0=true) (c2:capD a1=true) (c3:capD b1=true):ev (evwF fuel) (n0+1) b 112 [.o (.agg [⟨.bool,t0⟩,⟨.nat,a0⟩,⟨.nat,b0⟩]),.o (.agg [⟨.bool,t1⟩,⟨.nat,a1⟩,⟨.nat,b1⟩])] [.agg [.bool,.nat,.nat]]=some (decide ((rn (pz (sg t0 (val a0)) (val b0)*pz (sg t1 (val a1)) (val b1)) (pd (val b0)*pd (val b1)))<0),limbsK (rn (pz (sg t0 (val a0)) (val b0)*pz (sg t1 (val a1)) (val b1)) (pd (val b0)*pd (val b1))).natAbs,limbsK (rd (pz (sg t0 (val a0)) (val b0)*pz (sg t1 (val a1)) (val b1)) (pd (val b0)*pd (val b1))),()):=by
 rw [pd3Mul_k]
 simp only [c0,c1,c2,c3,Bool.and_self,Bool.and_true,cond_true]
 try rfl
theorem pd3Sub_k (b:Bool) (n0:Nat) (t0:Bool) (a0 b0:List Nat) (t1:Bool) (a1 b1:List Nat):ev (evwF fuel) (n0+1) b 118 [.o (.agg [⟨.bool,t0⟩,⟨.nat,a0⟩,⟨.nat,b0⟩]),.o (.agg [⟨.bool,t1⟩,⟨.nat,a1⟩,⟨.nat,b1⟩])] [.agg [.bool,.nat,.nat]]=bif capD a0 && capD b0 && capD a1 && capD b1 then some (decide ((subN (pz (sg t0 (val a0)) (val b0)) (pd (val b0)) (pz (sg t1 (val a1)) (val b1)) (pd (val b1)))<0),limbsK (subN (pz (sg t0 (val a0)) (val b0)) (pd (val b0)) (pz (sg t1 (val a1)) (val b1)) (pd (val b1))).natAbs,limbsK (subM (pz (sg t0 (val a0)) (val b0)) (pd (val b0)) (pz (sg t1 (val a1)) (val b1)) (pd (val b1))),()) else none:=by cases b <;> kernel_rfl
theorem pd3Sub_e {b:Bool} (n0:Nat) (t0:Bool) (a0 b0:List Nat) (t1:Bool) (a1 b1:List Nat) (c0:capD a0=true) (c1:capD b0=true) (c2:capD a1=true) (c3:capD b1=true):ev (evwF fuel) (n0+1) b 118 [.o (.agg [⟨.bool,t0⟩,⟨.nat,a0⟩,⟨.nat,b0⟩]),.o (.agg [⟨.bool,t1⟩,⟨.nat,a1⟩,⟨.nat,b1⟩])] [.agg [.bool,.nat,.nat]]=some (decide ((subN (pz (sg t0 (val a0)) (val b0)) (pd (val b0)) (pz (sg t1 (val a1)) (val b1)) (pd (val b1)))<0),limbsK (subN (pz (sg t0 (val a0)) (val b0)) (pd (val b0)) (pz (sg t1 (val a1)) (val b1)) (pd (val b1))).natAbs,limbsK (subM (pz (sg t0 (val a0)) (val b0)) (pd (val b0)) (pz (sg t1 (val a1)) (val b1)) (pd (val b1))),()):=by
 rw [pd3Sub_k]
 simp only [c0,c1,c2,c3,Bool.and_self,Bool.and_true,cond_true]
 try rfl
theorem pd3Floor_k (b:Bool) (n0:Nat) (t0:Bool) (a0 b0:List Nat):ev (evwF fuel) (n0+1) b 116 [.o (.agg [⟨.bool,t0⟩,⟨.nat,a0⟩,⟨.nat,b0⟩])] [.agg [.bool,.nat]]=bif capD a0 && capD b0 then some (decide ((pz (sg t0 (val a0)) (val b0) / (pd (val b0):Int))<0),limbsK (pz (sg t0 (val a0)) (val b0) / (pd (val b0):Int)).natAbs,()) else none:=by cases b <;> kernel_rfl
theorem pd3Floor_e {b:Bool} (n0:Nat) (t0:Bool) (a0 b0:List Nat) (c0:capD a0=true) (c1:capD b0=true):ev (evwF fuel) (n0+1) b 116 [.o (.agg [⟨.bool,t0⟩,⟨.nat,a0⟩,⟨.nat,b0⟩])] [.agg [.bool,.nat]]=some (decide ((pz (sg t0 (val a0)) (val b0) / (pd (val b0):Int))<0),limbsK (pz (sg t0 (val a0)) (val b0) / (pd (val b0):Int)).natAbs,()):=by
 rw [pd3Floor_k]
 simp only [c0,c1,Bool.and_self,Bool.and_true,cond_true]
 try rfl
theorem pd3Make_k (b:Bool) (n0:Nat) (t0:Bool) (a0:List Nat) (t1:Bool) (a1:List Nat):ev (evwF fuel) (n0+1) b 207 [.o (.agg [⟨.bool,t0⟩,⟨.nat,a0⟩]),.o (.agg [⟨.bool,t1⟩,⟨.nat,a1⟩])] [.agg [.bool,.nat,.nat],.c .bool]=bif capD a0 && capD a1 && decide (0<sg t1 (val a1)) then some (decide ((rn (sg t0 (val a0)) (sg t1 (val a1)).natAbs)<0),limbsK (rn (sg t0 (val a0)) (sg t1 (val a1)).natAbs).natAbs,limbsK (rd (sg t0 (val a0)) (sg t1 (val a1)).natAbs),true,()) else none:=by cases b <;> kernel_rfl
theorem pd3Make_e {b:Bool} (n0:Nat) (t0:Bool) (a0:List Nat) (t1:Bool) (a1:List Nat) (c0:capD a0=true) (c1:capD a1=true) (c2:(decide (0<sg t1 (val a1)))=true):ev (evwF fuel) (n0+1) b 207 [.o (.agg [⟨.bool,t0⟩,⟨.nat,a0⟩]),.o (.agg [⟨.bool,t1⟩,⟨.nat,a1⟩])] [.agg [.bool,.nat,.nat],.c .bool]=some (decide ((rn (sg t0 (val a0)) (sg t1 (val a1)).natAbs)<0),limbsK (rn (sg t0 (val a0)) (sg t1 (val a1)).natAbs).natAbs,limbsK (rd (sg t0 (val a0)) (sg t1 (val a1)).natAbs),true,()):=by
 rw [pd3Make_k]
 simp only [c0,c1,c2,Bool.and_self,Bool.and_true,cond_true]
 try rfl
end Go.Proofs.YtcggnmddcbhchaaGreatDoor
