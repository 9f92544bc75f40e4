import Derived.Test.YtcaahphghaddgaaGreatDoorEXI
import Derived.Test.YtcaahphghaddgaaGreatDoorEXP
import Derived.Lib.ItoaLen
import Derived.Test.YtcaahphghaddgaaGreatDoorEVT
import Derived.Test.YtcaahphghaddgaaGreatDoorEWa
import Derived.Test.YtcaahphghaddgaaGreatDoorRows
import Derived.ProofKit
import Derived.OpenShut
import Derived.ChangeArms
import Derived.ChangeSlices
import Derived.Deep.DeepHandedRow
import Derived.Deep.Slices
import Derived.Below
import Derived.Carry
import Derived.ChangeSame
import Derived.Lay
import Derived.MakeChecks
import Derived.Shelf.Vars
import Derived.Shelf.Strings.Builder1
import Derived.Test.YtcaahphghaddgaaGreatDoorEWz
import Derived.LoopTactic
import Derived.Handy
import Derived.Test.YtcaahphghaddgaaGreatDoorEKA
/- Texts merged: XJ XM Ya Zs Z1 Z2 Z3 Z8 Ud WUe WSh WSi Uh Qa Qb Qc KB KC KD KE. -/
set_option linter.unusedSimpArgs false
set_option linter.unusedVariables false
namespace Go.Proofs.YtcaahphghaddgaaGreatDoor
open Go.RowKit Lim
theorem eqv_self:∀t:VT,VT.eqv t t=some ⟨rfl⟩
 | .int k=>by simp [VT.eqv]
 | .bool=>rfl
 | .str=>rfl
 | .byte=>rfl
 | .nat=>rfl
 | .natz=>rfl
 | .sl k e=>by simp [VT.eqv,eqv_self e]
 | .slz k e=>by simp [VT.eqv,eqv_self e]
 | .unit=>rfl
 | .pair a b=>by simp [VT.eqv,eqv_self a,eqv_self b]
 | .raw=>rfl
theorem eqvL_self:∀ts:List VT,eqvL ts ts=some ⟨rfl⟩
 | []=>rfl
 | t :: ts=>by simp [eqvL,eqv_self t,eqvL_self ts]
theorem castL_self (ts:List VT) (x:denL ts):castL ts ts x=some x:=by simp [castL,eqvL_self]
def Ans.out {R:Type} (dp:Nat):Ans R→Bool
 | .ret _=>true
 | .cont d _ _=>!Nat.beq d dp
section
variable {R:Type} {dp:Nat} {ts:List VT} {step:denL ts→Option (Ans R)}
theorem loopA_go {n:Nat} {x y:denL ts} (h:step x=some (.cont dp ts y)):loopA dp ts step (n+1) x=loopA dp ts step n y:=by
 rw [loopA_succ,h]
 simp only [Option.bind_some,Nat.beq_refl,cond_true,castL_self]
theorem loopA_end {n:Nat} {x:denL ts} {a:Ans R} (h:step x=some a) (ha:a.out dp=true):loopA dp ts step (n+1) x=some a:=by
 rw [loopA_succ,h]
 cases a with
 | ret r=>rfl
 | cont d us y =>
  simp only [Ans.out,Bool.not_eq_true']at ha
  simp only [Option.bind_some,ha,cond_false]
end
theorem fuel_lt {k:Nat} (h:k<18446744073709551616):k<fuel:=h
theorem ix_get {α:Type} {l:List α} {k:Nat} {x:α} (h:l[k]? = some x):ix l (k:Int)=some x:=by
 unfold ix
 simp [h]
theorem ix_lt {α:Type} {l:List α} {k:Nat} (h:k<l.length):ix l (k:Int)=some l[k]:=ix_get (List.getElem?_eq_getElem h)
theorem w64 {z:Int} (h1:-9223372036854775808≤z) (h2:z≤9223372036854775807):IntKind.wrap .i64 z=z:=IntWalk.i64_in _ ⟨by omega,by omega⟩
theorem w64n {k:Nat} (h:k<9223372036854775807):IntKind.wrap .i64 ((k:Int)+1)=((k+1:Nat):Int):=by rw [w64 (by omega) (by omega)];omega
theorem dlt {k n:Nat} (h:k<n):decide ((k:Int)<(n:Nat))=true:=by simp;omega
theorem dge {k n:Nat} (h:n≤k):decide ((k:Int)<(n:Nat))=false:=by simp;omega
theorem sub_le {α:Type} {l:List α} {a b:Nat} (h1:a≤b) (h2:b≤l.length):sub l (a:Int) (b:Int)=some ((l.take b).drop a):=by
 unfold sub
 have:(decide ((0:Int)≤(a:Nat)) && (decide ((a:Int)≤(b:Nat)) && decide ((b:Int)≤(l.length:Nat))))=true:=by simp;omega
 rw [this]
 rfl
theorem bind_go {α β:Type} {o:Option α} {x:α} {f:α→Option β} (h:o=some x):o.bind f=f x:=by rw [h];rfl
end Go.Proofs.YtcaahphghaddgaaGreatDoor
set_option linter.unusedSimpArgs false
set_option linter.unusedVariables false
namespace Go.Proofs.YtcaahphghaddgaaGreatDoor
open Go.RowKit Lim
end Go.Proofs.YtcaahphghaddgaaGreatDoor
set_option linter.unusedSimpArgs false
set_option linter.unusedVariables false
namespace Go.Proofs.YtcaahphghaddgaaGreatDoor
open Go.RowKit Lim
structure Q3 where
 t:Bool
 a:List Nat
 b:List Nat
namespace Q3
def z (q:Q3):Int:=pz (sg q.t (val q.a)) (val q.b)
def d (q:Q3):Nat:=pd (val q.b)
structure OK (q:Q3):Prop where
 da:Dig q.a
 db:Dig q.b
 la:q.a.length≤1048577
 lb:q.b.length≤1048577
def eq (p q:Q3):Bool:=decide (p.z*(q.d:Int)=q.z*(p.d:Int))
def n (q:Q3):Int:=rn q.z q.d
def m (q:Q3):Nat:=rd q.z q.d
structure Sc (p q:Q3):Prop where
 ex:∃k:Nat,0<k∧q.z=p.z*(k:Int)∧q.d=p.d*k
end Q3
end Go.Proofs.YtcaahphghaddgaaGreatDoor
set_option linter.unusedSimpArgs false
set_option linter.unusedVariables false
namespace Go.Proofs.YtcaahphghaddgaaGreatDoor
open Go.RowKit Lim
theorem blueprint_Check_m {F:Nat} (n0:Nat) (x0:VT.den (.sl 9 (.pair (.int .i64) (.pair .str (.pair (.int .i64) (.pair (.int .i64) (.pair (.int .i64) (.pair (.int .i64) (.pair (.int .i64) (.pair (.int .i64) (.sl 1 (.sl 1 (.int .i64))))))))))))) (x1:Int):EF F (n0+1) 15 [.o (.c ⟨(.sl 9 (.pair (.int .i64) (.pair .str (.pair (.int .i64) (.pair (.int .i64) (.pair (.int .i64) (.pair (.int .i64) (.pair (.int .i64) (.pair (.int .i64) (.sl 1 (.sl 1 (.int .i64)))))))))))),x0⟩),.o (.c ⟨(.int .i64),x1⟩)] [.c (.int .i64)]=unwrapA (bif decide (18<(Nat.cast (R:=Int) (List.length x0))) then some (.ret (5,())) else loopA 0 [tI,tI] (fun x=>bif decide (x.1<(Nat.cast (R:=Int) (List.length x0))) then (ix x0 x.1).bind fun y=>(EF F n0 42 [vI y.1] [.c tB]).bind fun x_1=>bif !x_1.1 then some (.ret (23,())) else bif decide (0<x.1) then (ix x0 (IntKind.i64.wrap (x.1-1))).bind fun y_1=>bif decide (y.1≤y_1.1) then some (.ret (23,())) else some (.cont 0 [tI,tI] (IntKind.i64.wrap (x.1+1),x.2.1,())) else some (.cont 0 [tI,tI] (IntKind.i64.wrap (x.1+1),x.2.1,())) else loopA 0 [tI,tI] (fun x_1=>bif decide (x_1.1<(Nat.cast (R:=Int) (List.length x0))) then (ix x0 x_1.1).bind fun y=>(EF F n0 43 [.o (.agg [⟨tI,y.1⟩,⟨tS,y.2.1⟩,⟨tI,y.2.2.1⟩,⟨tI,y.2.2.2.1⟩,⟨tI,y.2.2.2.2.1⟩,⟨tI,y.2.2.2.2.2.1⟩,⟨tI,y.2.2.2.2.2.2.1⟩,⟨tI,y.2.2.2.2.2.2.2.1⟩,{ t:=VT.sl 1 (VT.sl 1 (tI)),x:=y.2.2.2.2.2.2.2.2 }]),vI x1] [.c (tI)]).bind fun x_2=>bif x_2.1 != 0 then some (.ret (x_2.1,())) else some (.cont 0 [tI,tI] (IntKind.i64.wrap (x_1.1+1),x_1.2.1,())) else some (.ret (0,()))) F (0,x.2.1,())) F (0,0,())):=by kernel_rfl
theorem blueprint_numbered_m {F:Nat} (n0:Nat) (x0:Int):EF F (n0+1) 42 [.o (.c ⟨(.int .i64),x0⟩)] [.c .bool]=unwrapA (bif decide (1≤x0) then some (.ret (decide (x0≤9999999),())) else some (.ret (false,()))):=by kernel_rfl
theorem blueprint_checkItem_m {F:Nat} (n0:Nat) (x0_0:Int) (x0_1:List UInt8) (x0_2 x0_3 x0_4 x0_5 x0_6 x0_7:Int) (x0_8:VT.den (.sl 1 (.sl 1 (.int .i64)))) (x1:Int):EF F (n0+1) 43 [.o (.agg [⟨(.int .i64),x0_0⟩,⟨.str,x0_1⟩,⟨(.int .i64),x0_2⟩,⟨(.int .i64),x0_3⟩,⟨(.int .i64),x0_4⟩,⟨(.int .i64),x0_5⟩,⟨(.int .i64),x0_6⟩,⟨(.int .i64),x0_7⟩,⟨(.sl 1 (.sl 1 (.int .i64))),x0_8⟩]),.o (.c ⟨(.int .i64),x1⟩)] [.c (.int .i64)]=unwrapA ((EF F n0 77 [vS x0_1] [.c tB]).bind fun x=>bif !x.1 then some (.ret (2,())) else bif decide (x0_2<0) then some (.ret (3,())) else bif decide (9999999<x0_2) then some (.ret (3,())) else bif decide (x0_3<0) then some (.ret (3,())) else bif decide (9999999<x0_3) then some (.ret (3,())) else bif decide (x0_4<0) then some (.ret (3,())) else bif decide (2000<x0_4) then some (.ret (3,())) else bif decide (x0_5<1) then some (.ret (3,())) else bif decide (2000<x0_5) then some (.ret (3,())) else bif decide (x0_6<1) then some (.ret (3,())) else bif decide (5<x0_6) then some (.ret (3,())) else bif decide (x0_7<0) then some (.ret (3,())) else bif decide (10<x0_7) then some (.ret (3,())) else (EF F n0 78 [.o (.agg [{ t:=VT.sl 1 (VT.sl 1 (tI)),x:=x0_8 }]),vI x1] [.c (tI)]).bind fun x=>some (.ret (x.1,()))):=by kernel_rfl
theorem model_Valid_m {F:Nat} (n0:Nat) (x0:VT.den (.sl 1 (.sl 1 (.int .i64)))) (x1:Int):EF F (n0+1) 78 [.o (.agg [⟨(.sl 1 (.sl 1 (.int .i64))),x0⟩]),.o (.c ⟨(.int .i64),x1⟩)] [.c (.int .i64)]=unwrapA (bif decide (x1<1) then some (.ret (1,())) else bif decide (21<x1) then some (.ret (1,())) else bif (Nat.cast (R:=Int) (List.length x0)) != x1 then some (.ret (1,())) else (ix x0 0).bind fun y=>bif decide ((Nat.cast (R:=Int) y.length)<2) then some (.ret (3,())) else bif decide (6<(Nat.cast (R:=Int) y.length)) then some (.ret (3,())) else loopA 0 [tI,tI] (fun x=>bif decide (x.1<(Nat.cast (R:=Int) (List.length x0))) then (ix x0 x.1).bind fun y_1=>bif (Nat.cast (R:=Int) y_1.length) != (Nat.cast (R:=Int) y.length) then some (.ret (1,())) else loopA 1 [tI,tI,tI] (fun x_1=>bif decide (x_1.1<(Nat.cast (R:=Int) y_1.length)) then (ix y_1 x_1.1).bind fun y=>bif decide (y<1) then some (.ret (3,())) else bif decide (1000<y) then some (.ret (3,())) else some (.cont 1 [tI,tI,tI] (IntKind.i64.wrap (x_1.1+1),IntKind.i64.wrap (x_1.2.1+y),x_1.2.2.1,())) else bif x_1.2.1 != 1000 then some (.ret (19,())) else some (.cont 0 [tI,tI] (IntKind.i64.wrap (x.1+1),x_1.2.2.1,()))) F (0,0,x.2.1,()) else some (.ret (0,()))) F (0,0,())):=by kernel_rfl
theorem content_Valid_m {F:Nat} (n0:Nat) (x0:List UInt8):EF F (n0+1) 77 [.o (.c ⟨.str,x0⟩)] [.c .bool]=unwrapA (bif decide (24<(Nat.cast (R:=Int) (List.length x0))) then some (.ret (false,())) else (EF F n0 106 [vS x0] [.agg [tS,tS,tS,tS,tS],.c (tI),.c tB]).bind fun x=>bif !x.2.2.2.2.2.2.1 then some (.ret (false,())) else (sub [x.1,x.2.1,x.2.2.1,x.2.2.2.1,x.2.2.2.2.1] 0 x.2.2.2.2.2.1).bind fun m=>loopA 0 [tI,tB] (fun x=>bif decide (x.1<(Nat.cast (R:=Int) m.length)) then (ix m x.1).bind fun y=>(EF F n0 107 [vS y] [.c tB]).bind fun x_1=>bif !x_1.1 then some (.ret (false,())) else some (.cont 0 [tI,tB] (IntKind.i64.wrap (x.1+1),x.2.1,())) else some (.ret (true,()))) F (0,false,())):=by kernel_rfl
theorem content_segments_m {F:Nat} (n0:Nat) (x0:List UInt8):EF F (n0+1) 106 [.o (.c ⟨.str,x0⟩)] [.agg [.str,.str,.str,.str,.str],.c (.int .i64),.c .bool]=unwrapA ((EF F n0 55 [vS x0,vS [46]] [.c tS,.c tS,.c tB]).bind fun x=>bif !x.2.2.1 then some (.ret (x.1,[],[],[],[],IntKind.i64.wrap (0+1),true,())) else (EF F n0 55 [vS x.2.1,vS [46]] [.c tS,.c tS,.c tB]).bind fun x_1=>bif !x_1.2.2.1 then some (.ret (x.1,x_1.1,[],[],[],IntKind.i64.wrap (IntKind.i64.wrap (0+1)+1),true,())) else (EF F n0 55 [vS x_1.2.1,vS [46]] [.c tS,.c tS,.c tB]).bind fun x_2=>bif !x_2.2.2.1 then some (.ret (x.1,x_1.1,x_2.1,[],[],IntKind.i64.wrap (IntKind.i64.wrap (IntKind.i64.wrap (0+1)+1)+1),true,())) else (EF F n0 55 [vS x_2.2.1,vS [46]] [.c tS,.c tS,.c tB]).bind fun x_3=>bif !x_3.2.2.1 then some (.ret (x.1,x_1.1,x_2.1,x_3.1,[],IntKind.i64.wrap (IntKind.i64.wrap (IntKind.i64.wrap (IntKind.i64.wrap (0+1)+1)+1)+1),true,())) else (EF F n0 55 [vS x_3.2.1,vS [46]] [.c tS,.c tS,.c tB]).bind fun x_4=>bif !x_4.2.2.1 then some (.ret (x.1,x_1.1,x_2.1,x_3.1,x_4.1,IntKind.i64.wrap (IntKind.i64.wrap (IntKind.i64.wrap (IntKind.i64.wrap (IntKind.i64.wrap (0+1)+1)+1)+1)+1),true,())) else some (.ret (x.1,x_1.1,x_2.1,x_3.1,x_4.1,0,false,()))):=by kernel_rfl
theorem content_validSegment_m {F:Nat} (n0:Nat) (x0:List UInt8):EF F (n0+1) 107 [.o (.c ⟨.str,x0⟩)] [.c .bool]=unwrapA (loopA 0 [tI,tB] (fun x=>bif decide (x.1<(Nat.cast (R:=Int) (List.length x0))) then (ix x0 x.1).bind fun b=>bif decide ((Nat.cast (R:=Int) b.toNat)<65) then (ix x0 x.1).bind fun b=>bif decide ((Nat.cast (R:=Int) b.toNat)<48) then some (.ret (false,())) else (ix x0 x.1).bind fun b=>bif decide (57<(Nat.cast (R:=Int) b.toNat)) then some (.ret (false,())) else some (.cont 0 [tI,tB] (IntKind.i64.wrap (x.1+1),x.2.1,())) else (ix x0 x.1).bind fun b=>bif decide (90<(Nat.cast (R:=Int) b.toNat)) then (ix x0 x.1).bind fun b=>bif decide ((Nat.cast (R:=Int) b.toNat)<48) then some (.ret (false,())) else (ix x0 x.1).bind fun b=>bif decide (57<(Nat.cast (R:=Int) b.toNat)) then some (.ret (false,())) else some (.cont 0 [tI,tB] (IntKind.i64.wrap (x.1+1),x.2.1,())) else some (.cont 0 [tI,tB] (IntKind.i64.wrap (x.1+1),x.2.1,())) else bif decide (1≤(Nat.cast (R:=Int) (List.length x0))) then some (.ret (decide ((Nat.cast (R:=Int) (List.length x0))≤8),())) else some (.ret (false,()))) F (0,false,())):=by kernel_rfl
end Go.Proofs.YtcaahphghaddgaaGreatDoor
set_option linter.unusedSimpArgs false
set_option linter.unusedVariables false
namespace Go.Proofs.YtcaahphghaddgaaGreatDoor
open Go.RowKit Lim
theorem loopA_list {R:Type} {dp:Nat} {ts:List VT} {step:denL ts→Option (Ans R)} {α β:Type} {n:Nat} (l:List α) (S:Nat→β→denL ts) (f:List α→β→Ans R) (I:Nat→β→Prop)
  (h1:∀k (hk:k<l.length) b,I k b→(step (S k b)=some (f (l[k] :: l.drop (k+1)) b)∧(f (l[k] :: l.drop (k+1)) b).out dp=true)∨∃b',step (S k b)=some (.cont dp ts (S (k+1) b'))∧I (k+1) b'∧f (l[k] :: l.drop (k+1)) b=f (l.drop (k+1)) b')
  (h2:∀b,I l.length b→step (S l.length b)=some (f [] b)∧(f [] b).out dp=true) (b0:β) (h0:I 0 b0) (hn:l.length<n):loopA dp ts step n (S 0 b0)=some (f l b0):=by
 have key:∀j k b,k+j=l.length→I k b→∀m,j<m→loopA dp ts step m (S k b)=some (f (l.drop k) b):=by
  intro j
  induction j with
  | zero =>
   intro k b hk hI m hm
   obtain ⟨m,rfl⟩:=Nat.exists_eq_succ_of_ne_zero (show m≠0 by omega)
   obtain rfl:k=l.length:=by omega
   rw [List.drop_length]
   exact loopA_end (h2 b hI).1 (h2 b hI).2
  | succ j ih =>
   intro k b hk hI m hm
   obtain ⟨m,rfl⟩:=Nat.exists_eq_succ_of_ne_zero (show m≠0 by omega)
   have hlt:k<l.length:=by omega
   rw [List.drop_eq_getElem_cons hlt]
   rcases h1 k hlt b hI with ⟨h3,h4⟩|⟨b',h3,h4,h5⟩
   ·exact loopA_end h3 h4
   ·rw [loopA_go h3,h5]
    exact ih (k+1) b' (by omega) h4 m (by omega)
 exact key l.length 0 b0 (by omega) h0 n hn
def okByte (b:UInt8):Bool:=!((decide ((b.toNat:Int)<65) || decide ((90:Int)<b.toNat)) && (decide ((b.toNat:Int)<48) || decide ((57:Int)<b.toNat)))
def segB (s:List UInt8):Bool:=s.all okByte && (decide ((1:Int)≤(s.length:Nat)) && decide (((s.length:Nat):Int)≤8))
def segL:Nat→List UInt8→List (List UInt8) × Bool
 | 0,_=>([],false)
 | n+1,s=>if (Lib.cut s [46]).2.2 then ((Lib.cut s [46]).1 :: (segL n (Lib.cut s [46]).2.1).1,(segL n (Lib.cut s [46]).2.1).2) else ([(Lib.cut s [46]).1],true)
def contentB (s:List UInt8):Bool:=!(decide ((24:Int)<(s.length:Nat))) && ((segL 5 s).2 && (segL 5 s).1.all segB)
theorem ok_step {α:Type} (b:UInt8) (c r:α):(bif decide ((b.toNat:Int)<65) then bif decide ((b.toNat:Int)<48) then r else bif decide (57<(b.toNat:Int)) then r else c else bif decide (90<(b.toNat:Int)) then bif decide ((b.toNat:Int)<48) then r else bif decide (57<(b.toNat:Int)) then r else c else c)=bif okByte b then c else r:=by
 unfold okByte
 cases decide ((b.toNat:Int)<65) <;> cases decide ((b.toNat:Int)<48) <;> cases decide (57<(b.toNat:Int)) <;> cases decide (90<(b.toNat:Int)) <;> rfl
theorem cut_any (s p:List UInt8):(Lib.cut s p).1.length≤s.length∧(Lib.cut s p).2.1.length≤s.length:=by
 unfold Lib.cut
 split
 ·refine ⟨?_,?_⟩
  ·show (s.take _).length≤_
   rw [List.length_take];omega
  ·show (s.drop _).length≤_
   rw [List.length_drop];omega
 ·exact ⟨Nat.le_refl _,Nat.zero_le _⟩
theorem cutK (n0:Nat) (s p:List UInt8):EF fuel (n0+1) 55 [vS s,vS p] [.c .str,.c .str,.c .bool]=bif capS s then some ((Lib.cut s p).1,(Lib.cut s p).2.1,(Lib.cut s p).2.2,()) else none:=by kernel_rfl
section
variable (n:Nat)
theorem cut_e (s:List UInt8) (hs:s.length≤24):EF fuel (n+1) 55 [vS s,vS [46]] [.c .str,.c .str,.c .bool]=some ((Lib.cut s [46]).1,(Lib.cut s [46]).2.1,(Lib.cut s [46]).2.2,()):=by
 rw [cutK,show capS s=true from Nat.ble_eq_true_of_le (by omega)]
 rfl
theorem vseg_e (s:List UInt8) (hs:s.length≤4294967296):EF fuel (n+1) 107 [vS s] gB=some (segB s,()):=by
 rw [content_validSegment_m n s]
 refine congrArg (a₂:=some (Ans.ret (segB s,()))) unwrapA ?_
 have e:segB s=(s.all okByte && (decide ((1:Int)≤(s.length:Nat)) && decide (((s.length:Nat):Int)≤8))):=rfl
 rw [e]
 refine loopA_list (ts:=[tI,tB]) s (fun k (_:Unit)=>((k:Int),false,())) (fun l _=>.ret ((l.all okByte && (decide ((1:Int)≤(s.length:Nat)) && decide (((s.length:Nat):Int)≤8))),())) (fun _ _=>True) (fun k hk _ _=>?_) (fun _ _=>?_) () trivial (fuel_lt (by omega))
 ·dsimp only
  rw [dlt hk,cond_true]
  rw [ix_lt hk]
  simp only [Option.bind_some]
  rw [ok_step,List.all_cons]
  cases okByte s[k]
  ·exact .inl ⟨rfl,rfl⟩
  ·exact .inr ⟨(),by rw [cond_true,w64n (by omega)],trivial,by rw [Bool.true_and]⟩
 ·dsimp only
  rw [dge (Nat.le_refl _),cond_false]
  cases decide ((1:Int)≤(s.length:Nat)) <;> exact ⟨rfl,rfl⟩
theorem w1:IntKind.i64.wrap (0+1)=1:=by decide +kernel
theorem segs_e (s:List UInt8) (hs:s.length≤24):∃(a b c d e:List UInt8) (k:Nat),EF fuel (n+2) 106 [vS s] [.agg [.str,.str,.str,.str,.str],.c (.int .i64),.c .bool]=some (a,b,c,d,e,(k:Int),(segL 5 s).2,())∧k≤5∧((segL 5 s).2=true→[a,b,c,d,e].take k=(segL 5 s).1)∧∀x∈[a,b,c,d,e],x.length≤24:=by
 rw [content_segments_m (n+1) s]
 have e2:IntKind.i64.wrap (IntKind.i64.wrap (0+1)+1)=2:=by decide +kernel
 have e3:IntKind.i64.wrap (IntKind.i64.wrap (IntKind.i64.wrap (0+1)+1)+1)=3:=by decide +kernel
 have e4:IntKind.i64.wrap (IntKind.i64.wrap (IntKind.i64.wrap (IntKind.i64.wrap (0+1)+1)+1)+1)=4:=by decide +kernel
 have e5:IntKind.i64.wrap (IntKind.i64.wrap (IntKind.i64.wrap (IntKind.i64.wrap (IntKind.i64.wrap (0+1)+1)+1)+1)+1)=5:=by decide +kernel
 have z:([]:List UInt8).length≤24:=Nat.zero_le _
 have five:∀{a b c d e:List UInt8},a.length≤24→b.length≤24→c.length≤24→d.length≤24→e.length≤24→∀x∈[a,b,c,d,e],x.length≤24:=by
  intro a b c d e h1 h2 h3 h4 h5 x hx
  simp only [List.mem_cons,List.not_mem_nil,or_false]at hx
  rcases hx with rfl|rfl|rfl|rfl|rfl <;> assumption
 have cs:∀t:List UInt8,t.length≤24→∃(a b:List UInt8) (o:Bool),Lib.cut t [46]=(a,b,o)∧a.length≤24∧b.length≤24∧EF fuel (n+1) 55 [vS t,vS [46]] [.c .str,.c .str,.c .bool]=some (a,b,o,()):=fun t ht=>⟨_,_,_,rfl,Nat.le_trans (cut_any t [46]).1 ht,Nat.le_trans (cut_any t [46]).2 ht,cut_e n t ht⟩
 obtain ⟨a0,b0,o0,k0,la0,lb0,c0⟩:=cs s hs
 obtain ⟨a1,b1,o1,k1,la1,lb1,c1⟩:=cs b0 lb0
 obtain ⟨a2,b2,o2,k2,la2,lb2,c2⟩:=cs b1 lb1
 obtain ⟨a3,b3,o3,k3,la3,lb3,c3⟩:=cs b2 lb2
 obtain ⟨a4,b4,o4,k4,la4,lb4,c4⟩:=cs b3 lb3
 have g:∀(m:Nat) {t a b:List UInt8},Lib.cut t [46]=(a,b,true)→segL (m+1) t=(a :: (segL m b).1,(segL m b).2):=fun m t a b h=>by rw [segL,h];rfl
 have q:∀(m:Nat) {t a b:List UInt8},Lib.cut t [46]=(a,b,false)→segL (m+1) t=([a],true):=fun m t a b h=>by rw [segL,h];rfl
 rw [bind_go c0,e5,e4,e3,e2,w1]
 cases o0
 ·rw [q 4 k0]
  exact ⟨a0,[],[],[],[],1,rfl,by omega,fun _=>rfl,five la0 z z z z⟩
 rw [Bool.not_true,cond_false,bind_go c1,g 4 k0]
 cases o1
 ·rw [q 3 k1]
  exact ⟨a0,a1,[],[],[],2,rfl,by omega,fun _=>rfl,five la0 la1 z z z⟩
 rw [Bool.not_true,cond_false,bind_go c2,g 3 k1]
 cases o2
 ·rw [q 2 k2]
  exact ⟨a0,a1,a2,[],[],3,rfl,by omega,fun _=>rfl,five la0 la1 la2 z z⟩
 rw [Bool.not_true,cond_false,bind_go c3,g 2 k2]
 cases o3
 ·rw [q 1 k3]
  exact ⟨a0,a1,a2,a3,[],4,rfl,by omega,fun _=>rfl,five la0 la1 la2 la3 z⟩
 rw [Bool.not_true,cond_false,bind_go c4,g 1 k3]
 cases o4
 ·rw [q 0 k4]
  exact ⟨a0,a1,a2,a3,a4,5,rfl,by omega,fun _=>rfl,five la0 la1 la2 la3 la4⟩
 ·rw [g 0 k4]
  exact ⟨a0,a1,a2,a3,a4,0,rfl,by omega,fun h=>absurd (show false=true from h) (by decide),five la0 la1 la2 la3 la4⟩
theorem content_e (s:List UInt8):EF fuel (n+3) 77 [vS s] gB=some (contentB s,()):=by
 rw [content_Valid_m (n+2) s]
 unfold contentB
 by_cases hs:24<s.length
 ·rw [decide_eq_true (show 24<(s.length:Int)by omega),cond_true]
  rfl
 rw [decide_eq_false (show ¬24<(s.length:Int)by omega),cond_false]
 obtain ⟨a,b,c,d,e,k,h,hk,hm,hl⟩:=segs_e n s (by omega)
 rw [bind_go h]
 dsimp only
 cases ho:(segL 5 s).2
 ·rfl
 have hm:=hm ho
 have hsub:sub [a,b,c,d,e] 0 (k:Int)=some ([a,b,c,d,e].take k):=sub_le (l:=[a,b,c,d,e]) (a:=0) (b:=k) (Nat.zero_le _) hk
 have hm2:∀x∈[a,b,c,d,e].take k,x.length≤24:=fun x hx=>hl x (List.mem_of_mem_take hx)
 have hml:([a,b,c,d,e].take k).length≤5:=by rw [List.length_take];simp only [List.length_cons,List.length_nil];omega
 rw [hm]at hsub hm2 hml
 rw [Bool.not_true,cond_false,bind_go hsub]
 generalize (segL 5 s).1=m at *
 refine congrArg (a₂:=some (Ans.ret (m.all segB,()))) unwrapA ?_
 refine loopA_list (ts:=[tI,tB]) m (fun k (_:Unit)=>((k:Int),false,())) (fun l _=>.ret (l.all segB,())) (fun _ _=>True) (fun k hk _ _=>?_) (fun _ _=>?_) () trivial (fuel_lt (by omega))
 ·dsimp only
  have hv:=vseg_e (n+1) m[k] (by have:=hm2 _ (List.getElem_mem hk);omega)
  rw [dlt hk,cond_true,bind_go (ix_lt hk),bind_go hv,List.all_cons]
  dsimp only
  cases segB m[k]
  ·exact .inl ⟨rfl,rfl⟩
  ·exact .inr ⟨(),by rw [Bool.not_true,cond_false,w64n (by omega)],trivial,by rw [Bool.true_and]⟩
 ·dsimp only
  rw [dge (Nat.le_refl _),cond_false]
  exact ⟨rfl,rfl⟩
end
end Go.Proofs.YtcaahphghaddgaaGreatDoor
set_option linter.unusedSimpArgs false
set_option linter.unusedVariables false
namespace Go.Proofs.YtcaahphghaddgaaGreatDoor
open Go.RowKit Lim
def rowE:List Int→Int→Int
 | [],s=>if s=1000 then 0 else 19
 | x :: r,s=>if x<1 then 3 else if 1000<x then 3 else rowE r (s+x)
def rowsE (c:Nat):List (List Int)→Int
 | []=>0
 | r :: l=>if r.length≠c then 1 else if rowE r 0≠0 then rowE r 0 else rowsE c l
def modelE (rows:List (List Int)) (k:Int):Int:=if k<1 then 1 else if 21<k then 1 else if (rows.length:Int)≠k then 1 else match rows with
 | []=>1
 | r :: _=>if r.length<2 then 3 else if 6<r.length then 3 else rowsE r.length rows
abbrev vM (rows:List (List Int)):V:=.o (.agg [⟨.sl 1 (.sl 1 (.int .i64)),rows⟩])
def rowR (i:Nat) (l:List Int) (s:Int):Ans (denL gI.ts):=if rowE l s=0 then .cont 0 [tI,tI] (((i+1:Nat):Int),0,()) else .ret (rowE l s,())
theorem rowR_ret {i:Nat} {l:List Int} {s e:Int} (h:rowE l s=e) (he:e≠0):rowR i l s=.ret (e,()):=by unfold rowR;rw [h,if_neg he]
structure GridOK (p w:List Int):Prop where
 pos:1≤p.length
 most:p.length≤21
 len:w.length=p.length
 pts:∀k (h:k<p.length),-1000≤p[k]∧p[k]≤1000
 wts:∀k (h:k<w.length),1≤w[k]∧w[k]≤1000
structure ModelOK (rows:List (List Int)) (k:Int):Prop where
 lo:1≤k
 hi:k≤21
 len:(rows.length:Int)=k
 cats:2≤(rows.headD []).length∧(rows.headD []).length≤6
 row:∀i (h:i<rows.length),rows[i].length=(rows.headD []).length
 val:∀i (h:i<rows.length) j (h2:j<rows[i].length),1≤rows[i][j]∧rows[i][j]≤1000
section
variable (n:Nat)
theorem model_e (rows:List (List Int)) (k:Int):EF fuel (n+1) 78 [vM rows,vI k] gI=some (modelE rows k,()):=by
 rw [model_Valid_m n rows k]
 unfold modelE
 by_cases h1:k<1
 ·rw [decide_eq_true h1,cond_true,if_pos h1];rfl
 by_cases h2:21<k
 ·rw [decide_eq_false h1,cond_false,decide_eq_true h2,cond_true,if_neg h1,if_pos h2];rfl
 rw [decide_eq_false h1,cond_false,decide_eq_false h2,cond_false,if_neg h1,if_neg h2]
 by_cases h3:(rows.length:Int)=k
 case neg =>
  rw [show ((rows.length:Int) != k)=true from by simpa using h3,if_pos h3];rfl
 rw [show ((rows.length:Int) != k)=false from by simpa using h3,if_neg (fun h=>h h3),cond_false]
 cases hr:rows with
 | nil=>rw [hr]at h3;simp at h3;omega
 | cons r0 l0 =>
 rw [show ix (r0 :: l0) 0=some r0 from rfl]
 simp only [Option.bind_some]
 by_cases h4:r0.length<2
 ·rw [decide_eq_true (show (r0.length:Int)<2 by omega),cond_true,if_pos h4];rfl
 by_cases h5:6<r0.length
 ·rw [decide_eq_false (show ¬(r0.length:Int)<2 by omega),cond_false,decide_eq_true (show (6:Int)<(r0.length:Int)by omega),cond_true,if_neg h4,if_pos h5];rfl
 rw [decide_eq_false (show ¬(r0.length:Int)<2 by omega),cond_false,decide_eq_false (show ¬(6:Int)<(r0.length:Int)by omega),cond_false,if_neg h4,if_neg h5,←hr]
 have hlen:rows.length≤21:=by omega
 clear hr h3
 generalize r0.length=c at *
 refine congrArg (a₂:=some (Ans.ret (rowsE c rows,()))) unwrapA ?_
 refine loopA_list (ts:=[tI,tI]) rows (fun k (_:Unit)=>((k:Int),0,())) (fun l _=>.ret (rowsE c l,())) (fun _ _=>True) (fun i hi _ _=>?_) (fun _ _=>?_) () trivial (fuel_lt (by omega))
 ·dsimp only
  rw [dlt hi,cond_true,bind_go (ix_lt hi)]
  generalize rows[i]=r
  rw [rowsE]
  by_cases h6:r.length=c
  case neg =>
   rw [show ((r.length:Int) != (c:Int))=true from by simpa using fun h=>h6 (by omega),cond_true,if_pos h6]
   exact .inl ⟨rfl,rfl⟩
  rw [show ((r.length:Int) != (c:Int))=false from by rw [h6];simp,cond_false,if_neg (fun h=>h h6)]
  suffices hin:∀{o:Option (Ans (denL gI.ts))},o=some (rowR i r 0)→(o=some (.ret ((if rowE r 0≠0 then rowE r 0 else rowsE c (rows.drop (i+1))),()))∧(Ans.ret (((if rowE r 0≠0 then rowE r 0 else rowsE c (rows.drop (i+1))),()):denL gI.ts)).out 0=true)∨∃b':Unit,o=some (.cont 0 [tI,tI] (((i+1:Nat):Int),0,()))∧True∧Ans.ret (((if rowE r 0≠0 then rowE r 0 else rowsE c (rows.drop (i+1))),()):denL gI.ts)=.ret (rowsE c (rows.drop (i+1)),())from
   hin (loopA_list (ts:=[tI,tI,tI]) r (fun j (s:Int)=>((j:Int),s,0,())) (rowR i) (fun j s=>0≤s∧s≤1000*(j:Int)) (fun j hj s hs=>by
    dsimp only
    rw [dlt hj,cond_true,bind_go (ix_lt hj)]
    generalize r[j]=x
    by_cases c1:x<1
    ·rw [decide_eq_true c1,cond_true,rowR_ret (e:=3) (by rw [rowE,if_pos c1]) (by omega)]
     exact .inl ⟨rfl,rfl⟩
    by_cases c2:1000<x
    ·rw [decide_eq_false c1,cond_false,decide_eq_true c2,cond_true,rowR_ret (e:=3) (by rw [rowE,if_neg c1,if_pos c2]) (by omega)]
     exact .inl ⟨rfl,rfl⟩
    rw [decide_eq_false c1,cond_false,decide_eq_false c2,cond_false,w64n (by omega),w64 (by omega) (by omega)]
    refine .inr ⟨s+x,rfl,by omega,?_⟩
    unfold rowR
    rw [rowE,if_neg c1,if_neg c2]) (fun s hs=>by
    dsimp only
    rw [dge (Nat.le_refl _),cond_false]
    by_cases c1:s=1000
    ·rw [show (s != 1000)=false by simpa using c1,cond_false,w64n (by omega)]
     have e:rowR i [] s=.cont 0 [tI,tI] (((i+1:Nat):Int),0,()):=by unfold rowR;rw [rowE,if_pos c1];rfl
     rw [e]
     exact ⟨rfl,rfl⟩
    ·rw [show (s != 1000)=true by simpa using c1,cond_true,rowR_ret (e:=19) (by rw [rowE,if_neg c1]) (by omega)]
     exact ⟨rfl,rfl⟩) 0 (by omega) (fuel_lt (by omega)))
  rintro o rfl
  by_cases h7:rowE r 0=0
  ·rw [if_neg (fun h=>h h7)]
   exact .inr ⟨(),by unfold rowR;rw [if_pos h7],trivial,rfl⟩
  ·rw [if_pos h7,rowR_ret rfl h7]
   exact .inl ⟨rfl,rfl⟩
 ·dsimp only
  rw [dge (Nat.le_refl _),cond_false]
  exact ⟨rfl,rfl⟩
end
end Go.Proofs.YtcaahphghaddgaaGreatDoor
set_option linter.unusedSimpArgs false
set_option linter.unusedVariables false
namespace Go.Proofs.YtcaahphghaddgaaGreatDoor
open Go.RowKit Lim
abbrev tPI:VT:=.pair (.int .i64) (.pair .str (.pair (.int .i64) (.pair (.int .i64) (.pair (.int .i64) (.pair (.int .i64) (.pair (.int .i64) (.pair (.int .i64) (.sl 1 (.sl 1 (.int .i64))))))))))
abbrev PI:=Int × List UInt8 × Int × Int × Int × Int × Int × Int × List (List Int)
abbrev vP (pool:List PI):V:=.o (.c ⟨.sl 9 tPI,pool⟩)
def cats (rows:List (List Int)):Int:=((rows.headD []).length:Int)
def numB (n:Int):Bool:=decide (1≤n) && decide (n≤9999999)
def itE (y:PI) (k:Int):Int:=bif !contentB y.2.1 then 2 else bif decide (y.2.2.1<0) then 3 else bif decide (9999999<y.2.2.1) then 3 else bif decide (y.2.2.2.1<0) then 3 else bif decide (9999999<y.2.2.2.1) then 3 else bif decide (y.2.2.2.2.1<0) then 3 else bif decide (2000<y.2.2.2.2.1) then 3 else bif decide (y.2.2.2.2.2.1<1) then 3 else bif decide (2000<y.2.2.2.2.2.1) then 3 else bif decide (y.2.2.2.2.2.2.1<1) then 3 else bif decide (5<y.2.2.2.2.2.2.1) then 3 else bif decide (y.2.2.2.2.2.2.2.1<0) then 3 else bif decide (10<y.2.2.2.2.2.2.2.1) then 3 else modelE y.2.2.2.2.2.2.2.2 k
def idsE:List PI→Int→Bool
 | [],_=>true
 | y :: r,a=>if numB y.1=false then false else if y.1≤a then false else idsE r y.1
def itsE (k:Int):List PI→Int
 | []=>0
 | y :: r=>if itE y k≠0 then itE y k else itsE k r
def poolE (pool:List PI) (k:Int):Int:=if 18<pool.length then 5 else if idsE pool 0=false then 23 else itsE k pool
section
variable (n:Nat)
theorem numB_e (x:Int):EF fuel (n+1) 42 [vI x] [.c .bool]=some (numB x,()):=by
 rw [blueprint_numbered_m n x]
 unfold numB
 cases decide (1≤x) <;> rfl
theorem item_e (y:PI) (k:Int):EF fuel (n+4) 43 [.o (.agg [⟨.int .i64,y.1⟩,⟨.str,y.2.1⟩,⟨.int .i64,y.2.2.1⟩,⟨.int .i64,y.2.2.2.1⟩,⟨.int .i64,y.2.2.2.2.1⟩,⟨.int .i64,y.2.2.2.2.2.1⟩,⟨.int .i64,y.2.2.2.2.2.2.1⟩,⟨.int .i64,y.2.2.2.2.2.2.2.1⟩,⟨.sl 1 (.sl 1 (.int .i64)),y.2.2.2.2.2.2.2.2⟩]),vI k] [.c (.int .i64)]=some (itE y k,()):=by
 rw [blueprint_checkItem_m (n+3) y.1 y.2.1 y.2.2.1 y.2.2.2.1 y.2.2.2.2.1 y.2.2.2.2.2.1 y.2.2.2.2.2.2.1 y.2.2.2.2.2.2.2.1 y.2.2.2.2.2.2.2.2 k,bind_go (content_e n y.2.1),bind_go (model_e (n+2) y.2.2.2.2.2.2.2.2 k)]
 unfold itE
 dsimp only
 generalize modelE y.2.2.2.2.2.2.2.2 k=e
 cases contentB y.2.1
 case false=>rfl
 cases decide (y.2.2.1<0)
 case true=>rfl
 cases decide (9999999<y.2.2.1)
 case true=>rfl
 cases decide (y.2.2.2.1<0)
 case true=>rfl
 cases decide (9999999<y.2.2.2.1)
 case true=>rfl
 cases decide (y.2.2.2.2.1<0)
 case true=>rfl
 cases decide (2000<y.2.2.2.2.1)
 case true=>rfl
 cases decide (y.2.2.2.2.2.1<1)
 case true=>rfl
 cases decide (2000<y.2.2.2.2.2.1)
 case true=>rfl
 cases decide (y.2.2.2.2.2.2.1<1)
 case true=>rfl
 cases decide (5<y.2.2.2.2.2.2.1)
 case true=>rfl
 cases decide (y.2.2.2.2.2.2.2.1<0)
 case true=>rfl
 cases decide (10<y.2.2.2.2.2.2.2.1) <;> rfl
theorem check_pool (pool:List PI) (k:Int):EF fuel (n+5) 15 [vP pool,vI k] [.c (.int .i64)]=some (poolE pool k,()):=by
 rw [blueprint_Check_m (n+4) pool k]
 unfold poolE
 by_cases h1:18<pool.length
 ·rw [decide_eq_true (show (18:Int)<(pool.length:Int)by omega),cond_true,if_pos h1];rfl
 rw [decide_eq_false (show ¬(18:Int)<(pool.length:Int)by omega),cond_false,if_neg h1]
 refine congrArg (a₂:=some (Ans.ret ((if idsE pool 0=false then 23 else itsE k pool),()))) unwrapA ?_
 refine loopA_list (ts:=[tI,tI]) pool (fun i (_:Int)=>((i:Int),0,())) (fun l b=>.ret ((if idsE l b=false then 23 else itsE k pool),())) (fun i b=>(i=0∧b=0)∨(0<i∧∃y,pool[i-1]? = some y∧b=y.1)) (fun i hi b hb=>?_) (fun b hb=>?_) 0 (.inl ⟨rfl,rfl⟩) (fuel_lt (by omega))
 ·dsimp only
  rw [dlt hi,cond_true,bind_go (ix_lt hi),bind_go (numB_e (n+3) pool[i].1),idsE]
  dsimp only
  cases hn:numB pool[i].1
  ·exact .inl ⟨rfl,rfl⟩
  have hpos:1≤pool[i].1:=by
   unfold numB at hn
   rw [Bool.and_eq_true]at hn
   exact of_decide_eq_true hn.1
  have hnext:IntKind.i64.wrap ((i:Int)+1)=((i+1:Nat):Int):=w64n (by omega)
  have hI:(i+1=0∧pool[i].1=0)∨(0<i+1∧∃y,pool[i+1-1]? = some y∧pool[i].1=y.1):=.inr ⟨by omega,pool[i],by rw [Nat.add_sub_cancel,List.getElem?_eq_getElem hi],rfl⟩
  rw [Bool.not_true,cond_false,if_neg (show ¬(true=false)by decide),hnext]
  rcases hb with ⟨rfl,rfl⟩|⟨h0,y,hy,rfl⟩
  ·rw [decide_eq_false (show ¬(0:Int)<((0:Nat):Int)by omega),cond_false,if_neg (show ¬pool[0].1≤0 by omega)]
   exact .inr ⟨_,rfl,hI,rfl⟩
  ·have e1:IntKind.i64.wrap ((i:Int)-1)=((i-1:Nat):Int):=by rw [w64 (by omega) (by omega)];omega
   rw [decide_eq_true (show (0:Int)<(i:Int)by omega),cond_true,e1,bind_go (ix_get hy)]
   by_cases c1:pool[i].1≤y.1
   ·rw [decide_eq_true c1,cond_true,if_pos c1]
    exact .inl ⟨rfl,rfl⟩
   ·rw [decide_eq_false c1,cond_false,if_neg c1]
    exact .inr ⟨_,rfl,hI,rfl⟩
 ·dsimp only
  rw [dge (Nat.le_refl _),cond_false,idsE,if_neg (show ¬(true=false)by decide)]
  refine ⟨?_,rfl⟩
  refine loopA_list (ts:=[tI,tI]) pool (fun i (_:Unit)=>((i:Int),0,())) (fun l _=>.ret (itsE k l,())) (fun _ _=>True) (fun i hi _ _=>?_) (fun _ _=>?_) () trivial (fuel_lt (by omega))
  ·dsimp only
   rw [dlt hi,cond_true,bind_go (ix_lt hi),bind_go (item_e n pool[i] k),itsE]
   by_cases c1:itE pool[i] k=0
   ·rw [c1,if_neg (by decide)]
    exact .inr ⟨(),by rw [show ((0:Int) != 0)=false from rfl,cond_false,w64n (by omega)],trivial,rfl⟩
   ·rw [if_pos c1]
    dsimp only
    rw [show (itE pool[i] k != 0)=true by simpa using c1]
    exact .inl ⟨rfl,rfl⟩
  ·dsimp only
   rw [dge (Nat.le_refl _),cond_false]
   exact ⟨rfl,rfl⟩
end
end Go.Proofs.YtcaahphghaddgaaGreatDoor
set_option linter.unusedSimpArgs false
set_option linter.unusedVariables false
namespace Go.Proofs.YtcaahphghaddgaaGreatDoor
open Go.RowKit Lim
theorem ref33_Check_m {F:Nat} (n0:Nat) (x0:VT.den (.sl 9 (.pair (.int .i64) (.pair .str (.pair (.int .i64) (.pair (.int .i64) (.pair (.int .i64) (.pair (.int .i64) (.pair (.int .i64) (.pair (.int .i64) (.sl 1 (.sl 1 (.int .i64))))))))))))) (x1:Int):EF F (n0+1) 16 [.o (.c ⟨(.sl 9 (.pair (.int .i64) (.pair .str (.pair (.int .i64) (.pair (.int .i64) (.pair (.int .i64) (.pair (.int .i64) (.pair (.int .i64) (.pair (.int .i64) (.sl 1 (.sl 1 (.int .i64)))))))))))),x0⟩),.o (.c ⟨(.int .i64),x1⟩)] [.c (.int .i64)]=unwrapA (bif decide (18<(Nat.cast (R:=Int) (List.length x0))) then some (.ret (5,())) else loopA 0 [tI,tI] (fun x=>bif decide (x.1<(Nat.cast (R:=Int) (List.length x0))) then (ix x0 x.1).bind fun y=>(EF F n0 39 [vI y.1,vI 1,vI 9999999] [.c tB]).bind fun x_1=>bif !x_1.1 then some (.ret (23,())) else bif decide (0<x.1) then (ix x0 (IntKind.i64.wrap (x.1-1))).bind fun y_1=>bif decide (y.1≤y_1.1) then some (.ret (23,())) else some (.cont 0 [tI,tI] (IntKind.i64.wrap (x.1+1),x.2.1,())) else some (.cont 0 [tI,tI] (IntKind.i64.wrap (x.1+1),x.2.1,())) else loopA 0 [tI,tI] (fun x_1=>bif decide (x_1.1<(Nat.cast (R:=Int) (List.length x0))) then (ix x0 x_1.1).bind fun y=>(EF F n0 44 [.o (.agg [⟨tI,y.1⟩,⟨tS,y.2.1⟩,⟨tI,y.2.2.1⟩,⟨tI,y.2.2.2.1⟩,⟨tI,y.2.2.2.2.1⟩,⟨tI,y.2.2.2.2.2.1⟩,⟨tI,y.2.2.2.2.2.2.1⟩,⟨tI,y.2.2.2.2.2.2.2.1⟩,{ t:=VT.sl 1 (VT.sl 1 (tI)),x:=y.2.2.2.2.2.2.2.2 }]),vI x1] [.c (tI)]).bind fun x_2=>bif x_2.1 != 0 then some (.ret (x_2.1,())) else some (.cont 0 [tI,tI] (IntKind.i64.wrap (x_1.1+1),x_1.2.1,())) else some (.ret (0,()))) F (0,x.2.1,())) F (0,0,())):=by kernel_rfl
theorem ref33_within_m {F:Nat} (n0:Nat) (x0 x1 x2:Int):EF F (n0+1) 39 [.o (.c ⟨(.int .i64),x0⟩),.o (.c ⟨(.int .i64),x1⟩),.o (.c ⟨(.int .i64),x2⟩)] [.c .bool]=unwrapA (bif decide (x1≤x0) then some (.ret (decide (x0≤x2),())) else some (.ret (false,()))):=by kernel_rfl
theorem ref33_item_m {F:Nat} (n0:Nat) (x0_0:Int) (x0_1:List UInt8) (x0_2 x0_3 x0_4 x0_5 x0_6 x0_7:Int) (x0_8:VT.den (.sl 1 (.sl 1 (.int .i64)))) (x1:Int):EF F (n0+1) 44 [.o (.agg [⟨(.int .i64),x0_0⟩,⟨.str,x0_1⟩,⟨(.int .i64),x0_2⟩,⟨(.int .i64),x0_3⟩,⟨(.int .i64),x0_4⟩,⟨(.int .i64),x0_5⟩,⟨(.int .i64),x0_6⟩,⟨(.int .i64),x0_7⟩,⟨(.sl 1 (.sl 1 (.int .i64))),x0_8⟩]),.o (.c ⟨(.int .i64),x1⟩)] [.c (.int .i64)]=unwrapA ((EF F n0 76 [vS x0_1] [.c tB]).bind fun x=>bif !x.1 then some (.ret (2,())) else (EF F n0 39 [vI x0_2,vI 0,vI 9999999] [.c tB]).bind fun x=>bif !x.1 then some (.ret (3,())) else (EF F n0 39 [vI x0_3,vI 0,vI 9999999] [.c tB]).bind fun x=>bif !x.1 then some (.ret (3,())) else (EF F n0 39 [vI x0_4,vI 0,vI 2000] [.c tB]).bind fun x=>bif !x.1 then some (.ret (3,())) else (EF F n0 39 [vI x0_5,vI 1,vI 2000] [.c tB]).bind fun x=>bif !x.1 then some (.ret (3,())) else (EF F n0 39 [vI x0_6,vI 1,vI 5] [.c tB]).bind fun x=>bif !x.1 then some (.ret (3,())) else (EF F n0 39 [vI x0_7,vI 0,vI 10] [.c tB]).bind fun x=>bif !x.1 then some (.ret (3,())) else (EF F n0 79 [.o (.agg [{ t:=VT.sl 1 (VT.sl 1 (tI)),x:=x0_8 }]),vI x1] [.c (tI)]).bind fun x=>some (.ret (x.1,()))):=by kernel_rfl
theorem ref19_Valid_m {F:Nat} (n0:Nat) (x0:VT.den (.sl 1 (.sl 1 (.int .i64)))) (x1:Int):EF F (n0+1) 79 [.o (.agg [⟨(.sl 1 (.sl 1 (.int .i64))),x0⟩]),.o (.c ⟨(.int .i64),x1⟩)] [.c (.int .i64)]=unwrapA (bif decide (x1<1) then some (.ret (1,())) else bif decide (21<x1) then some (.ret (1,())) else bif (Nat.cast (R:=Int) (List.length x0)) != x1 then some (.ret (1,())) else (ix x0 0).bind fun y=>bif decide ((Nat.cast (R:=Int) y.length)<2) then some (.ret (3,())) else bif decide (6<(Nat.cast (R:=Int) y.length)) then some (.ret (3,())) else loopA 0 [tI,tI] (fun x=>bif decide (x.1<x1) then (ix x0 x.1).bind fun y_1=>(EF F n0 108 [.o (.c ⟨VT.sl 1 (tI),y_1⟩),vI ((Nat.cast (R:=Int) y.length))] [.c (tI)]).bind fun x_1=>bif x_1.1 != 0 then some (.ret (x_1.1,())) else some (.cont 0 [tI,tI] (IntKind.i64.wrap (x.1+1),x.2.1,())) else some (.ret (0,()))) F (0,0,())):=by kernel_rfl
theorem ref19_row_m {F:Nat} (n0:Nat) (x0:VT.den (.sl 1 (.int .i64))) (x1:Int):EF F (n0+1) 108 [.o (.c ⟨(.sl 1 (.int .i64)),x0⟩),.o (.c ⟨(.int .i64),x1⟩)] [.c (.int .i64)]=unwrapA (bif (Nat.cast (R:=Int) (List.length x0)) != x1 then some (.ret (1,())) else loopA 0 [tI,tI,tI] (fun x=>bif decide (x.1<(Nat.cast (R:=Int) (List.length x0))) then (ix x0 x.1).bind fun y=>bif decide (y<1) then some (.ret (3,())) else (ix x0 x.1).bind fun y=>bif decide (1000<y) then some (.ret (3,())) else (ix x0 x.1).bind fun y=>some (.cont 0 [tI,tI,tI] (IntKind.i64.wrap (x.1+1),IntKind.i64.wrap (x.2.1+y),x.2.2.1,())) else bif x.2.1 != 1000 then some (.ret (19,())) else some (.ret (0,()))) F (0,0,0,())):=by kernel_rfl
theorem ref13_Valid_m {F:Nat} (n0:Nat) (x0:List UInt8):EF F (n0+1) 76 [.o (.c ⟨.str,x0⟩)] [.c .bool]=unwrapA (bif decide (24<(Nat.cast (R:=Int) (List.length x0))) then some (.ret (false,())) else loopA 0 [tI,tI,tI,tB] (fun x=>bif decide (x.1<(Nat.cast (R:=Int) (List.length x0))) then (ix x0 x.1).bind fun b=>bif (Nat.cast (R:=Int) b.toNat) == 46 then bif x.2.1 == 0 then some (.ret (false,())) else some (.cont 0 [tI,tI,tI,tB] (IntKind.i64.wrap (x.1+1),0,IntKind.i64.wrap (x.2.2.1+1),x.2.2.2.1,())) else bif decide ((Nat.cast (R:=Int) b.toNat)<65) then bif decide ((Nat.cast (R:=Int) b.toNat)<48) then some (.ret (false,())) else bif decide (57<(Nat.cast (R:=Int) b.toNat)) then some (.ret (false,())) else bif decide (8<IntKind.i64.wrap (x.2.1+1)) then some (.ret (false,())) else some (.cont 0 [tI,tI,tI,tB] (IntKind.i64.wrap (x.1+1),IntKind.i64.wrap (x.2.1+1),x.2.2.1,x.2.2.2.1,())) else bif decide (90<(Nat.cast (R:=Int) b.toNat)) then bif decide ((Nat.cast (R:=Int) b.toNat)<48) then some (.ret (false,())) else bif decide (57<(Nat.cast (R:=Int) b.toNat)) then some (.ret (false,())) else bif decide (8<IntKind.i64.wrap (x.2.1+1)) then some (.ret (false,())) else some (.cont 0 [tI,tI,tI,tB] (IntKind.i64.wrap (x.1+1),IntKind.i64.wrap (x.2.1+1),x.2.2.1,x.2.2.2.1,())) else bif decide (8<IntKind.i64.wrap (x.2.1+1)) then some (.ret (false,())) else some (.cont 0 [tI,tI,tI,tB] (IntKind.i64.wrap (x.1+1),IntKind.i64.wrap (x.2.1+1),x.2.2.1,x.2.2.2.1,())) else bif decide (0<x.2.1) then some (.ret (decide (x.2.2.1≤5),())) else some (.ret (false,()))) F (0,0,1,false,())):=by kernel_rfl
end Go.Proofs.YtcaahphghaddgaaGreatDoor
set_option linter.unusedSimpArgs false
set_option linter.unusedVariables false
namespace Go.Proofs.YtcaahphghaddgaaGreatDoor
open Go.RowKit Lim
def r13:List UInt8→Nat→Nat→Bool
 | [],sg,sz=>decide (0<sz) && decide (sg≤5)
 | c :: r,sg,sz=>if c.toNat=46 then (if sz=0 then false else r13 r (sg+1) 0) else if okByte c=false then false else if 8<sz+1 then false else r13 r sg (sz+1)
def r13V (s:List UInt8):Bool:=!(decide ((24:Int)<(s.length:Nat))) && r13 s 1 0
theorem index_miss {s:List UInt8} (h:(46:UInt8) ∉ s):Lib.index s [46] = -1:=by
 induction s with
 | nil=>rfl
 | cons c s ih =>
  simp only [List.mem_cons,not_or]at h
  unfold Lib.index
  have:([46]:List UInt8).isPrefixOf (c :: s)=false:=by
   simp [List.isPrefixOf]
   exact h.1
  rw [this,ih h.2]
  rfl
theorem index_at {a b:List UInt8} (h:(46:UInt8) ∉ a):Lib.index (a ++ 46 :: b) [46]=(a.length:Int):=by
 induction a with
 | nil =>
  rw [List.nil_append]
  unfold Lib.index
  simp [List.isPrefixOf]
 | cons c a ih =>
  simp only [List.mem_cons,not_or]at h
  rw [List.cons_append]
  unfold Lib.index
  have:([46]:List UInt8).isPrefixOf (c :: (a ++ 46 :: b))=false:=by
   simp [List.isPrefixOf]
   exact h.1
  rw [this,ih h.2]
  have h2:((a.length:Int) == -1)=false:=by rw [beq_eq_false_iff_ne];omega
  simp [h2]
theorem cut_miss {s:List UInt8} (h:(46:UInt8) ∉ s):Lib.cut s [46]=(s,[],false):=by
 unfold Lib.cut
 rw [index_miss h]
 rfl
theorem cut_at {a b:List UInt8} (h:(46:UInt8) ∉ a):Lib.cut (a ++ 46 :: b) [46]=(a,b,true):=by
 unfold Lib.cut
 rw [index_at h,if_pos (by omega)]
 simp
theorem cut_cases (s:List UInt8):((46:UInt8) ∉ s)∨∃a b,s=a ++ 46 :: b∧(46:UInt8) ∉ a:=by
 induction s with
 | nil=>left;simp
 | cons c s ih =>
  by_cases hc:c=46
  ·exact .inr ⟨[],s,by rw [hc];rfl,by simp⟩
  ·rcases ih with h|⟨a,b,rfl,h⟩
   ·left;simp [h];exact fun hq=>hc hq.symm
   ·exact .inr ⟨c :: a,b,rfl,by simp [h];exact fun hq=>hc hq.symm⟩
theorem cut_point (s:List UInt8):Lib.cut (46 :: s) [46]=([],s,true):=cut_at (a:=[]) (by simp)
theorem cut_cons {c:UInt8} (h:c≠46) (s:List UInt8):Lib.cut (c :: s) [46]=(c :: (Lib.cut s [46]).1,(Lib.cut s [46]).2.1,(Lib.cut s [46]).2.2):=by
 rcases cut_cases s with hs|⟨a,b,rfl,hs⟩
 ·rw [cut_miss hs,cut_miss (by simp [hs];exact fun hq=>h hq.symm)]
 ·rw [cut_at hs,←List.cons_append,cut_at (by simp [hs];exact fun hq=>h hq.symm)]
theorem r13_many:∀(s:List UInt8) (sg sz:Nat),5<sg→r13 s sg sz=false
 | [],sg,sz,h=>by simp [r13];omega
 | c :: s,sg,sz,h=>by
  unfold r13
  rw [r13_many s (sg+1) 0 (by omega),r13_many s sg (sz+1) h]
  simp
def segH (sz:Nat) (h:List UInt8):Bool:=h.all okByte && (decide (1≤sz+h.length) && decide (sz+h.length≤8))
theorem segH_zero (h:List UInt8):segH 0 h=segB h:=by
 unfold segH segB
 congr 2
 ·apply decide_eq_decide.2;omega
 ·apply decide_eq_decide.2;omega
theorem segH_cons (sz:Nat) (c:UInt8) (h:List UInt8):segH sz (c :: h)=(okByte c && segH (sz+1) h):=by
 unfold segH
 have e1:decide (1≤sz+(c :: h).length)=decide (1≤sz+1+h.length):=decide_eq_decide.2 (by simp only [List.length_cons];omega)
 have e2:decide (sz+(c :: h).length≤8)=decide (sz+1+h.length≤8):=decide_eq_decide.2 (by simp only [List.length_cons];omega)
 rw [e1,e2,List.all_cons,Bool.and_assoc]
theorem point_bad {c:UInt8} (h:c.toNat=46):c=46:=UInt8.toNat_inj.1 h
def segsB (r:List (List UInt8) × Bool) (sz:Nat):Bool:=r.2 && (match r.1 with|[]=>false|h :: t=>segH sz h && t.all segB)
theorem r13_segs:∀(s:List UInt8) (n sg sz:Nat),sg+n=5→sz≤8→r13 s sg sz=segsB (segL (n+1) s) sz
 | [],n,sg,sz,h1,h2=>by
  have e:Lib.cut [] [46]=(([]:List UInt8),[],false):=cut_miss (by simp)
  unfold segL
  rw [e]
  have q1:decide (sg≤5)=true:=by simp;omega
  have q2:decide (sz≤8)=true:=by simp [h2]
  have q3:decide (0<sz)=decide (1≤sz):=decide_eq_decide.2 (by omega)
  simp only [r13,segsB,segH,q1,q2,q3,Bool.false_eq_true,if_false,List.all_nil,List.length_nil,Nat.add_zero,Bool.and_true,Bool.true_and]
 | c :: s,n,sg,sz,h1,h2=>by
  unfold r13
  by_cases hc:c.toNat=46
  ·rw [if_pos hc,point_bad hc]
   unfold segL
   rw [cut_point]
   simp only [if_true,segsB,segH]
   by_cases h0:sz=0
   ·rw [if_pos h0]
    simp [h0]
   ·rw [if_neg h0]
    cases n with
    | zero=>rw [r13_many s (sg+1) 0 (by omega)];simp [segL]
    | succ m =>
     rw [r13_segs s m (sg+1) 0 (by omega) (by omega)]
     unfold segsB
     have hne:(segL (m+1) s).1≠[]:=by unfold segL;split <;> simp
     cases hs:(segL (m+1) s).1 with
     | nil=>exact absurd hs hne
     | cons a t =>
      simp only [segH_zero,List.all_cons,List.all_nil,List.length_nil,Nat.add_zero,Bool.true_and]
      have:decide (1≤sz)=true:=by simp;omega
      have h8:decide (sz≤8)=true:=by simp [h2]
      rw [this,h8]
      simp
  ·rw [if_neg hc]
   have hc':c≠46:=fun h=>hc (by rw [h];rfl)
   have e:segsB (segL (n+1) (c :: s)) sz=(segsB (segL (n+1) s) (sz+1) && okByte c):=by
    unfold segL
    rw [cut_cons hc']
    cases (Lib.cut s [46]).2.2 with
    | true =>
     simp only [if_true,segsB,segH_cons]
     cases okByte c <;> simp
    | false =>
     simp only [Bool.false_eq_true,if_false,segsB,segH_cons]
     cases okByte c <;> simp
   rw [e]
   cases ho:okByte c with
   | false=>simp
   | true =>
    rw [if_neg (by simp),Bool.and_true]
    by_cases h8:8<sz+1
    ·rw [if_pos h8]
     unfold segsB segH
     symm
     cases (segL (n+1) s).1 with
     | nil=>simp
     | cons a t =>
      have:decide (sz+1+a.length≤8)=false:=by simp;omega
      simp [this]
    ·rw [if_neg h8]
     exact r13_segs s n sg (sz+1) h1 (by omega)
theorem content_r13 (s:List UInt8):contentB s=r13V s:=by
 unfold contentB r13V
 rw [r13_segs s 4 1 0 (by omega) (by omega)]
 unfold segsB
 have hne:(segL 5 s).1≠[]:=by unfold segL;split <;> simp
 cases hs:(segL 5 s).1 with
 | nil=>exact absurd hs hne
 | cons a t=>simp only [List.all_cons,segH_zero]
theorem r13_step (s:List UInt8) (c:UInt8) (sg sz:Nat):r13 (c :: s) sg sz=if c.toNat=46 then (if sz=0 then false else r13 s (sg+1) 0) else if okByte c=false then false else if 8<sz+1 then false else r13 s sg (sz+1):=rfl
section
variable (n:Nat)
theorem r13_e (s:List UInt8):EF fuel (n+1) 76 [vS s] gB=some (contentB s,()):=by
 rw [content_r13]
 refine (ref13_Valid_m n s).trans ?_
 unfold r13V
 by_cases hs:24<s.length
 ·rw [decide_eq_true (show 24<(s.length:Int)by omega),cond_true]
  rfl
 rw [decide_eq_false (show ¬24<(s.length:Int)by omega),cond_false,Bool.not_false,Bool.true_and]
 refine congrArg (a₂:=some (Ans.ret ((r13 s 1 0,()):denL gB.ts))) unwrapA ?_
 refine loopA_list (R:=denL gB.ts) (ts:=[tI,tI,tI,tB]) s (fun k (b:Nat × Nat)=>((k:Int),(b.2:Int),(b.1:Int),false,())) (fun l b=>.ret ((r13 l b.1 b.2,()):denL gB.ts)) (fun k b=>b.1≤k+1∧b.2≤k) (fun k hk b hb=>?_) (fun b hb=>?_) (1,0) ⟨by omega,by omega⟩ (fuel_lt (by omega))
 ·obtain ⟨sg,sz⟩:=b
  dsimp only at hb ⊢
  rw [dlt hk,cond_true]
  rw [ix_lt hk]
  simp only [Option.bind_some]
  generalize s[k]=c
  rw [r13_step,ok_step,w64n (by omega),w64n (by omega),w64n (by omega)]
  by_cases h1:c.toNat=46
  ·rw [show ((c.toNat:Int) == 46)=true by rw [h1];rfl,cond_true,if_pos h1]
   by_cases h2:sz=0
   ·rw [if_pos h2,h2]
    exact .inl ⟨rfl,rfl⟩
   ·rw [if_neg h2,show ((sz:Int) == 0)=false by rw [beq_eq_false_iff_ne];omega,cond_false]
    exact .inr ⟨(sg+1,0),rfl,by dsimp only;omega,rfl⟩
  ·rw [show ((c.toNat:Int) == 46)=false by rw [beq_eq_false_iff_ne];omega,cond_false,if_neg h1]
   cases okByte c
   ·exact .inl ⟨rfl,rfl⟩
   rw [cond_true,if_neg (by decide)]
   by_cases h3:8<sz+1
   ·rw [if_pos h3,decide_eq_true (show (8:Int)<((sz+1:Nat):Int)by omega)]
    exact .inl ⟨rfl,rfl⟩
   ·rw [if_neg h3,decide_eq_false (show ¬(8:Int)<((sz+1:Nat):Int)by omega)]
    exact .inr ⟨(sg,sz+1),rfl,by dsimp only;omega,rfl⟩
 ·obtain ⟨sg,sz⟩:=b
  dsimp only
  rw [dge (Nat.le_refl _),cond_false]
  have e:r13 [] sg sz=(decide (0<sz) && decide (sg≤5)):=rfl
  rw [e,show decide ((0:Int)<(sz:Int))=decide (0<sz)from decide_eq_decide.2 (by omega),show decide ((sg:Int)≤5)=decide (sg≤5)from decide_eq_decide.2 (by omega)]
  cases decide (0<sz) <;> exact ⟨rfl,rfl⟩
theorem row19_e (l:List Int) (c:Nat) (hl:l.length≤1048576) (hc:c≤6):EF fuel (n+1) 108 [vIs l,vI (c:Int)] gI=some ((if l.length≠c then 1 else rowE l 0),()):=by
 refine (ref19_row_m n l (c:Int)).trans ?_
 by_cases h6:l.length=c
 case neg =>
  rw [show ((l.length:Int) != (c:Int))=true from by simpa using fun h=>h6 (by omega),cond_true,if_pos h6];rfl
 rw [show ((l.length:Int) != (c:Int))=false from by rw [h6];simp,cond_false,if_neg (fun h=>h h6)]
 refine congrArg (a₂:=some (Ans.ret ((rowE l 0,()):denL gI.ts))) unwrapA ?_
 refine loopA_list (R:=denL gI.ts) (ts:=[tI,tI,tI]) l (fun j (s:Int)=>((j:Int),s,0,())) (fun l s=>.ret ((rowE l s,()):denL gI.ts)) (fun j s=>0≤s∧s≤1000*(j:Int)) (fun j hj s hs=>?_) (fun s hs=>?_) 0 (by omega) (fuel_lt (by omega))
 ·dsimp only
  rw [dlt hj,cond_true,ix_lt hj,rowE]
  simp only [Option.bind_some]
  generalize l[j]=x
  by_cases c1:x<1
  ·rw [decide_eq_true c1,cond_true,if_pos c1]
   exact .inl ⟨rfl,rfl⟩
  by_cases c2:1000<x
  ·rw [decide_eq_false c1,cond_false,decide_eq_true c2,cond_true,if_neg c1,if_pos c2]
   exact .inl ⟨rfl,rfl⟩
  rw [decide_eq_false c1,cond_false,decide_eq_false c2,cond_false,w64n (by omega),w64 (by omega) (by omega),if_neg c1,if_neg c2]
  exact .inr ⟨s+x,rfl,by omega,rfl⟩
 ·dsimp only
  rw [dge (Nat.le_refl _),cond_false,rowE]
  by_cases c1:s=1000
  ·rw [show (s != 1000)=false by simpa using c1,if_pos c1]
   exact ⟨rfl,rfl⟩
  ·rw [show (s != 1000)=true by simpa using c1,if_neg c1]
   exact ⟨rfl,rfl⟩
theorem model19_e (rows:List (List Int)) (k:Int) (hb:∀r∈rows,r.length≤1048576):EF fuel (n+2) 79 [vM rows,vI k] gI=some (modelE rows k,()):=by
 refine (ref19_Valid_m (n+1) rows k).trans ?_
 unfold modelE
 by_cases h1:k<1
 ·rw [decide_eq_true h1,cond_true,if_pos h1];rfl
 by_cases h2:21<k
 ·rw [decide_eq_false h1,cond_false,decide_eq_true h2,cond_true,if_neg h1,if_pos h2];rfl
 rw [decide_eq_false h1,cond_false,decide_eq_false h2,cond_false,if_neg h1,if_neg h2]
 by_cases h3:(rows.length:Int)=k
 case neg =>
  rw [show ((rows.length:Int) != k)=true from by simpa using h3,if_pos h3];rfl
 rw [show ((rows.length:Int) != k)=false from by simpa using h3,if_neg (fun h=>h h3),cond_false]
 cases hr:rows with
 | nil=>rw [hr]at h3;simp at h3;omega
 | cons r0 l0 =>
 rw [show ix (r0 :: l0) 0=some r0 from rfl]
 simp only [Option.bind_some]
 by_cases h4:r0.length<2
 ·rw [decide_eq_true (show (r0.length:Int)<2 by omega),cond_true,if_pos h4];rfl
 by_cases h5:6<r0.length
 ·rw [decide_eq_false (show ¬(r0.length:Int)<2 by omega),cond_false,decide_eq_true (show (6:Int)<(r0.length:Int)by omega),cond_true,if_neg h4,if_pos h5];rfl
 rw [decide_eq_false (show ¬(r0.length:Int)<2 by omega),cond_false,decide_eq_false (show ¬(6:Int)<(r0.length:Int)by omega),cond_false,if_neg h4,if_neg h5,←hr]
 have hlen:rows.length≤21:=by omega
 clear hr
 subst h3
 generalize r0.length=c at *
 refine congrArg (a₂:=some (Ans.ret ((rowsE c rows,()):denL gI.ts))) unwrapA ?_
 refine loopA_list (R:=denL gI.ts) (ts:=[tI,tI]) rows (fun k (_:Unit)=>((k:Int),0,())) (fun l _=>.ret ((rowsE c l,()):denL gI.ts)) (fun _ _=>True) (fun i hi _ _=>?_) (fun _ _=>?_) () trivial (fuel_lt (by omega))
 ·dsimp only
  rw [dlt hi,cond_true,bind_go (ix_lt hi),bind_go (row19_e n rows[i] c (hb _ (List.getElem_mem hi)) (by omega)),rowsE]
  dsimp only
  generalize rows[i]=r
  by_cases h6:r.length=c
  case neg=>rw [if_pos h6,if_pos h6];exact .inl ⟨rfl,rfl⟩
  rw [if_neg (fun h=>h h6),if_neg (fun h=>h h6)]
  by_cases h7:rowE r 0=0
  ·rw [h7,if_neg (fun h=>h rfl)]
   exact .inr ⟨(),by rw [show ((0:Int) != 0)=false from rfl,cond_false,w64n (by omega)];rfl,trivial,rfl⟩
  ·rw [if_pos h7,show (rowE r 0 != 0)=true by simpa using h7]
   exact .inl ⟨rfl,rfl⟩
 ·dsimp only
  rw [dge (Nat.le_refl _),cond_false]
  exact ⟨rfl,rfl⟩
theorem wi {x lo hi:Int}:(decide (lo≤x) && decide (x≤hi))=!(decide (x<lo) || decide (hi<x)):=by
 by_cases h1:x<lo
 ·rw [decide_eq_true h1,decide_eq_false (show ¬lo≤x by omega)];rfl
 ·rw [decide_eq_false h1,decide_eq_true (show lo≤x by omega)]
  by_cases h2:hi<x
  ·rw [decide_eq_true h2,decide_eq_false (show ¬x≤hi by omega)];rfl
  ·rw [decide_eq_false h2,decide_eq_true (show x≤hi by omega)];rfl
theorem within33_e (x lo hi:Int):EF fuel (n+1) 39 [vI x,vI lo,vI hi] [.c .bool]=some (decide (lo≤x) && decide (x≤hi),()):=by
 refine (ref33_within_m n x lo hi).trans ?_
 cases decide (lo≤x) <;> rfl
theorem item33_e (y:PI) (k:Int) (hb:∀r∈y.2.2.2.2.2.2.2.2,r.length≤1048576):EF fuel (n+4) 44 [.o (.agg [⟨.int .i64,y.1⟩,⟨.str,y.2.1⟩,⟨.int .i64,y.2.2.1⟩,⟨.int .i64,y.2.2.2.1⟩,⟨.int .i64,y.2.2.2.2.1⟩,⟨.int .i64,y.2.2.2.2.2.1⟩,⟨.int .i64,y.2.2.2.2.2.2.1⟩,⟨.int .i64,y.2.2.2.2.2.2.2.1⟩,⟨.sl 1 (.sl 1 (.int .i64)),y.2.2.2.2.2.2.2.2⟩]),vI k] [.c (.int .i64)]=some (itE y k,()):=by
 refine (ref33_item_m (n+3) y.1 y.2.1 y.2.2.1 y.2.2.2.1 y.2.2.2.2.1 y.2.2.2.2.2.1 y.2.2.2.2.2.2.1 y.2.2.2.2.2.2.2.1 y.2.2.2.2.2.2.2.2 k).trans ?_
 rw [bind_go (r13_e (n+2) y.2.1),bind_go (within33_e (n+2) y.2.2.1 _ _),bind_go (within33_e (n+2) y.2.2.2.1 _ _),bind_go (within33_e (n+2) y.2.2.2.2.1 _ _),bind_go (within33_e (n+2) y.2.2.2.2.2.1 _ _),bind_go (within33_e (n+2) y.2.2.2.2.2.2.1 _ _),bind_go (within33_e (n+2) y.2.2.2.2.2.2.2.1 _ _),bind_go (model19_e (n+1) y.2.2.2.2.2.2.2.2 k hb)]
 unfold itE
 dsimp only
 generalize modelE y.2.2.2.2.2.2.2.2 k=e
 rw [wi,wi,wi,wi,wi,wi]
 cases contentB y.2.1
 case false=>rfl
 cases decide (y.2.2.1<0)
 case true=>rfl
 cases decide (9999999<y.2.2.1)
 case true=>rfl
 cases decide (y.2.2.2.1<0)
 case true=>rfl
 cases decide (9999999<y.2.2.2.1)
 case true=>rfl
 cases decide (y.2.2.2.2.1<0)
 case true=>rfl
 cases decide (2000<y.2.2.2.2.1)
 case true=>rfl
 cases decide (y.2.2.2.2.2.1<1)
 case true=>rfl
 cases decide (2000<y.2.2.2.2.2.1)
 case true=>rfl
 cases decide (y.2.2.2.2.2.2.1<1)
 case true=>rfl
 cases decide (5<y.2.2.2.2.2.2.1)
 case true=>rfl
 cases decide (y.2.2.2.2.2.2.2.1<0)
 case true=>rfl
 cases decide (10<y.2.2.2.2.2.2.2.1) <;> rfl
theorem check33_e (pool:List PI) (k:Int) (hbp:∀y∈pool,∀r∈y.2.2.2.2.2.2.2.2,r.length≤1048576):EF fuel (n+5) 16 [vP pool,vI k] [.c (.int .i64)]=some (poolE pool k,()):=by
 rw [ref33_Check_m (n+4) pool k]
 unfold poolE
 by_cases h1:18<pool.length
 ·rw [decide_eq_true (show (18:Int)<(pool.length:Int)by omega),cond_true,if_pos h1];rfl
 rw [decide_eq_false (show ¬(18:Int)<(pool.length:Int)by omega),cond_false,if_neg h1]
 refine congrArg (a₂:=some (Ans.ret ((if idsE pool 0=false then 23 else itsE k pool),()))) unwrapA ?_
 refine loopA_list (ts:=[tI,tI]) pool (fun i (_:Int)=>((i:Int),0,())) (fun l b=>.ret ((if idsE l b=false then 23 else itsE k pool),())) (fun i b=>(i=0∧b=0)∨(0<i∧∃y,pool[i-1]? = some y∧b=y.1)) (fun i hi b hb=>?_) (fun b hb=>?_) 0 (.inl ⟨rfl,rfl⟩) (fuel_lt (by omega))
 ·dsimp only
  rw [dlt hi,cond_true,bind_go (ix_lt hi),bind_go (within33_e (n+3) pool[i].1 1 9999999),idsE]
  dsimp only
  rw [show (decide (1≤pool[i].1) && decide (pool[i].1≤9999999))=numB pool[i].1 from rfl]
  cases hn:numB pool[i].1
  ·exact .inl ⟨rfl,rfl⟩
  have hpos:1≤pool[i].1:=by
   unfold numB at hn
   rw [Bool.and_eq_true]at hn
   exact of_decide_eq_true hn.1
  have hnext:IntKind.i64.wrap ((i:Int)+1)=((i+1:Nat):Int):=w64n (by omega)
  have hI:(i+1=0∧pool[i].1=0)∨(0<i+1∧∃y,pool[i+1-1]? = some y∧pool[i].1=y.1):=.inr ⟨by omega,pool[i],by rw [Nat.add_sub_cancel,List.getElem?_eq_getElem hi],rfl⟩
  rw [Bool.not_true,cond_false,if_neg (show ¬(true=false)by decide),hnext]
  rcases hb with ⟨rfl,rfl⟩|⟨h0,y,hy,rfl⟩
  ·rw [decide_eq_false (show ¬(0:Int)<((0:Nat):Int)by omega),cond_false,if_neg (show ¬pool[0].1≤0 by omega)]
   exact .inr ⟨_,rfl,hI,rfl⟩
  ·have e1:IntKind.i64.wrap ((i:Int)-1)=((i-1:Nat):Int):=by rw [w64 (by omega) (by omega)];omega
   rw [decide_eq_true (show (0:Int)<(i:Int)by omega),cond_true,e1,bind_go (ix_get hy)]
   by_cases c1:pool[i].1≤y.1
   ·rw [decide_eq_true c1,cond_true,if_pos c1]
    exact .inl ⟨rfl,rfl⟩
   ·rw [decide_eq_false c1,cond_false,if_neg c1]
    exact .inr ⟨_,rfl,hI,rfl⟩
 ·dsimp only
  rw [dge (Nat.le_refl _),cond_false,idsE,if_neg (show ¬(true=false)by decide)]
  refine ⟨?_,rfl⟩
  refine loopA_list (ts:=[tI,tI]) pool (fun i (_:Unit)=>((i:Int),0,())) (fun l _=>.ret (itsE k l,())) (fun _ _=>True) (fun i hi _ _=>?_) (fun _ _=>?_) () trivial (fuel_lt (by omega))
  ·dsimp only
   rw [dlt hi,cond_true,bind_go (ix_lt hi),bind_go (item33_e n pool[i] k (hbp _ (List.getElem_mem hi))),itsE]
   by_cases c1:itE pool[i] k=0
   ·rw [c1,if_neg (by decide)]
    exact .inr ⟨(),by rw [show ((0:Int) != 0)=false from rfl,cond_false,w64n (by omega)],trivial,rfl⟩
   ·rw [if_pos c1]
    dsimp only
    rw [show (itE pool[i] k != 0)=true by simpa using c1]
    exact .inl ⟨rfl,rfl⟩
  ·dsimp only
   rw [dge (Nat.le_refl _),cond_false]
   exact ⟨rfl,rfl⟩
end
end Go.Proofs.YtcaahphghaddgaaGreatDoor
set_option linter.unusedSimpArgs false
set_option linter.unusedVariables false
namespace Go.Proofs.YtcaahphghaddgaaGreatDoor
open Go.RowKit Go.Shelf Lim
theorem E_ac {n:Nat} {f:FuncId} {args:List V} {g:Sig} {x:denL g.ts} (h:EF fuel n f args g=some x) (hp:args.all V.plain=true):AC f (args.map V.av) (resO g x):=by
 rcases (ev_sound evw_ok n).a f args g x hp h with h|h
 ·exact h.ofT
 ·exact h
theorem pools_c (ha:AC 14 [] (boo true)) (pool:List PI) (k:Int) (hbp:∀y∈pool,∀r∈y.2.2.2.2.2.2.2.2,r.length≤1048576):AC 4 [(vP pool).av,i64 k] (boo true):=by
 have c1:AC 15 [(vP pool).av,i64 k] (i64 (poolE pool k)):=E_ac (check_pool (n:=0) pool k) rfl
 have c2:AC 16 [(vP pool).av,i64 k] (i64 (poolE pool k)):=E_ac (check33_e (n:=0) pool k hbp) rfl
 generalize hP:(vP pool).av=P at *
 obtain ⟨es,rfl⟩:∃es,P=.sl 9 es:=⟨_,hP.symm⟩
 generalize poolE pool k=v at *
 refine ACalls.of ⟨5,[],[]⟩ (fn:=Tryz.f4) Tryz.func4 rfl rfl rfl (by kernel_rfl) (by kernel_rfl) (Nat.le_of_ble_eq_true rfl) ?_
 simp (maxSteps:=1000000) -implicitDefEqProofs only [go_sem,awp_seq,Nat.reduceBNe,Nat.reduceBEq,Nat.reduceAdd,Nat.reduceSub,Nat.reduceMul,Nat.reduceLeDiff,Nat.reduceLT,Nat.reduceEqDiff,Nat.reduceBneDiff,Int.reduceLE,Int.reduceLT,Int.reduceToNat,Int.reduceBEq,Int.reduceBNe,Int.reduceAdd,Int.reduceSub,Int.cast_ofNat_Int]
 refine callA_mk (q:=[]) c1 ?_
 simp (maxSteps:=1000000) -implicitDefEqProofs only [go_sem,awp_seq,Nat.reduceBNe,Nat.reduceBEq,Nat.reduceAdd,Nat.reduceSub,Nat.reduceMul,Nat.reduceLeDiff,Nat.reduceLT,Nat.reduceEqDiff,Nat.reduceBneDiff,Int.reduceLE,Int.reduceLT,Int.reduceToNat,Int.reduceBEq,Int.reduceBNe,Int.reduceAdd,Int.reduceSub,Int.cast_ofNat_Int]
 refine callA_mk (q:=[]) c2 ?_
 have hv:(v == v)=true:=beq_self_eq_true v
 simp (maxSteps:=1000000) -implicitDefEqProofs only [hv,go_sem,awp_seq,Nat.reduceBNe,Nat.reduceBEq,Nat.reduceAdd,Nat.reduceSub,Nat.reduceMul,Nat.reduceLeDiff,Nat.reduceLT,Nat.reduceEqDiff,Nat.reduceBneDiff,Int.reduceLE,Int.reduceLT,Int.reduceToNat,Int.reduceBEq,Int.reduceBNe,Int.reduceAdd,Int.reduceSub,Int.cast_ofNat_Int]
 refine callA_mk (q:=[]) ha ?_
 simp (maxSteps:=1000000) -implicitDefEqProofs only [go_sem,awp_seq,Nat.reduceBNe,Nat.reduceBEq,Nat.reduceAdd,Nat.reduceSub,Nat.reduceMul,Nat.reduceLeDiff,Nat.reduceLT,Nat.reduceEqDiff,Nat.reduceBneDiff,Int.reduceLE,Int.reduceLT,Int.reduceToNat,Int.reduceBEq,Int.reduceBNe,Int.reduceAdd,Int.reduceSub,Int.cast_ofNat_Int]
end Go.Proofs.YtcaahphghaddgaaGreatDoor
set_option linter.unusedSimpArgs false
set_option linter.unusedVariables false
namespace Go.Proofs.YtcaahphghaddgaaGreatDoor
open Go.ChangeShapes Go.WideShapes Go.ChangeAt Go.RowKit Lim
inductive SH where
 | int (k:IntKind)
 | bool
 | str
 | nat
 | sl (e:SH)
 | nil
 | cons (f r:SH)
def SH.sz:SH→Nat
 | .nil=>0
 | .cons f r=>f.sz+r.sz
 | _=>1
inductive Ok (B:Nat):SH→List AV→Prop
 | int {k:IntKind} {z:Int} (h:k.min≤z∧z≤k.max):Ok B (.int k) [.lit (.int k z)]
 | bool {b:Bool}:Ok B .bool [.lit (.bool b)]
 | str {l:List UInt8} (h:l.length≤B):Ok B .str [Go.Proofs.YtcaahphghaddgaaGreatDoor.str l]
 | nat {l:List Nat} (h1:Dig l) (h2:l.length≤B):Ok B .nat [.nat l]
 | sl {e:SH} {xs:List (List AV)} (h1:xs.length≤B) (h2:∀x,x∈xs→Ok B e x):Ok B (.sl e) [.sl e.sz (xs.map (mkEl e.sz))]
 | nil:Ok B .nil []
 | cons {f r:SH} {a b:List AV} (h1:Ok B f a) (h2:Ok B r b):Ok B (.cons f r) (a ++ b)
theorem Ok.facts {B:Nat} {s:SH} {cs:List AV} (h:Ok B s cs):cs.length=s.sz∧cs.all AV.one=true:=by
 induction h with
 | cons _ _ ih1 ih2=>simp only [SH.sz,List.length_append,List.all_append,ih1.1,ih2.1,ih1.2,ih2.2,Bool.and_self];exact ⟨trivial,trivial⟩
 | nil=>exact ⟨rfl,rfl⟩
 | _=>exact ⟨rfl,rfl⟩
def shB (P:Program):SH→(TypeId→Bool) × (List Field→Nat→Bool)
 | .int k=>(fun t=>match P.underlying t with|some (.int k')=>decide (k'=k)|_=>false,fun _ _=>false)
 | .bool=>(fun t=>match P.underlying t with|some .bool=>true|_=>false,fun _ _=>false)
 | .str=>(fun t=>match P.underlying t with|some .string=>true|_=>false,fun _ _=>false)
 | .nat=>(fun t=>match P.underlying t with|some (.slice e)=>(match P.underlying e with|some (.int .u32)=>P.cellsOf e == 1|_=>false)|_=>false,fun _ _=>false)
 | .sl s=>(fun t=>match P.underlying t with|some (.slice e)=>(shB P s).1 e && P.cellsOf e == s.sz && decide (0<s.sz)|_=>false,fun _ _=>false)
 | .nil=>(fun t=>match P.underlying t with|some (.struct fs)=>fs.toList.isEmpty && P.cellsOf t == 0|_=>false,fun fs _=>fs.isEmpty)
 | .cons f r=>(fun t=>match P.underlying t with|some (.struct fs)=>(match fs.toList with|g :: gs=>g.offset == 0 && (shB P f).1 g.type && P.cellsOf g.type == f.sz && (shB P r).2 gs (0+f.sz)|[]=>false) && P.cellsOf t == f.sz+r.sz|_=>false,
   fun fs off=>match fs with|g :: gs=>g.offset == off && (shB P f).1 g.type && P.cellsOf g.type == f.sz && (shB P r).2 gs (off+f.sz)|[]=>false)
theorem bulk_one {H:Type} (d:DataW H):1≤Rows.uptoBulk d:=by
 cases d with
 | lit l=>cases l <;> simp [Rows.uptoBulk]
 | nil=>simp [Rows.uptoBulk]
 | ptr d=>simp [Rows.uptoBulk]
 | slice elems spare=>simp [Rows.uptoBulk]
 | agg parts=>simp [Rows.uptoBulk]
 | iface t d=>simp [Rows.uptoBulk]
 | map entries=>simp [Rows.uptoBulk]
 | held h=>simp [Rows.uptoBulk]
theorem bulk_len {H:Type} (l:List (DataW H)):l.length≤Rows.uptoBulkAll l:=by
 induction l with
 | nil=>simp [Rows.uptoBulkAll]
 | cons x r ih=>have:=bulk_one x;simp only [Rows.uptoBulkAll,List.length_cons];omega
theorem bulk_mem {H:Type} {l:List (DataW H)} {x:DataW H} (h:x∈l):Rows.uptoBulk x≤Rows.uptoBulkAll l:=by
 induction l with
 | nil=>simp at h
 | cons y r ih =>
  simp only [Rows.uptoBulkAll]
  rcases List.mem_cons.1 h with rfl|h
  ·omega
  ·have:=ih h;omega
theorem cell_spot {w:World} {a:Addr} {v:Value} (h:w.cell? a=some v):a=⟨a.block,a.off,none⟩:=by
 obtain ⟨b,o,s⟩:=a
 cases s with
 | none=>rfl
 | some q =>
  simp only [World.cell?]at h
  split at h <;> simp at h
abbrev inW (w:World):Zone:=fun b _=>b<w.heap.size
section
variable {H:Type} {enc:TypeId × Value→H} {P:Program} {w:World} {base:Nat} {spare:Nat→Bool} {held:Bool} {B:Nat}
theorem open_nat {t e:TypeId} {fuel:Nat} {cs:List Value} {x:DataW H × List MemPlace} (ht:P.underlying t=some (.slice e)) (he:P.underlying e=some (.int .u32)) (hc:P.cellsOf e=1)
  (h:DataW.trod enc P w base spare held fuel t cs=some x) (hB:Rows.uptoBulk x.1≤B):∃l v,cs=[v]∧Dig l∧l.length≤B∧Rep w (inW w) (.nat l) v:=by
 rcases open_ints ht he hc h with ⟨rfl,rfl⟩|⟨a,len,cap,zs,rfl,_,hl,hm,hz,rfl,hcell,hwf⟩
 ·exact ⟨[],_,rfl,dig_nil,by simp,Rep.nat (l:=[]) (Rd.nil _ _) (by simp) (fun _ _ _ j hj=>by simp at hj)⟩
 ·have hlen:len≤zs.length:=by rw [hz];split <;> omega
  have hb:∀n∈zs,0≤n∧n<4294967296:=fun n hn=>by
   have:=hwf n hn
   simp [Lit.wf,IntKind.min,IntKind.max,IntKind.signed,IntKind.bits]at this
   omega
  have hl2:((zs.take len).map Int.toNat).length=len:=by simp;omega
  have hd:Dig ((zs.take len).map Int.toNat):=by
   intro y hy
   obtain ⟨n,hn,rfl⟩:=List.mem_map.1 hy
   have:=hb n (List.mem_of_mem_take hn)
   omega
  have hR:Rd w (some a) ((zs.take len).map Int.toNat):=⟨hd,fun hpos=>by
   have h0:=hcell 0 (by omega)
   rw [show a.add 0=a by simp [Addr.add]]at h0
   have ha:=cell_spot h0
   refine ⟨a.block,a.off,by rw [←ha],World.block_lt_of_cell? w a h0,fun j hj=>?_⟩
   have hj2:j<zs.length:=by omega
   have:=hcell j hj2
   rw [ha,add_addr]at this
   rw [this]
   simp only [List.getElem_map,List.getElem_take]
   have hb2:=hb zs[j] (List.getElem_mem hj2)
   rw [Int.toNat_of_nonneg hb2.1]
   simp [List.getD,List.getElem?_eq_getElem hj2]⟩
  refine ⟨(zs.take len).map Int.toNat,.slice (some a) ((zs.take len).map Int.toNat).length cap,by rw [hl2],hd,?_,.nat hR (by omega) ?_⟩
  ·rw [hl2]
   simp only [Rows.uptoBulk]at hB
   have h1:=bulk_len (lits (H:=H) .u32 (zs.take len))
   have:(lits (H:=H) .u32 (zs.take len)).length=len:=by simp [lits];omega
   omega
  ·intro b off e j hj
   obtain ⟨b',off',e',hb',_⟩:=hR.2 (by omega)
   rw [e]at e'
   cases e'
   exact hb'
def Stand (w:World) (as':List AV) (cs:List Value):Prop:=as'.length=cs.length∧∀j (h1:j<as'.length) (h2:j<cs.length),Rep w (inW w) (as'[j]'h1) (cs[j]'h2)
theorem Stand.one {a:AV} {v:Value} (h:Rep w (inW w) a v):Stand w [a] [v]:=⟨rfl,fun j h1 h2=>by
 have:j=0:=by simp at h1;exact h1
 subst this
 exact h⟩
theorem add_cell {a:Addr} {i j:Nat}:(a.add i).add j=a.add (i+j):=Go.Deep.add_add a i j
theorem open_sl {s:SH} {t e:TypeId} {fuel:Nat} {cs:List Value} {x:DataW H × List MemPlace} (ht:P.underlying t=some (.slice e)) (hc:P.cellsOf e=s.sz) (hs:0<s.sz)
  (ih:∀{n:Nat} {cs':List Value} {y:DataW H × List MemPlace},DataW.trod enc P w base spare held n e cs'=some y→Rows.uptoBulk y.1≤B→∃as',Ok B s as'∧Stand w as' cs')
  (h:DataW.trod enc P w base spare held fuel t cs=some x) (hB:Rows.uptoBulk x.1≤B):∃as',Ok B (.sl s) as'∧Stand w as' cs:=by
 rcases Go.Deep.open_slice ht h with ⟨rfl,rfl⟩|⟨a,len,cap,m,n,D,Pl,rfl,hb,hl,hm,hmm,rfl,hx⟩
 ·exact ⟨_,.sl (xs:=[]) (by simp) (fun x hx=>by simp at hx),Stand.one .nil⟩
 have hlm:len≤m:=by rw [hmm];split <;> omega
 simp only [Rows.uptoBulk]at hB
 have h1:=bulk_len ((List.range len).map D)
 have h2:((List.range len).map D).length=len:=by simp
 have hel:∀i,i<len→∃as',Ok B s as'∧∃cs',w.cells? base (a.add (i*s.sz)) s.sz=some cs'∧Stand w as' cs':=fun i hi=>by
  obtain ⟨cs',k1,k2⟩:=hx i (by omega)
  rw [hc]at k1
  have k3:Rows.uptoBulk (D i)≤Rows.uptoBulkAll ((List.range len).map D):=bulk_mem (List.mem_map.2 ⟨i,List.mem_range.2 hi,rfl⟩)
  obtain ⟨as',o1,o2⟩:=ih k2 (show Rows.uptoBulk (D i)≤B by omega)
  exact ⟨as',o1,cs',k1,o2⟩
 let A:Nat→List AV:=fun i=>if h:i<len then Classical.choose (hel i h) else []
 have hA:∀i (hi:i<len),Ok B s (A i)∧∃cs',w.cells? base (a.add (i*s.sz)) s.sz=some cs'∧Stand w (A i) cs':=fun i hi=>by
  have:=Classical.choose_spec (hel i hi)
  simp only [A,dif_pos hi]
  exact this
 let V:Nat→List Value:=fun i=>(w.cells? base (a.add (i*s.sz)) s.sz).getD []
 have hV:∀i (hi:i<len),w.cells? base (a.add (i*s.sz)) s.sz=some (V i)∧Stand w (A i) (V i):=fun i hi=>by
  obtain ⟨_,cs',k1,k2⟩:=hA i hi
  simp only [V,k1,Option.getD_some]
  exact ⟨trivial,k2⟩
 have hcl:∀i (hi:i<len) j (hj:j<s.sz),∃hv:j<(V i).length,w.cell? (a.add (i*s.sz+j))=some ((V i)[j]'hv):=fun i hi j hj=>by
  obtain ⟨_,k2,k3⟩:=World.cells?_some (hV i hi).1
  refine ⟨by omega,?_⟩
  rw [←add_cell,k3 j hj,List.getElem?_eq_getElem]
 have hE:∀i (hi:i<len),(mkEl s.sz (A i)).cells=A i:=fun i hi=>mkEl_cells hs (hA i hi).1.facts.1 (hA i hi).1.facts.2
 have hmm':((List.range len).map A).map (mkEl s.sz)=(List.range len).map fun i=>mkEl s.sz (A i):=by rw [List.map_map];rfl
 refine ⟨_,.sl (xs:=(List.range len).map A) (by simp;omega) (fun x hx=>?_),Stand.one ?_⟩
 ·obtain ⟨i,hi,rfl⟩:=List.mem_map.1 hx
  exact (hA i (List.mem_range.1 hi)).1
 ·rw [hmm']
  by_cases h0:len=0
  ·subst h0
   exact .nil
  ·obtain ⟨_,hc0⟩:=hcl 0 (by omega) 0 hs
   have hadd0:a.add (0*s.sz+0)=a:=by simp [Addr.add]
   rw [hadd0]at hc0
   have ha:=cell_spot hc0
   have hlt:=World.block_lt_of_cell? w a hc0
   have key:Rep w (inW w) (.sl s.sz ((List.range len).map fun i=>mkEl s.sz (A i))) (.slice (some ⟨a.block,a.off,none⟩) ((List.range len).map fun i=>mkEl s.sz (A i)).length cap):=by
    refine .sl (fun i j=>(V i).getD j undef) hlt (by simp;exact hl) (fun i hi=>?_) (fun i j hi hj=>?_) (fun i hi j hj=>?_)
    ·simp only [List.length_map,List.length_range]at hi
     simp only [List.getElem_map,List.getElem_range,hE i hi]
     exact (hA i hi).1.facts.1
    ·simp only [List.length_map,List.length_range]at hi
     obtain ⟨q1,q2⟩:=hcl i hi j hj
     rw [ha,add_addr]at q2
     refine ⟨?_,hlt⟩
     rw [Nat.add_assoc,q2]
     simp [List.getD,List.getElem?_eq_getElem q1]
    ·simp only [List.length_map,List.length_range]at hi
     have e0:((List.range len).map fun i=>mkEl s.sz (A i))[i]'(by simpa using hi)=mkEl s.sz (A i):=by simp
     have hj':j<(A i).length:=by
      rw [←hE i hi]
      simpa [e0]using hj
     obtain ⟨q1,q2⟩:=hcl i hi j (by rw [←(hA i hi).1.facts.1];exact hj')
     have:=(hV i hi).2.2 j hj' q1
     have e1:(V i).getD j undef=(V i)[j]:=by simp [List.getD,List.getElem?_eq_getElem q1]
     rw [e1]
     have e2:(((List.range len).map fun i=>mkEl s.sz (A i))[i]'(by simpa using hi)).cells[j]'hj=(A i)[j]:=by simp only [e0,hE i hi]
     rw [e2]
     exact this
   rw [ha]
   simpa using key
end
end Go.Proofs.YtcaahphghaddgaaGreatDoor
set_option linter.unusedSimpArgs false
set_option linter.unusedVariables false
namespace Go.Proofs.YtcaahphghaddgaaGreatDoor
open Go.ChangeShapes Go.WideShapes Go.ChangeAt Go.RowKit Lim
section
variable {H:Type} {enc:TypeId × Value→H} {P:Program} {w:World} {base:Nat} {spare:Nat→Bool} {held:Bool} {B:Nat}
theorem Stand.app {as' bs':List AV} {cs ds:List Value} (h1:Stand w as' cs) (h2:Stand w bs' ds):Stand w (as' ++ bs') (cs ++ ds):=by
 refine ⟨by rw [List.length_append,List.length_append,h1.1,h2.1],fun j k1 k2=>?_⟩
 by_cases hj:j<as'.length
 ·rw [List.getElem_append_left hj,List.getElem_append_left (by rw [←h1.1];exact hj)]
  exact h1.2 j hj _
 ·have e:cs.length=as'.length:=h1.1.symm
  rw [List.getElem_append_right (by omega),List.getElem_append_right (by omega)]
  have:=h2.2 (j-as'.length) (by simp at k1;omega) (by simp at k2;omega)
  simpa [e]using this
def OpenF (enc:TypeId × Value→H) (P:Program) (w:World) (base:Nat) (spare:Nat→Bool) (held:Bool) (B:Nat) (s:SH):Prop :=
 ∀(fs:List Field) (off n:Nat) (cs:List Value) (xs:List (DataW H × List MemPlace)),(shB P s).2 fs off=true→off+s.sz≤cs.length →
  (∀(i:Nat) (f:Field),fs[i]? = some f→DataW.trod enc P w base spare held n f.type ((cs.drop f.offset).take (P.cellsOf f.type))=xs[i]?)→xs.length=fs.length →
  Rows.uptoBulkAll (xs.map (·.1))≤B→∃as',Ok B s as'∧Stand w as' ((cs.drop off).take s.sz)
def OpenT (enc:TypeId × Value→H) (P:Program) (w:World) (base:Nat) (spare:Nat→Bool) (held:Bool) (B:Nat) (s:SH):Prop :=
 ∀(t:TypeId) (n:Nat) (cs:List Value) (x:DataW H × List MemPlace),(shB P s).1 t=true→DataW.trod enc P w base spare held n t cs=some x→Rows.uptoBulk x.1≤B→∃as',Ok B s as'∧Stand w as' cs
theorem openT_struct {s:SH} (hF:OpenF enc P w base spare held B s) {t:TypeId} {fs:Array Field} (hu:P.underlying t=some (.struct fs)) (hs:(shB P s).2 fs.toList 0=true) (hc:P.cellsOf t=s.sz)
  {n:Nat} {cs:List Value} {x:DataW H × List MemPlace} (h:DataW.trod enc P w base spare held n t cs=some x) (hB:Rows.uptoBulk x.1≤B):∃as',Ok B s as'∧Stand w as' cs:=by
 obtain ⟨xs,n,rfl,rfl,hl,hx,hf⟩:=DataW.trod_struct hu h
 rw [hc]at hl
 simp only [Rows.uptoBulk]at hB
 obtain ⟨as',h1,h2⟩:=hF fs.toList 0 n cs xs hs (by omega) (fun i f hi=>hf i f (by simpa using hi)) (by simpa using hx) (by omega)
 rw [List.drop_zero,List.take_of_length_le (by omega)]at h2
 exact ⟨as',h1,h2⟩
theorem open_sh:∀s:SH,OpenT enc P w base spare held B s∧OpenF enc P w base spare held B s
 | .int k=>⟨fun t n cs x hs h hB=>by
   simp only [shB]at hs
   split at hs
   ·rename_i k' hu
    have hs:=of_decide_eq_true hs
    subst hs
    obtain ⟨z,rfl,rfl,hw⟩:=DataW.trod_int hu h
    refine ⟨_,.int (z:=z) ?_,Stand.one (.lit rfl)⟩
    simpa [Lit.wf]using hw
   ·exact Bool.noConfusion hs,fun fs off n cs xs hs=>by simp [shB]at hs⟩
 | .bool=>⟨fun t n cs x hs h hB=>by
   simp only [shB]at hs
   split at hs
   ·rename_i hu
    obtain ⟨b,rfl,rfl⟩:=DataW.trod_bool hu h
    exact ⟨_,.bool (b:=b),Stand.one (.lit rfl)⟩
   ·exact Bool.noConfusion hs,fun fs off n cs xs hs=>by simp [shB]at hs⟩
 | .str=>⟨fun t n cs x hs h hB=>by
   simp only [shB]at hs
   split at hs
   ·rename_i hu
    obtain ⟨b,rfl,rfl,_⟩:=DataW.trod_string hu h
    simp only [Rows.uptoBulk]at hB
    refine ⟨_,.str (l:=b.data.toList) (by omega),Stand.one ?_⟩
    have e:bs b.data.toList=b:=by cases b;simp [bs]
    show Rep w _ (.lit (.string (bs b.data.toList))) (.string b)
    rw [e]
    exact .lit rfl
   ·exact Bool.noConfusion hs,fun fs off n cs xs hs=>by simp [shB]at hs⟩
 | .nat=>⟨fun t n cs x hs h hB=>by
   simp only [shB]at hs
   split at hs
   ·rename_i e hu
    split at hs
    ·rename_i he
     obtain ⟨l,v,rfl,h1,h2,h3⟩:=open_nat hu he (by simpa using hs) h hB
     exact ⟨_,.nat h1 h2,Stand.one h3⟩
    ·cases hs
   ·exact Bool.noConfusion hs,fun fs off n cs xs hs=>by simp [shB]at hs⟩
 | .sl s=>⟨fun t n cs x hs h hB=>by
   simp only [shB]at hs
   split at hs
   ·rename_i e hu
    simp only [Bool.and_eq_true,beq_iff_eq,decide_eq_true_eq]at hs
    exact open_sl hu hs.1.2 hs.2 (fun hy hb=>(open_sh s).1 e _ _ _ hs.1.1 hy hb) h hB
   ·exact Bool.noConfusion hs,fun fs off n cs xs hs=>by simp [shB]at hs⟩
 | .nil=>by
  have hF:OpenF enc P w base spare held B .nil:=fun fs off n cs xs hs hl hf hx hb=>⟨[],.nil,by simp [SH.sz],fun j h1 h2=>by simp at h1⟩
  refine ⟨fun t n cs x hs h hB=>?_,hF⟩
  simp only [shB]at hs
  split at hs
  ·rename_i fs hu
   simp only [Bool.and_eq_true,beq_iff_eq]at hs
   exact openT_struct hF hu hs.1 hs.2 h hB
  ·cases hs
 | .cons f r=>by
  have hF:OpenF enc P w base spare held B (.cons f r):=fun fs off n cs xs hs hl hf hx hb=>by
   cases fs with
   | nil=>simp [shB]at hs
   | cons g gs =>
    simp only [shB,Bool.and_eq_true,beq_iff_eq]at hs
    obtain ⟨⟨⟨ho,hg⟩,hc⟩,hr⟩:=hs
    cases xs with
    | nil=>simp at hx
    | cons x xs =>
     simp only [List.map_cons,Rows.uptoBulkAll]at hb
     simp only [SH.sz]at hl
     have h0:=hf 0 g rfl
     rw [ho,hc]at h0
     obtain ⟨as1,k1,k2⟩:=(open_sh f).1 g.type n _ x hg h0 (by omega)
     obtain ⟨as2,k3,k4⟩:=(open_sh r).2 gs (off+f.sz) n cs xs hr (by omega) (fun i q hi=>hf (i+1) q (by simpa using hi)) (by simpa using hx) (by omega)
     refine ⟨as1 ++ as2,.cons k1 k3,?_⟩
     have e:(cs.drop off).take (f.sz+r.sz)=(cs.drop off).take f.sz ++ (cs.drop (off+f.sz)).take r.sz:=by
      rw [List.take_add,List.drop_drop]
     show Stand w _ ((cs.drop off).take (f.sz+r.sz))
     rw [e]
     exact k2.app k4
  refine ⟨fun t n cs x hs h hB=>?_,hF⟩
  simp only [shB]at hs
  split at hs
  ·rename_i fs hu
   simp only [Bool.and_eq_true,beq_iff_eq]at hs
   exact openT_struct hF hu hs.1 hs.2 h hB
  ·cases hs
def SH.top:SH→List AV→AV
 | .nil,cs=>.agg cs
 | .cons _ _,cs=>.agg cs
 | _,cs=>cs.headD (.agg [])
theorem stand_top {s:SH} {t:TypeId} {v:Value} {as':List AV} {r:Reach} (hs:(shB P s).1 t=true) (ho:Ok B s as') (h:Stand w as' v.cells.toList) (hv:Value.okWide P w r base t v):Rep w (inW w) (s.top as') v:=by
 have one:∀{a:AV},as'=[a]→v.cells.toList=[v]→Rep w (inW w) a v:=fun {a} e1 e2=>by
  subst e1
  rw [e2]at h
  exact h.2 0 (by simp) (by simp)
 have agg:(∃cs,v=.agg cs)→Rep w (inW w) (.agg as') v:=fun ⟨cs,e⟩=>by
  subst e
  have h':Stand w as' cs.toList:=h
  exact .agg (by have:=h'.1;simp at this;omega) fun j hj=>by
   have:=h'.2 j hj (by have:=h'.1;simp at this ⊢;omega)
   simpa using this
 cases ho with
 | int hh =>
  simp only [shB]at hs
  split at hs
  ·rename_i hu
   obtain ⟨n,rfl⟩:=okWide_int hu hv
   exact one rfl rfl
  ·cases hs
 | bool =>
  simp only [shB]at hs
  split at hs
  ·rename_i hu
   obtain ⟨n,rfl⟩:=okWide_bool hu hv
   exact one rfl rfl
  ·cases hs
 | str hh =>
  simp only [shB]at hs
  split at hs
  ·rename_i hu
   obtain ⟨n,rfl⟩:=okWide_string hu hv
   exact one rfl rfl
  ·cases hs
 | nat h1 h2 =>
  simp only [shB]at hs
  split at hs
  ·rename_i hu
   obtain ⟨a,n,c,rfl⟩:=okWide_slice hu hv
   exact one rfl rfl
  ·cases hs
 | sl h1 h2 =>
  simp only [shB]at hs
  split at hs
  ·rename_i hu
   obtain ⟨a,n,c,rfl⟩:=okWide_slice hu hv
   exact one rfl rfl
  ·cases hs
 | nil =>
  simp only [shB]at hs
  split at hs
  ·rename_i hu
   obtain ⟨cs,e,_⟩:=okWide_struct hu hv
   exact agg ⟨cs,e⟩
  ·cases hs
 | cons h1 h2 =>
  simp only [shB]at hs
  split at hs
  ·rename_i hu
   obtain ⟨cs,e,_⟩:=okWide_struct hu hv
   exact agg ⟨cs,e⟩
  ·cases hs
inductive OkA (B:Nat):List SH→List AV→Prop
 | nil:OkA B [] []
 | cons {s:SH} {ss:List SH} {cs:List AV} {as':List AV} (h1:Ok B s cs) (h2:OkA B ss as'):OkA B (s :: ss) (s.top cs :: as')
def shAll (P:Program):List SH→List TypeId→Bool
 | [],[]=>true
 | s :: ss,t :: ts=>(shB P s).1 t && shAll P ss ts
 | _,_=>false
theorem args_open:∀(ss:List SH) (ts:List TypeId) (vs:List Value) (ds:List (DataW H)) (p:List MemPlace) (r:Reach) (b:Nat),shAll P ss ts=true→DataW.TrodAll enc P w base spare held ts vs ds p →
  (∀(j:Nat) (t:TypeId) (v:Value),ts[j]? = some t→vs[j]? = some v→Value.okWide P w r b t v)→Rows.uptoBulkAll ds≤B→∃as',OkA B ss as'∧Stand w as' vs
 | [],[],vs,ds,p,r,b,_,h,_,_=>by
  obtain ⟨rfl,rfl,rfl⟩:=trodAll_nil h
  exact ⟨[],.nil,rfl,fun j h1=>by simp at h1⟩
 | [],t :: ts,_,_,_,_,_,hs,_,_,_=>by simp [shAll]at hs
 | s :: ss,[],_,_,_,_,_,hs,_,_,_=>by simp [shAll]at hs
 | s :: ss,t :: ts,vs,ds,p,r,b,hs,h,hv,hB=>by
  obtain ⟨v,vs1,d,ds1,p1,p2,rfl,rfl,rfl,⟨n,h1⟩,h2⟩:=trodAll_cons h
  simp only [shAll,Bool.and_eq_true]at hs
  simp only [Rows.uptoBulkAll]at hB
  obtain ⟨cs,k1,k2⟩:=(open_sh s).1 t n _ _ hs.1 h1 (show Rows.uptoBulk d≤B by omega)
  obtain ⟨as',k3,k4⟩:=args_open ss ts vs1 ds1 p2 r b hs.2 h2 (fun j t v ht hv'=>hv (j+1) t v (by simpa using ht) (by simpa using hv')) (by omega)
  have hr:=stand_top hs.1 k1 k2 (hv 0 t v rfl rfl)
  exact ⟨_,.cons k1 k3,(Stand.one hr).app k4⟩
theorem stand_args {as':List AV} {args:Array Value} (h:Stand w as' args.toList):Rep w (inW w) (.agg as') (.agg args) :=
 .agg (by have:=h.1;simp at this;omega) fun j hj=>by
  have:=h.2 j hj (by have:=h.1;simp at this ⊢;omega)
  simpa using this
end
section
variable {H:Type} {enc:TypeId × Value→H} {P:Program}
theorem stay_all (hl:laidOutB P=true) {W W':World} (hb:Below W.heap.size W W'):∀(ts:List TypeId) (vs:List Value) (ds:List (DataW H)) (p:List MemPlace),ts.all (fun t=>P.readableRec t && decide (t<P.types.size))=true →
  DataW.TrodAll enc P W 0 (fun _=>true) true ts vs ds p→(∀x∈p,x.block<W.heap.size)→∀sp:Nat→Bool,(∀q∈p,sp q.block=true)→DataW.TrodAll enc P W' 0 sp true ts vs ds p
 | [],vs,ds,p,_,h,_,sp,_=>by
  obtain ⟨rfl,rfl,rfl⟩:=trodAll_nil h
  exact trodAll_mk0
 | t :: ts,vs,ds,p,ht,h,hlt,sp,hsp=>by
  obtain ⟨v,vs1,d,ds1,a,b,rfl,rfl,rfl,h1,h2⟩:=trodAll_cons h
  simp only [List.all_cons,Bool.and_eq_true,decide_eq_true_eq]at ht
  refine trodAll_cons_mk (WideElems.Trod_stays hl ht.1.1 ht.1.2 h1 (fun x hx=>hb.same (hlt x (List.mem_append_left _ hx))) (fun x hx=>hsp x (List.mem_append_left _ hx))) ?_
  exact stay_all hl hb ts vs1 ds1 b (by simpa using ht.2) h2 (fun x hx=>hlt x (List.mem_append_right _ hx)) sp (fun x hx=>hsp x (List.mem_append_right _ hx))
theorem law_end (hl:laidOutB P=true) {tb:TypeId} (hu:P.underlying tb=some .bool) {fid:FuncId} {fn:Func} {s:ChangeSpec} {apart:Bool} (hv:s.vars=[]) (hres:fn.resultTypes=#[tb]) (hts:fn.params.toList.all (fun t=>P.readableRec t && decide (t<P.types.size))=true)
  {W:World} {args:Array Value} {ds:List (DataW H)} {before:List MemPlace} (hW:DataW.Whole enc P fn.params.toList s.vars apart W args.toList ds [] before)
  (hfn:s.fn H (ds ++ [])={ results:=[.lit (.bool true)],args:=ds }) (hc:Calls P fid args W fun e W'=>e=.returned (.bool true)∧Below W.heap.size W W') :
  Calls P fid args W fun e W'=>∃v,e=.returned v∧s.post enc P fn apart true false false W args v W':=by
 have hW':=hW
 obtain ⟨p,q,hA,hV,rfl,hfz,hnd⟩:=hW
 rw [hv]at hV
 obtain ⟨_,rfl⟩:=trodVars_none hV
 refine hc.mono fun e W' ⟨he,hb⟩=>⟨.bool true,he,?_⟩
 have hlt:∀x∈p,x.block<W.heap.size:=fun x hx=>hW'.lt x (List.mem_append_left _ hx)
 have hl2:∀x∈p ++ [],x.block<W.heap.size:=fun x hx=>hW'.lt x hx
 have hA2:∀sp:Nat→Bool,(∀x∈p,sp x.block=true)→DataW.TrodAll enc P W' 0 sp true fn.params.toList args.toList (s.fn H (ds ++ [])).args p:=fun sp h=>by
  rw [hfn]
  exact stay_all hl hb _ _ _ _ hts hA hlt sp h
 have hR2:∀b sp hd,DataW.TrodAll enc P W' b sp hd fn.resultTypes.toList ((Value.bool true).resultList fn.resultTypes.size) (s.fn H (ds ++ [])).results []:=fun b sp hd=>by
  rw [hfn,hres]
  exact trodAll_cons_mk (shut_bool hu _) trodAll_mk0
 have hV2:∀sp,DataW.TrodVars enc P W' sp s.vars (s.fn H (ds ++ [])).vars []:=fun sp=>by
  rw [hfn,hv]
  rfl
 refine ⟨ds,[],p ++ [],[],p,[],hW',hR2 _ _ _,hA2 _ (fun x hx=>by simpa using hlt x hx),hV2 _,World.keptBut_mono (fun x hx=>⟨hx,.inr (List.mem_append.1 hx)⟩) (hb.frame (·∈p ++ [])),fun _ =>
  ⟨ok_one hres rfl (okWide_bool_mk hu _),_,_,([] ++ p) ++ [],⟨[] ++ p,[],trodAll_append (hA2 _ fun _ _=>rfl) (hR2 _ _ _),hV2 _,rfl,fun b off hx=>?_,fun h=>by simpa using hnd h⟩,fun x hx _=>by simpa using hx⟩⟩
 have hx2:MemPlace.cell b off∈p ++ []:=by simpa using hx
 rw [hb.frozen (hl2 _ hx2)]
 exact hfz b off hx2
end
theorem ac_calls {fid:FuncId} {avs:List AV} {W:World} {args:Array Value} (hc:AC fid avs (boo true)) (hE:Env W) (hR:Rep W (inW W) (.agg avs) (.agg args)) :
  Calls Tryz.prog fid args W fun e W'=>e=.returned (.bool true)∧Below W.heap.size W W':=by
 refine (hc.2 W _ args hE (fun _ _ h=>h) (fun _ b o v h _=>World.block_lt_of_cell? W _ h) hR).mono fun e W' ⟨v,he,hb,hr⟩=>⟨?_,hb⟩
 cases hr
 exact he
set_option maxRecDepth 100000 in
theorem law_row {H:Type} {enc:TypeId × Value→H} (hl:laidOutB Tryz.prog=true) {tb:TypeId} (hu:Tryz.prog.underlying tb=some .bool) {fid:FuncId} {fn:Func} {s:ChangeSpec} (hv:s.vars=[]) (hres:fn.resultTypes=#[tb]) (hts:fn.params.toList.all (fun t=>Tryz.prog.readableRec t && decide (t<Tryz.prog.types.size))=true)
  (ss:List SH) (hss:shAll Tryz.prog ss fn.params.toList=true) (hfn:∀ds:List (DataW H),ds.length=fn.params.toList.length→s.fn H (ds ++ [])={ results:=[.lit (.bool true)],args:=ds })
  (law:∀as',OkA 1048576 ss as'→AC fid as' (boo true))
  {W:World} {base:Nat} {args:Array Value} {ds gs:List (DataW H)} {before:List MemPlace} (hval:∀(j:Nat) t v,fn.params[j]? = some t→args[j]? = some v→Value.okWide Tryz.prog W .any base t v)
  (hW:DataW.Whole enc Tryz.prog fn.params.toList s.vars false W args.toList ds gs before) (hE:Env W) (hsm:Rows.uptoSmall H (ds ++ gs)=true) :
  Calls Tryz.prog fid args W fun e W'=>∃v,e=.returned v∧s.post enc Tryz.prog fn false true false false W args v W':=by
 have hW':=hW
 obtain ⟨p,q,hA,hV,rfl,hfz,hnd⟩:=hW
 rw [hv]at hV
 obtain ⟨rfl,rfl⟩:=trodVars_none hV
 simp only [Rows.uptoSmall,List.append_nil,decide_eq_true_eq]at hsm
 obtain ⟨as',k1,k2⟩:=args_open ss _ _ _ _ .any base hss hA (fun j t v ht hv'=>hval j t v (by simpa using ht) (by simpa using hv')) hsm
 have hlen:ds.length=fn.params.toList.length:=by
  have:∀(ts:List TypeId) (vs:List Value) (ds:List (DataW H)) (p:List MemPlace),DataW.TrodAll enc Tryz.prog W 0 (fun _=>true) true ts vs ds p→ds.length=ts.length:=by
   intro ts
   induction ts with
   | nil=>intro vs ds p h;obtain ⟨rfl,rfl,rfl⟩:=trodAll_nil h;rfl
   | cons t ts ih =>
    intro vs ds p h
    obtain ⟨v,vs1,d,ds1,p1,p2,rfl,rfl,rfl,_,h2⟩:=trodAll_cons h
    rw [List.length_cons,List.length_cons,ih _ _ _ h2]
  exact this _ _ _ _ hA
 exact law_end hl hu hv hres hts hW' (hfn ds hlen) (ac_calls (law as' k1) hE (stand_args k2))
end Go.Proofs.YtcaahphghaddgaaGreatDoor
set_option linter.unusedSimpArgs false
set_option linter.unusedVariables false
namespace Go.Proofs.YtcaahphghaddgaaGreatDoor
open Go.RowKit Lim
theorem okA_one {B:Nat} {s:SH} {as':List AV} (h:OkA B [s] as'):∃a,as'=[s.top a]∧Ok B s a:=by
 cases h with|cons h1 h2=>cases h2;exact ⟨_,rfl,h1⟩
theorem okA_more {B:Nat} {s:SH} {ss:List SH} {as':List AV} (h:OkA B (s :: ss) as'):∃a r,as'=s.top a :: r∧Ok B s a∧OkA B ss r:=by
 cases h with|cons h1 h2=>exact ⟨_,_,rfl,h1,h2⟩
def vtOf:SH→VT
 | .int k=>.int k
 | .bool=>.bool
 | .str=>.str
 | .nat=>.nat
 | .sl e=>.sl e.sz (vtOf e)
 | .nil=>.unit
 | .cons f r=>match r with
  | .nil=>vtOf f
  | r=>.pair (vtOf f) (vtOf r)
def goodV (B:Nat):(t:VT)→t.den→Prop
 | .int k,z=>k.min≤z∧z≤k.max
 | .str,s=>s.length≤B
 | .nat,l=>Dig l∧l.length≤B
 | .sl _ e,l=>l.length≤B∧∀x∈l,goodV B e x
 | .pair a b,x=>goodV B a x.1∧goodV B b x.2
 | _,_=>True
theorem map_of {α β:Type} {f:α→β} {Q:α→Prop}:∀(xs:List β),(∀x,x∈xs→∃r,x=f r∧Q r)→∃rs:List α,xs=rs.map f∧∀r∈rs,Q r
 | [],_=>⟨[],rfl,fun r hr=>by simp at hr⟩
 | x :: xs,h=>by
  obtain ⟨r,rfl,hr⟩:=h x (by simp)
  obtain ⟨rs,rfl,hrs⟩:=map_of xs (fun y hy=>h y (by simp [hy]))
  exact ⟨r :: rs,rfl,fun q hq=>by
   rcases List.mem_cons.1 hq with rfl|hq
   ·exact hr
   ·exact hrs q hq⟩
theorem Ok.den {B:Nat} {s:SH} {cs:List AV} (h:Ok B s cs):∃x:(vtOf s).den,cs=eraL (vtOf s) x∧goodV B (vtOf s) x:=by
 induction h with
 | @int k z h=>exact ⟨z,rfl,h⟩
 | @bool b=>exact ⟨b,rfl,trivial⟩
 | @str l h=>exact ⟨l,rfl,h⟩
 | @nat l h1 h2=>exact ⟨l,rfl,h1,h2⟩
 | @sl e xs h1 h2 ih =>
  obtain ⟨rs,rfl,hrs⟩:=map_of xs (fun x hx=>ih x hx)
  refine ⟨rs,?_,by simpa using h1,hrs⟩
  rw [List.map_map]
  rfl
 | nil=>exact ⟨(),rfl,trivial⟩
 | @cons f r a b h1 h2 ih1 ih2 =>
  obtain ⟨x,rfl,hx⟩:=ih1
  obtain ⟨y,rfl,hy⟩:=ih2
  cases r with
  | nil=>exact ⟨x,by simp [vtOf,eraL],hx⟩
  | _=>exact ⟨(x,y),rfl,hx,hy⟩
abbrev shI:SH:=.int .i64
abbrev shM:SH:=.cons (.sl (.sl shI)) .nil
abbrev shPI:SH:=.cons shI (.cons .str (.cons shI (.cons shI (.cons shI (.cons shI (.cons shI (.cons shI (.cons shM .nil))))))))
theorem pools_law (ha:AC 14 [] (boo true)) (as':List AV) (h:OkA 1048576 [.sl shPI,shI] as'):AC 4 as' (boo true):=by
 obtain ⟨a,r1,rfl,h1,q1⟩:=okA_more h
 obtain ⟨b,rfl,h2⟩:=okA_one q1
 obtain ⟨pool,rfl,_,hp⟩:=h1.den
 obtain ⟨k,rfl,_⟩:=h2.den
 exact pools_c ha pool k fun y hy r hr=>((hp y hy).2.2.2.2.2.2.2.2.2 r hr).1
end Go.Proofs.YtcaahphghaddgaaGreatDoor
set_option linter.unusedSimpArgs false
set_option linter.unusedVariables false
namespace Go.Proofs.YtcaahphghaddgaaGreatDoor
open Go.Shelf Go.RowKit
theorem append_str_at {P:Program} (w:World) (base:Nat) (t u ty e:TypeId) (i:TypeInfo) (ht:P.underlying t=some (.slice e)) (hu:P.underlying u=some .string) (hi:P.info? e=some i) (hz:i.zero=some (.int .u8 0)) (hsize:i.size=1) (hby:i.bytes=1)
  (v:Value) (n:Nat) (xs:List Value) (hown:w.ownsRow base e 1 v n xs) (s:ByteArray) (h63:n+s.size≤maxLen) (hbytes:n+s.size≤140737488355328) (hbase:base≤w.heap.size) :
  ∃v' w',(Builtin.append_ #[t,u] ty #[v,.string s]).run P w=.ok v' w'∧w'.ownsRow base e 1 v' (n+s.size) (xs ++ Lib.strCells s)∧w.grownBy w' v.ownBlock∧(v'.ownBlock=v.ownBlock∨∀g,v'.ownBlock=some g→w.heap.size≤g):=by
 obtain ⟨v',w',hr,h2,h3,_⟩:=Lib.run_append_own_string (P:=P) w base t u ty e i ht hu hi hz hsize hby v n xs hown s h63 hbytes hbase
 refine ⟨v',w',hr,h2,h3,?_⟩
 rcases hown.2 with ⟨rfl,rfl⟩|⟨g,cap,cur,rfl,hbg,hg,hnc,hcm,hcs,htake⟩
 ·have hx:xs=[]:=List.eq_nil_of_length_eq_zero (by simpa using hown.1)
  subst hx
  obtain ⟨v2,w2,hr2,k2,_⟩:=Lib.run_append_own_string (P:=P) w w.heap.size t u ty e i ht hu hi hz hsize hby _ 0 [] (World.ownsRow_nil w w.heap.size e 1) s h63 hbytes (Nat.le_refl _)
  have e1:=hr.symm.trans hr2
  cases e1
  exact .inr fun g hg=>(k2.lt g hg).1
 ·by_cases hroom:n+s.size≤cap
  ·have hr2:=Lib.run_append_room_string (P:=P) w t u ty e i ht hu hi hsize g n cap cur hg s hroom (by omega)
   have e1:=hr.symm.trans hr2
   cases e1
   exact .inl rfl
  ·have hxl:xs.length=n:=by simpa using hown.1
   have hr2:=Lib.run_append_grow_string (P:=P) w t u ty e i (.int .u8 0) ht hu hi hz ⟨g,0,none⟩ n cap xs (by rw [hsize];simpa using hxl) (hown.cells (g:=g) rfl) s (by omega) (by simp only [maxLen]at h63;omega) (by rw [hby];exact growslice_fits (by omega) (by omega))
   have e1:=hr.symm.trans hr2
   cases e1
   refine .inr fun g' hg'=>?_
   simp only [Value.ownBlock,Option.some.injEq]at hg'
   omega
structure Bld (T e:TypeId) (B b:Nat) (v:Value) (bs:List Value) (w:World):Prop where
 hB:B≤b
 heap:w.heap[b]? = some (.cells #[.pointer none,v] T (0,0))∨w.heap[b]? = some (.cells #[.pointer (some ⟨b,0,none⟩),v] T (0,0))
 own:w.ownsRow B e 1 v bs.length bs
 ne:v.ownBlock≠some b
structure BFrame (b:Nat) (v:Value) (w w':World):Prop where
 os:w'.os=w.os
 tape:w'.tape=w.tape
 output:w'.output=w.output
 size:w.heap.size≤w'.heap.size
 block:∀k,k<w.heap.size→k≠b→v.ownBlock≠some k→w'.heap[k]? = w.heap[k]?
theorem wpList_append_str {P:Program} {w:World} {ops:Array Oper} {rest:List Oper} {o:Oper} {a:Act} {Q:Exit→Act→World→Prop} (hgd:o.guard=none) (sl x:Operand) (t u:TypeId)
  (ho:o.op=.call { callee:=.builtin .append,args:=#[sl,x],argTypes:=#[t,u] })
  (base:Nat) (e:TypeId) (i:TypeInfo) (ht:P.underlying t=some (.slice e)) (hu:P.underlying u=some .string) (hi:P.info? e=some i) (hz:i.zero=some (.int .u8 0))
  (hsize:i.size=1) (hby:i.bytes=1)
  (v:Value) (n:Nat) (xs:List Value) (hs:a.eval sl=v) (hown:w.ownsRow base e 1 v n xs) (s:ByteArray) (hx:a.eval x=.string s)
  (h63:n+s.size≤maxLen) (hbytes:n+s.size≤140737488355328) (hbase:base≤w.heap.size)
  (h:∀v' w',w'.ownsRow base e 1 v' (n+s.size) (xs ++ Lib.strCells s)→w.grownBy w' v.ownBlock→(v'.ownBlock=v.ownBlock∨∀g,v'.ownBlock=some g→w.heap.size≤g)→wpList P ops Q rest (a.put o.dst v') w'):wpList P ops Q (o :: rest) a w:=by
 refine wpList_plain hgd fun K hK=>?_
 obtain ⟨v',w',hr,h2,h3,h4⟩:=append_str_at (P:=P) w base t u o.type e i ht hu hi hz hsize hby v n xs hown s h63 hbytes hbase
 unfold Oper.wp execOp
 simp only [ho,resolve,invoke,builtin,Sem.run_bind,Sem.run_pure,Result.andThen_ok,List.map_toArray,List.map_cons,List.map_nil,hs,hx,hr]
 exact hK _ _ (h v' w' h2 h3 h4)
section
variable {P:Program} {ρ:Go.Shelf.Ren}
theorem check_at (L:Lays.n240 P ρ) (X:Builder.X72 P ρ) {B b:Nat} {v:Value} {bs:List Value} {w:World} (h:Bld (ρ.t 72) (ρ.t 5) B b v bs w) :
  Calls P (ρ.f 240) #[.pointer (some ⟨b,0,none⟩)] w fun e w'=>e=.returned (.tuple #[])∧w'.heap[b]? = some (.cells #[.pointer (some ⟨b,0,none⟩),v] (ρ.t 72) (0,0))∧w'.ownsRow B (ρ.t 5) 1 v bs.length bs∧BFrame b v w w'∧w'.heap.size=w.heap.size:=by
 rcases h.heap with hb|hb
 ·refine (Any.Builder_copyCheck_fresh L X b w (by rw [Lib.cell_of_heap hb];rfl) (by simp [World.shape?,hb]) (Lib.frozen_of_heap hb 0)).mono ?_
  rintro e w' ⟨rfl,rfl⟩
  have hk:∀k,k≠b→(w.setCell ⟨b,0,none⟩ (.pointer (some ⟨b,0,none⟩))).heap[k]? = w.heap[k]?:=fun k hk=>Below.heap_setCell _ _ _ _ hk
  refine ⟨rfl,?_,?_,⟨rfl,rfl,rfl,by simp [World.setCell],fun k _ h1 _=>hk k h1⟩,by simp [World.setCell]⟩
  ·simp [World.setCell,Array.getElem?_modify,hb]
  ·exact h.own.kept (row:=some b) ⟨rfl,rfl,rfl,by simp [World.setCell],fun k _ h1=>hk k fun e=>h1 (by simp [e])⟩ (Or.inr h.ne)
 ·refine (Any.Builder_copyCheck_used L X b w (by rw [Lib.cell_of_heap hb];rfl)).mono ?_
  rintro e w' ⟨rfl,rfl⟩
  exact ⟨rfl,hb,h.own,⟨rfl,rfl,rfl,Nat.le_refl _,fun _ _ _ _=>rfl⟩,rfl⟩
set_option maxHeartbeats 2000000 in
set_option maxRecDepth 100000 in
theorem write_at (L:Lays.n166 P ρ) (X:Builder.Extra P ρ) {B b:Nat} {v:Value} {bs:List Value} {w:World} (h:Bld (ρ.t 72) (ρ.t 5) B b v bs w) (s:ByteArray) (hlen:bs.length+s.size≤140737488355328) (hBw:B≤w.heap.size) :
  Calls P (ρ.f 166) #[.pointer (some ⟨b,0,none⟩),.string s] w fun e w'=>e=.returned (.tuple #[.int .i64 s.size,.nilIface])∧∃v',Bld (ρ.t 72) (ρ.t 5) B b v' (bs ++ Lib.strCells s) w'∧BFrame b v w w'∧(v'.ownBlock=v.ownBlock∨∀g,v'.ownBlock=some g→w.heap.size≤g):=by
 obtain ⟨i0,hi,hz0,hz1,hz2⟩:=info_parts X.infoByte
 have mixed:=L.mixed
 have t72:=L.t72;have a72:=L.a72;have z72:=L.z72;have v72:=L.v72;have u72:=run_underlying L.t72
 have t70:=L.t70;have a70:=L.a70;have z70:=L.z70;have v70:=L.v70;have u70:=run_underlying L.t70
 have t37:=L.t37;have a37:=L.a37;have z37:=L.z37;have v37:=L.v37;have u37:=run_underlying L.t37
 have t3:=L.t3;have a3:=L.a3;have z3:=L.z3;have v3:=L.v3;have u3:=run_underlying L.t3
 have t9:=L.t9;have a9:=L.a9;have z9:=L.z9;have v9:=L.v9;have u9:=run_underlying L.t9
 have t4:=L.t4;have a4:=L.a4;have z4:=L.z4;have v4:=L.v4;have u4:=run_underlying L.t4
 have t164:=L.t164;have a164:=L.a164;have z164:=L.z164;have v164:=L.v164;have u164:=run_underlying L.t164
 have t5:=X.t5;have a5:=X.a5;have z5:=X.z5;have v5:=X.v5;have u5:=run_underlying X.t5
 have e240:∀args w,(callFunc (ρ.f 240) args).run P w=.ok (.enter (ρ.f 240) args) w:=enters_of L.f240 (by kernel_rfl) rfl
 obtain ⟨hlt,hgt⟩:b<w.heap.size∧∀g,v.ownBlock=some g→g<w.heap.size:=⟨by
  rcases h.heap with hb|hb <;> exact (Array.getElem?_eq_some_iff.1 hb).1,fun g hg=>(h.own.lt g hg).2⟩
 have hB:=h.hB
 have hne:=h.ne
 go_enter L.f166,Body.n166_ntmps ρ
 go_wp2_with (go_at_fn (ρ.f 240);refine (check_at { L with } X.toX72 h).mono ?_)
 rintro e w1 ⟨rfl,hbk,hown,hf1,hs1⟩
 have c0:w1.cell? ⟨b,0,none⟩=some (.pointer (some ⟨b,0,none⟩)):=by rw [Lib.cell_of_heap hbk];rfl
 have c1:w1.cell? ⟨b,1,none⟩=some v:=by rw [Lib.cell_of_heap hbk];rfl
 go_wp2_with (at_builtin;refine wpList_append_str rfl _ _ (ρ.t 37) (ρ.t 9) rfl B (ρ.t 5) i0 L.t37 L.t9 hi hz0 hz1 hz2 _ _ _ rfl hown s rfl ?c3 ?c4 ?c5 ?_)
 case c3=>unfold maxLen;omega
 case c4=>omega
 case c5=>omega
 intro v' w2 hown' hgrow hat
 have hb2:w2.heap[b]? = some (.cells #[.pointer (some ⟨b,0,none⟩),v] (ρ.t 72) (0,0)):=by
  rw [hgrow.block b (by omega) (fun e=>hne e.symm)]
  exact hbk
 have d0:w2.cell? ⟨b,0,none⟩=some (.pointer (some ⟨b,0,none⟩)):=by rw [Lib.cell_of_heap hb2];rfl
 have d1:w2.cell? ⟨b,1,none⟩=some v:=by rw [Lib.cell_of_heap hb2];rfl
 have f1:w2.frozen? ⟨b,1,none⟩=false:=Lib.frozen_of_heap hb2 1
 obtain ⟨ao,n',cap,rfl⟩:∃ao n' cap,v'=.slice ao n' cap:=by
  rcases hown'.2 with ⟨hv,_⟩|⟨g,cap,cur,hv,_⟩
  ·exact ⟨_,_,_,hv⟩
  ·exact ⟨_,_,_,hv⟩
 have hne':=Lib.ownBlock_ne hown' hb2 X.neB5
 have hk:∀k,k≠b→(w2.setCell ⟨b,1,none⟩ (.slice ao n' cap)).heap[k]? = w2.heap[k]?:=fun k hk=>Below.heap_setCell _ _ _ _ hk
 go_wp2
 go_ret2
 refine ⟨rfl,.slice ao n' cap,⟨hB,.inr ?_,?_,hne'⟩,⟨hgrow.os.trans hf1.os,hgrow.tape.trans hf1.tape,hgrow.output.trans hf1.output,?_,fun k h1 h2 h3=>?_⟩,?_⟩
 ·simp [World.setCell,Array.getElem?_modify,hb2]
 ·have:=hown'.kept (row:=some b) (w':=w2.setCell ⟨b,1,none⟩ (.slice ao n' cap)) ⟨rfl,rfl,rfl,by simp [World.setCell],fun k _ h1=>hk k fun e=>h1 (by simp [e])⟩ (Or.inr hne')
  simpa [Lib.strCells_length]using this
 ·have:=hgrow.size
  simp only [World.setCell,Array.size_modify]
  omega
 ·rw [hk k h2,hgrow.block k (by omega) (fun e=>h3 e.symm),hf1.block k h1 h2 h3]
 ·rcases hat with hat|hat
  ·exact .inl hat
  ·exact .inr fun g hg=>by have:=hat g hg;omega
end
end Go.Proofs.YtcaahphghaddgaaGreatDoor
set_option linter.unusedSimpArgs false
set_option linter.unusedVariables false
namespace Go.Proofs.YtcaahphghaddgaaGreatDoor
open Go.Shelf Go.RowKit Lim
abbrev tBl:TypeId:=Tryz.lays156_ren.t 72
abbrev tBy:TypeId:=Tryz.lays156_ren.t 5
theorem lays166':Lays.n166 Tryz.prog Tryz.lays156_ren:={ Tryz.lays156 with }
theorem wstr {B b:Nat} {v:Value} {bs:List Value} {w:World} (h:Bld tBl tBy B b v bs w) (s:ByteArray) (hlen:bs.length+s.size≤140737488355328) (hBw:B≤w.heap.size) :
  Calls Tryz.prog 31 #[.pointer (some ⟨b,0,none⟩),.string s] w fun e w'=>e=.returned (.tuple #[.int .i64 s.size,.nilIface])∧∃v',Bld tBl tBy B b v' (bs ++ Lib.strCells s) w'∧BFrame b v w w'∧(v'.ownBlock=v.ownBlock∨∀g,v'.ownBlock=some g→w.heap.size≤g) :=
 write_at lays166' Tryz.Builder_Extra_156 h s hlen hBw
theorem wget {B b:Nat} {v:Value} {l:List UInt8} {w:World} (h:Bld tBl tBy B b v (Lib.byteCells l) w) (hBw:B≤w.heap.size) :
  Calls Tryz.prog 34 #[.pointer (some ⟨b,0,none⟩)] w fun e w'=>e=.returned (.string (bs l))∧Below B w w' :=
 Tryz.Builder_String_any B b l w (h.heap.elim (fun hh=>.inl ⟨h.hB,v,hh,h.own,h.ne⟩) fun hh=>.inr ⟨h.hB,v,hh,h.own,h.ne⟩) hBw
theorem Bld.below {T e:TypeId} {B b:Nat} {v:Value} {bs:List Value} {w w':World} (h:Bld T e B b v bs w) (hb:Below w.heap.size w w'):Bld T e B b v bs w':=by
 have hlt:b<w.heap.size:=by rcases h.heap with hh|hh <;> exact (Array.getElem?_eq_some_iff.1 hh).1
 refine ⟨h.hB,?_,h.own.kept (row:=none) ⟨hb.os,hb.tape,hb.output,hb.size,fun k hk _=>hb.block k hk⟩ (by cases v.ownBlock <;> simp),h.ne⟩
 rw [hb.block b hlt]
 exact h.heap
theorem BFrame.below {B b:Nat} {v:Value} {w w':World} (h:BFrame b v w w') (hB:B≤w.heap.size) (hb:B≤b) (hv:∀g,v.ownBlock=some g→B≤g):Below B w w' :=
 ⟨h.os,h.tape,h.output,h.size,fun k hk=>h.block k (by omega) (by omega) fun e=>by have:=hv k e;omega⟩
theorem BFrame.keeps {Z:Zone} {b:Nat} {v:Value} {w w':World} (h:BFrame b v w w') (hb:∀o,¬Z b o) (hv:∀g,v.ownBlock=some g→∀o,¬Z g o):Keeps Z w w' :=
 ⟨h.size,fun k o x hz hc=>(World.cell?_of_block (a:=⟨k,o,none⟩) (h.block k (World.block_lt_of_cell? w _ hc) (fun e=>hb o (e ▸ hz)) fun e=>hv k e o hz)).trans hc⟩
theorem env_below {w w':World} (hE:Env w) (hb:Below w.heap.size w w'):Env w' :=
 ctx.hE w w' hb.size (fun b h1 h2=>hb.block b h2) hE
theorem Rep.row1 {w:World} {Z:Zone} {ds:List AV} {v:Value} (h:Rep w Z (.sl 1 ds) v) (h1:∀d∈ds,d.one=true):∃A c,v=.slice A ds.length c∧∀i (hi:i<ds.length),∃b off u,A=some ⟨b,off,none⟩∧w.cell? ⟨b,off+i,none⟩=some u∧Z b (off+i)∧Rep w Z (ds[i]'hi) u:=by
 cases h with
 | nil=>exact ⟨_,_,rfl,fun i hi=>by simp at hi⟩
 | sl vs hb hc hk hm hr =>
  refine ⟨_,_,rfl,fun i hi=>⟨_,_,vs i 0,rfl,?_,?_,?_⟩⟩
  ·have:=(hm i 0 hi (by omega)).1
   simpa using this
  ·have:=(hm i 0 hi (by omega)).2
   simpa using this
  ·have e:=AV.cells_one (h1 _ (List.getElem_mem hi))
   have:=hr i hi 0 (by rw [e];simp)
   simpa [e]using this
def wrt (t0:List UInt8) (ls:List (List UInt8)):List UInt8:=t0 ++ [10] ++ ls.flatMap fun l=>l ++ [10]
theorem wrt_step (t0:List UInt8) (ls:List (List UInt8)) (k:Nat) (l:List UInt8) (h:ls[k]? = some l):wrt t0 (ls.take (k+1))=wrt t0 (ls.take k) ++ (l ++ [10]):=by
 unfold wrt
 rw [List.take_add_one,h]
 simp
theorem wrt_le (t0:List UInt8) (ls:List (List UInt8)) (k:Nat):(wrt t0 (ls.take k)).length≤(wrt t0 ls).length:=by
 conv=>rhs;rw [←List.take_append_drop k ls]
 unfold wrt
 simp only [List.length_append,List.flatMap_append]
 omega
theorem cells_str (l:List UInt8):Lib.strCells (bs l)=Lib.byteCells l:=rfl
theorem byteCells_app (a b:List UInt8):Lib.byteCells (a ++ b)=Lib.byteCells a ++ Lib.byteCells b:=by simp [Lib.byteCells]
end Go.Proofs.YtcaahphghaddgaaGreatDoor
set_option linter.unusedSimpArgs false
set_option linter.unusedVariables false
namespace Go.Proofs.YtcaahphghaddgaaGreatDoor
open Go.Shelf Go.RowKit Lim
theorem rep_1 {w:World} {Z:Zone} {a:AV} {v:Value} (h:Rep w Z a v):Rep w Z (.agg [a]) (.agg #[v]) :=
 .agg rfl fun j hj=>by
  match j with
  | 0=>exact h
  | j+1=>simp at hj
theorem rep_2 {w:World} {Z:Zone} {a b:AV} {v u:Value} (h:Rep w Z a v) (k:Rep w Z b u):Rep w Z (.agg [a,b]) (.agg #[v,u]) :=
 .agg rfl fun j hj=>by
  match j with
  | 0=>exact h
  | 1=>exact k
  | j+2=>exact absurd hj (by simp)
theorem spec_of {w:World} {Z:Zone} {L:Int} {k:Nat} {rs:List AV} {vs:Array Value} (h:Rep w Z (.agg [.agg [i64 L,.sl k rs]]) (.agg vs)):∃A c,vs=#[.agg #[.int .i64 L,.slice A rs.length c]]:=by
 obtain ⟨h1,h2⟩:=Rep.agg_iff.1 h
 have h3:=h2 0 _ _ rfl (Array.getElem?_eq_getElem (by rw [h1];simp))
 generalize hx:vs[0]'(by rw [h1];simp)=x at h3
 obtain rfl:vs=#[x]:=by
  apply Array.ext
  ·exact h1
  ·intro i hi _
   have:i=0:=by rw [h1]at hi;simpa using hi
   subst this
   exact hx
 cases h3 with
 | @agg cs us hl hr =>
  have g0:=hr 0 (by simp)
  have g1:=hr 1 (by simp)
  have e0:us[0]'(by rw [hl];simp)=.int .i64 L:=g0.lit_eq
  obtain ⟨A,c,e1⟩:∃A c,us[1]'(by rw [hl];simp)=.slice A rs.length c:=by
   generalize us[1]'(by rw [hl];simp)=y at g1
   cases g1 with
   | nil=>exact ⟨_,_,rfl⟩
   | sl=>exact ⟨_,_,rfl⟩
  refine ⟨A,c,?_⟩
  congr 1
  congr 1
  congr 1
  apply Array.ext
  ·exact hl
  ·intro i hi _
   have:i<2:=by rw [hl]at hi;simpa using hi
   match i,this with
   | 0,_=>exact e0
   | 1,_=>exact e1
set_option maxHeartbeats 4000000 in
set_option maxRecDepth 100000 in
theorem print_c {L:Int} {k:Nat} {rs:List AV} {t0:List UInt8} {ds:List AV} {ls:List (List UInt8)}
  (hV:AT 12 [.agg [i64 L,.sl k rs]] (i64 0))
  (hT:AT 32 [str [108,101,110,103,116,104],.sl 1 [i64 L]] (str t0))
  (hD:AT 33 [.agg [i64 L,.sl k rs]] (.sl 1 ds))
  (h1:∀d∈ds,d.one=true)
  (hM : ∀ i (hi : i < ds.length), ∃ ty a a' f l, ds[i]'hi = .ifc ty a ∧ ls[i]? = some l ∧ Meth Tryz.prog ty "examboard/blueprint.line" a f a' ∧ AT f [a'] (str l))
  (hn:ls.length=ds.length) (hs:ds.length≤1048576) (hlen:(wrt t0 ls).length≤140737488355328) :
  AT 10 [.agg [i64 L,.sl k rs]] (.tup [str (wrt t0 ls),i64 0]):=by
 refine ⟨⟨_,Tryz.func10,by kernel_rfl,by kernel_rfl⟩,fun w Z vs hE hz _ hrep=>?_⟩
 obtain ⟨A,c,rfl⟩:=spec_of hrep
 have hcall:∀{f:FuncId} {args:List AV} {r:AV},AT f args r→∀(w':World) (Z':Zone) (vs:Array Value),Below w.heap.size w w'→(∀b o,Z' b o→b<w'.heap.size)→Rep w' Z' (.agg args) (.agg vs)→Calls Tryz.prog f vs w' fun e w2=>∃v,e=.returned v∧Below w'.heap.size w' w2∧Rep w2 (grown Z' w' w2) r v :=
  fun h w' Z' vs hb hz' hr=>h.2 w' Z' vs (env_below hE hb) hz' (fun h=>by cases h) hr
 change Calls Tryz.prog _ _ w _
 go_enter Tryz.func10,Tryz.ntmps10
 go_wp2_with (go_at_call 12;refine (hcall hV _ Z _ ?hb ?hz ?hr).mono ?_)
 case hb=>exact (Below.refl _ _).alloc (Nat.le_refl _) _
 case hz=>exact fun b o h=>by have:=hz b o h;simp;omega
 case hr=>exact hrep.keep (Keeps.ofBelow ((Below.refl _ _).alloc (Nat.le_refl _) _)) fun _ _ h=>h
 rintro e w2 ⟨v,rfl,hb2,hr2⟩
 obtain rfl:=hr2.lit_eq
 have hB2:Below w.heap.size w w2:=((Below.refl _ _).alloc (Nat.le_refl _) _).trans (hb2.mono (by simp))
 have hs2:w.heap.size<w2.heap.size:=by have:=hb2.size;simp at this;omega
 have hx2:w2.heap[w.heap.size]? = some (.cells #[.int .i64 L,.slice A rs.length c] 24 (0,0)):=by
  rw [hb2.block _ (by simp)]
  exact heap_alloc_new w _
 clear hb2 hr2
 have c0:w2.cell? ⟨w.heap.size,0,none⟩=some (.int .i64 L):=by rw [Lib.cell_of_heap hx2];rfl
 have c1:w2.cell? ⟨w.heap.size,1,none⟩=some (.slice A rs.length c):=by rw [Lib.cell_of_heap hx2];rfl
 go_wp2_with (go_at_call 32;refine (hcall hT _ (fun b _=>b=w2.heap.size+1) _ ?hb ?hz ?hr).mono ?_)
 case hb=>exact (hB2.alloc hB2.size _).alloc (by simp;have:=hB2.size;omega) _
 case hz=>exact fun b o h=>by (have h:b=w2.heap.size+1:=h);simp;omega
 case hr =>
  have hcell:((w2.alloc (.cells #[.pointer none,.slice none 0 0] tBl)).alloc (.cells #[.int .i64 L] 3)).cell? ⟨w2.heap.size+1,0,none⟩=some (.int .i64 L):=by
   have:=heap_alloc_new (w2.alloc (.cells #[.pointer none,.slice none 0 0] tBl)) (.cells #[.int .i64 L] 3)
   rw [show (w2.alloc (.cells #[.pointer none,.slice none 0 0] tBl)).heap.size=w2.heap.size+1 by simp]at this
   rw [Lib.cell_of_heap this]
   rfl
  refine rep_2 (.lit rfl) (.sl (fun _ _=>.int .i64 L) (by simp) (Nat.le_refl _) (fun i hi=>?_) (fun i j hi hj=>?_) fun i hi j hj=>?_)
  ·match i with
   | 0=>rfl
   | i+1=>exact absurd hi (by simp)
  ·have hi:i<1:=hi
   obtain rfl:i=0:=by omega
   obtain rfl:j=0:=by omega
   exact ⟨hcell,rfl⟩
  ·match i with
   | 0 =>
    match j with
    | 0=>exact .lit rfl
    | j+1=>exact absurd hj (by simp [AV.cells])
   | i+1=>exact absurd hi (by simp)
 rintro e w4 ⟨v,rfl,hb4,hr4⟩
 obtain rfl:=hr4.lit_eq
 have hs4:w2.heap.size+2≤w4.heap.size:=by have:=hb4.size;simp at this;omega
 have hB4:Below w.heap.size w w4:=((hB2.alloc hB2.size _).alloc (by simp;have:=hB2.size;omega) _).trans (hb4.mono (by simp;omega))
 have hx4:w4.heap[w.heap.size]? = some (.cells #[.int .i64 L,.slice A rs.length c] 24 (0,0)):=by
  rw [hb4.block _ (by simp;omega),Lib.alloc_old _ _ _ (by simp;omega),Lib.alloc_old _ _ _ (by omega)]
  exact hx2
 have hy4:w4.heap[w2.heap.size]? = some (.cells #[.pointer none,.slice none 0 0] tBl (0,0)):=by
  rw [hb4.block _ (by simp;omega),Lib.alloc_old _ _ _ (by simp)]
  exact heap_alloc_new w2 _
 clear hb4 hr4
 have hbl:Bld tBl tBy w.heap.size w2.heap.size (.slice none 0 0) [] w4:=⟨by omega,.inl hy4,World.ownsRow_nil _ _ _ _,by simp [Value.ownBlock]⟩
 have ht0:t0.length+1≤140737488355328:=by
  have:=wrt_le t0 ls 0
  simp only [wrt,List.take_zero,List.flatMap_nil,List.append_nil,List.length_append,List.length_singleton]at this hlen
  omega
 have hz0:(bs t0).size=t0.length:=bs_size t0
 have hcat:(bs t0).size+1≤9223372036854775807:=by omega
 go_wp2_with (go_at_call 31;refine (wstr hbl _ ?h1 ?h2).mono ?_)
 case h1=>simp only [List.length_nil,ByteArray.size_append,hz0];show 0+(t0.length+1)≤_;omega
 case h2=>omega
 rintro e w5 ⟨rfl,v5,hbl5,hf5,_⟩
 have hB5:Below w.heap.size w w5:=hB4.trans (hf5.below (by omega) (by omega) fun g hg=>by simp [Value.ownBlock]at hg)
 have hs5:w2.heap.size+2≤w5.heap.size:=by have:=hf5.size;omega
 have hx5:w5.heap[w.heap.size]? = some (.cells #[.int .i64 L,.slice A rs.length c] 24 (0,0)):=by
  rw [hf5.block _ (by omega) (by omega) (by simp [Value.ownBlock])]
  exact hx4
 replace hbl5:Bld tBl tBy w.heap.size w2.heap.size v5 (Lib.byteCells (wrt t0 (ls.take 0))) w5:=by
  have e:bs t0 ++ (⟨#[10]⟩:ByteArray)=bs (t0 ++ [10]):=bs_app t0 [10]
  rw [e,cells_str,List.nil_append]at hbl5
  simpa [wrt]using hbl5
 clear hf5 hbl hx4 hy4 c0 c1 hx2
 have c0:w5.cell? ⟨w.heap.size,0,none⟩=some (.int .i64 L):=by rw [Lib.cell_of_heap hx5];rfl
 have c1:w5.cell? ⟨w.heap.size,1,none⟩=some (.slice A rs.length c):=by rw [Lib.cell_of_heap hx5];rfl
 go_wp2_with (go_at_call 33;refine (hcall hD _ Z _ ?hb ?hz ?hr).mono ?_)
 case hb=>exact hB5
 case hz=>exact fun b o h=>Nat.lt_of_lt_of_le (hz b o h) hB5.size
 case hr=>exact hrep.keep (Keeps.ofBelow hB5) fun _ _ h=>h
 rintro e w6 ⟨v,rfl,hb6,hr6⟩
 obtain ⟨A',c',rfl,hget⟩:=hr6.row1 h1
 have hB6:Below w.heap.size w w6:=hB5.trans (hb6.mono hB5.size)
 have hbl6:=hbl5.below hb6
 have hlen6:((ds.length:Nat):Int)≤9223372036854775807:=by omega
 go_wp2
 have hzb:∀o,¬grown Z w5 w6 w2.heap.size o:=fun o h=>by
  rcases h with h|h
  ·have:=hz _ _ h;omega
  ·omega
 have hz6:∀b o,grown Z w5 w6 b o→b<w6.heap.size:=fun b o h=>by
  rcases h with h|h
  ·have:=hz _ _ h;have:=hB6.size;omega
  ·exact h.2
 have hv6:∀g,v5.ownBlock=some g→∀o,¬grown Z w5 w6 g o:=fun g hg o h=>by
  obtain ⟨q1,q2⟩:=hbl5.own.lt g hg
  rcases h with h|h
  ·have:=hz _ _ h;omega
  ·omega
 generalize grown Z w5 w6=Zd at *
 go_loopw [22] (fun i wl=>∃(k:Nat) (v:Value),i=.int .i64 k∧k≤ds.length∧Bld tBl tBy w.heap.size w2.heap.size v (Lib.byteCells (wrt t0 (ls.take k))) wl∧(∀g,v.ownBlock=some g→∀o,¬Zd g o)∧Keeps Zd w6 wl∧Below w.heap.size w wl) (fun i wl=>ds.length-(intOf i).toNat)
 case atStart=>exact ⟨0,v5,rfl,Nat.zero_le _,hbl6,hv6,Keeps.refl _ _,hB6⟩
 case round =>
  obtain ⟨j,v,rfl,hj,hbl,hv,hkp,hbw⟩:=hrel
  by_cases hlt:j<ds.length
  ·obtain ⟨b',off,u,rfl,hcl,hzc,hrp⟩:=hget j hlt
   obtain ⟨ty,a,a',f,l,e1,e2,hme,hat⟩:=hM j hlt
   rw [e1]at hrp
   obtain ⟨u',rfl,hru⟩:∃u',u=.iface ty u'∧Rep w6 Zd a u':=by
    cases hrp with|ifc hr=>exact ⟨_,rfl,hr⟩
   have hcl':wr.cell? ⟨b',off+j,none⟩=some (.iface ty u'):=hkp.zone _ _ _ hzc hcl
   obtain ⟨v',hm,hr'⟩:=hme wr Zd u' (hru.keep hkp fun _ _ h=>h)
   rw [show Tryz.prog.types.size+Made.depth=373 by kernel_rfl]at hm
   have hlw:(wrt t0 (ls.take (j+1))).length≤140737488355328:=Nat.le_trans (wrt_le t0 ls (j+1)) hlen
   have hst:=wrt_step t0 ls j l e2
   rw [hst,List.length_append,List.length_append,List.length_singleton]at hlw
   go_wp2_with fail
   rw [run_enter (P:=Tryz.prog) hat.1,Oper.upon_enter]
   refine (hcall hat wr Zd _ hbw (fun b o h=>Nat.lt_of_lt_of_le (hz6 b o h) hkp.size) (rep_1 hr')).mono ?_
   rintro e w7 ⟨x,rfl,hb7,hr7⟩
   obtain rfl:=hr7.lit_eq
   have hz1:(bs l).size=l.length:=bs_size l
   have hcat1:(bs l).size+1≤9223372036854775807:=by omega
   have hbl7:=hbl.below hb7
   have hbs:b'<wr.heap.size:=World.block_lt_of_cell? wr _ hcl'
   have hbb:w2.heap.size<wr.heap.size:=by rcases hbl.heap with h|h <;> exact (Array.getElem?_eq_some_iff.1 h).1
   clear hm
   go_wp2_with (go_at_call 31;refine (wstr hbl7 _ ?h1 ?h2).mono ?_)
   case h1=>simp only [Lib.byteCells_length,ByteArray.size_append,hz1];show _+(l.length+1)≤_;omega
   case h2=>have:=hbw.size;have:=hb7.size;omega
   rintro e w8 ⟨rfl,v8,hbl8,hf8,hat8⟩
   have hv7:∀g,v.ownBlock=some g→w.heap.size≤g:=fun g hg=>(hbl.own.lt g hg).1
   have hB8:Below w.heap.size w w8:=(hbw.trans (hb7.mono hbw.size)).trans (hf8.below (by have:=hbw.size;have:=hb7.size;omega) (by omega) hv7)
   replace hbl8:Bld tBl tBy w.heap.size w2.heap.size v8 (Lib.byteCells (wrt t0 (ls.take (j+1)))) w8:=by
    have e:bs l ++ (⟨#[10]⟩:ByteArray)=bs (l ++ [10]):=bs_app l [10]
    rw [e,cells_str,←byteCells_app,←hst]at hbl8
    exact hbl8
   have hk8:Keeps Zd w6 w8:=by
    have q1:Keeps Zd wr w7:=Keeps.ofBelow hb7
    have q2:Keeps Zd w7 w8:=hf8.keeps hzb hv
    exact ⟨Nat.le_trans hkp.size (Nat.le_trans q1.size q2.size),fun b o x h1 h2=>q2.zone b o x h1 (q1.zone b o x h1 (hkp.zone b o x h1 h2))⟩
   have hv8:∀g,v8.ownBlock=some g→∀o,¬Zd g o:=fun g hg o h=>by
    rcases hat8 with h8|h8
    ·exact hv g (h8 ▸ hg) o h
    ·have:=h8 g hg;have:=hz6 g o h;have:=hkp.size;have:=hb7.size;omega
   go_wp2
   refine ⟨⟨j+1,v8,by simp,by omega,hbl8,hv8,hk8,hB8⟩,?_⟩
   simp only [intOf]
   omega
  ·obtain rfl:j=ds.length:=by omega
   go_wp2_with (go_at_call 34;refine (wget hbl ?h1).mono ?_)
   case h1=>exact hbw.size
   rintro e w8 ⟨rfl,hb8⟩
   rw [List.take_of_length_le (by omega)]
   go_wp2
   go_ret2
   refine ⟨_,rfl,hbw.trans hb8,.tup rfl fun i hi=>?_⟩
   match i with
   | 0=>exact .lit rfl
   | 1=>exact .lit rfl
   | i+2=>exact absurd hi (by simp)
end Go.Proofs.YtcaahphghaddgaaGreatDoor
set_option linter.unusedSimpArgs false
set_option linter.unusedVariables false
namespace Go.Proofs.YtcaahphghaddgaaGreatDoor
open Go.RowKit Lim
noncomputable section
def strQ:Option TV→Option ByteArray
 | some (.av (.lit (.string s)))=>some s
 | _=>none
def aggQ:Option TV→Option (List AV)
 | some (.av (.agg cs))=>some cs
 | _=>none
def tupQ:Option TV→Option (List AV)
 | some (.av (.tup cs))=>some cs
 | _=>none
def avQ:Option TV→Option AV
 | some (.av a)=>some a
 | _=>none
theorem strQ_some {x:Option TV} {s:ByteArray} (h:strQ x=some s):x=some (.av (.lit (.string s))):=by
 unfold strQ at h
 split at h
 ·cases h;rfl
 ·cases h
theorem aggQ_some {x:Option TV} {cs:List AV} (h:aggQ x=some cs):x=some (.av (.agg cs)):=by
 unfold aggQ at h
 split at h
 ·cases h;rfl
 ·cases h
theorem tupQ_some {x:Option TV} {cs:List AV} (h:tupQ x=some cs):x=some (.av (.tup cs)):=by
 unfold tupQ at h
 split at h
 ·cases h;rfl
 ·cases h
theorem avQ_some {x:Option TV} {a:AV} (h:avQ x=some a):x=some (.av a):=by
 unfold avQ at h
 split at h
 ·cases h;rfl
 ·cases h
def fldQ (T:TyTab) (ty:TypeId) (f:Nat):Option (Nat × Nat × TypeId):=match T ty with
 | some ⟨.strct fs,_,_⟩=>fs[f]?
 | _=>none
theorem fldQ_some {T:TyTab} {ty:TypeId} {f:Nat} {p:Nat × Nat × TypeId} (h:fldQ T ty f=some p):∃fs z b,T ty=some ⟨.strct fs,z,b⟩∧fs[f]? = some (p.1,p.2.1,p.2.2):=by
 unfold fldQ at h
 split at h
 ·rename_i fs z b h1;exact ⟨fs,z,b,h1,h⟩
 ·cases h
def convQ (T:TyTab) (σ:AS) (i j:TK) (x:Option TV):Option TV:=match i,j,x with
 | .int _,.int k,some (.av (.lit (.int _ n)))=>some (.av (.lit (.int k (k.wrap n))))
 | .str,.str,some (.av (.lit (.string s)))=>some (.av (.lit (.string s)))
 | .slc e0 k _,.str,some (.av (.sl k' es))=>bif isByteT T e0 && (Nat.beq k 1 && Nat.beq k' 1) then (bytesQ es).map fun l=>.av (.lit (.string ⟨l.toArray⟩)) else none
 | .slc e0 k _,.str,some (.osl t k' off len)=>bif isByteT T e0 && (Nat.beq k 1 && Nat.beq k' 1) then (match σ.own t with
  | some (.row _ q es)=>bif Nat.beq q 1 && (Nat.beq off 0 && Nat.beq len es.length) then (bytesQ es).map fun l=>.av (.lit (.string ⟨l.toArray⟩)) else none
  | _=>none) else none
 | .slc e0 k _,.str,some (.av (.lit (.slice none 0 0)))=>bif isByteT T e0 && Nat.beq k 1 then some (.av (.lit (.string ⟨#[]⟩))) else none
 | _,_,_=>none
def cutsQ (k:TK) (σ:AS) (x:Option TV) (lo hi:Option TV):Option TV:=match k,x with
 | .str,some (.av (.lit (.string s)))=>(sliceF lo hi (sizeQ s)).map fun p=>.av (.lit (.string (cutQ s p.1 p.2)))
 | .slc _ k _,some (.av (.sl k' es))=>bif Nat.beq k k' then (sliceF lo hi es.length).map fun p=>.av (.sl k ((es.take p.2).drop p.1)) else none
 | .slc _ k _,some (.av (.nat es))=>bif Nat.beq k 1 then (sliceF lo hi es.length).map fun p=>.av (.nat ((es.take p.2).drop p.1)) else none
 | .slc _ k b,some (.osl t k' off len)=>bif Nat.beq k k' then (sliceF lo hi len).bind fun p=>bif Nat.blt p.1 p.2 then some (.osl t k (off+p.1) (p.2-p.1)) else bif Nat.beq p.1 p.2 then some (.av (match b with|true=>.nat []|false=>.sl k [])) else none else none
 | .arr n _ k,some (.av (.ptr cs))=>bif Nat.ble (n*k) cs.length && (cs.take (n*k)).all AV.one then (sliceF lo hi n).map fun p=>.av (.sl k (((chunk k n (cs.take (n*k))).take p.2).drop p.1)) else none
 | _,_=>none
def lenQ (k:TK) (x:Option TV):Option TV:=match k,x with
 | .str,some (.av (.lit (.string s)))=>some (.av (.lit (.int .i64 (sizeQ s:Nat))))
 | .slc _ _ _,some s=>(lenT s).map fun n=>.av (.lit (.int .i64 (n:Nat)))
 | _,_=>none
def maxQ (f:Int→Int→Int) (x y:Value):Option Value:=match x,y with
 | .int k m,.int k' n=>bif decide (k=k') then some (.int k (f m n)) else none
 | _,_=>none
def lookQ (T:TyTab) (σ:AS) (ty:TypeId) (x q:Option TV) (ok:Bool):Option TV:=match T ty with
 | some ⟨.map k e,_,_⟩=>(T k).bind fun ki=>(T e).bind fun ei=>(match ei.zero,x,q with
  | [a0],some (.omap t),some (.av (.lit kv))=>(match σ.own t with
   | some (.map kd m)=>bif flatK ei.kind && (keyB ki.kind kv && true) then (bif kdEq kd ki.kind then some (match ok with
     | false=>.av ((mgetA m kv).getD a0)
     | true=>.av (.tup [(mgetA m kv).getD a0,.lit (.bool (mgetA m kv).isSome)])) else none) else none
   | _=>none)
  | _,_,_=>none)
 | _=>none
 where kdEq:TK→TK→Bool
 | .int k,.int k'=>decide (k=k')
 | .str,.str=>true
 | .bool,.bool=>true
 | _,_=>false
theorem kdEq_some {a b:TK} (h:lookQ.kdEq a b=true):a=b:=by
 unfold lookQ.kdEq at h
 split at h
 ·rw [of_decide_eq_true h]
 ·rfl
 ·rfl
 ·cases h
def avalQ (T:TyTab) (σ:AS) (o:Oper):Option TV :=
 match o.op with
 | .move x=>σ.get x
 | .assign x=>σ.get x
 | .pick c x y=>(boolQ (σ.get c)).bind fun t=>match t with|true=>σ.get x|false=>σ.get y
 | .load ty x=>(T ty).bind fun i=>(σ.lookG (σ.get x)).bind fun cs=>(takeA i cs).map .av
 | .fieldAddr ty x f=>(fldQ T ty f).bind fun p=>offT p.1 (σ.get x)
 | .field ty x f=>(fldQ T ty f).bind fun p=>(aggQ (σ.get x)).bind fun cs=>(T p.2.2).bind fun i=>(takeA i (cs.drop p.1)).map .av
 | .extract x i=>(tupQ (σ.get x)).bind fun vs=>(vs[i]?).map .av
 | .indexAddr ty x ix=>(T ty).bind fun i=>(σ.get x).bind fun s=>(natQ (σ.get ix)).bind fun n=>idxF i s n
 | .index ty x ix=>(T ty).bind fun i=>(natQ (σ.get ix)).bind fun n=>(match i.kind with
  | .str=>(strQ (σ.get x)).bind fun s=>(s.data.toList[n]?).map fun b=>.av (byteA b)
  | .arr m e k=>bif Nat.blt n m then (aggQ (σ.get x)).bind fun cs=>(T e).bind fun j=>(takeA j (cs.drop (n*k))).map .av else none
  | _=>none)
 | .binOp op ty x y _=>(litQ (σ.get x)).bind fun a=>(litQ (σ.get y)).bind fun b=>(binF (isBoolT T ty) op a b).map fun r=>.av (.lit r)
 | .unOp op _ x=>(litQ (σ.get x)).bind fun a=>(unF op a).map fun r=>.av (.lit r)
 | .convert src dst x=>(T src).bind fun i=>(T dst).bind fun j=>convQ T σ i.kind j.kind (σ.get x)
 | .makeInterface ty x=>(T ty).bind fun i=>(match i.kind with
  | .scal=>none
  | _=>(avQ (σ.get x)).map fun a=>.av (.ifc ty (normA T ty a)))
 | .makeFunc f first captured=>(avsL σ first.toList).bind fun fs=>(avsL σ captured.toList).map fun cs=>.av (.fn f fs cs)
 | .slice ty x lo hi none=>(T ty).bind fun i=>(optGet σ lo).bind fun lo'=>(optGet σ hi).bind fun hi'=>cutsQ i.kind σ (σ.get x) lo' hi'
 | .lookup ty x q ok=>lookQ T σ ty (σ.get x) (σ.get q) ok
 | .nilCheck x=>(match σ.get x with
  | some (.ref t off)=>some (.ref t off)
  | some (.av (.ptr cs))=>some (.av (.ptr cs))
  | some (.oref t k i o)=>some (.oref t k i o)
  | some (.av (.ifc t a))=>some (.av (.ifc t a))
  | some (.av (.fn (.func f) fs cs))=>some (.av (.fn (.func f) fs cs))
  | _=>none)
 | .call ⟨.builtin .len,⟨[x]⟩,⟨[ty]⟩⟩=>(T ty).bind fun i=>lenQ i.kind (σ.get x)
 | .call ⟨.builtin .max,⟨[x,y]⟩,_⟩=>(litQ (σ.get x)).bind fun a=>(litQ (σ.get y)).bind fun b=>(maxQ (fun m n=>if n > m then n else m) a b).map fun r=>.av (.lit r)
 | .call ⟨.builtin .min,⟨[x,y]⟩,_⟩=>(litQ (σ.get x)).bind fun a=>(litQ (σ.get y)).bind fun b=>(maxQ (fun m n=>if n<m then n else m) a b).map fun r=>.av (.lit r)
 | _=>none
section
variable {C:Ctx} {σ:AS}
theorem maxQ_some {f:Int→Int→Int} {x y r:Value} (h:maxQ f x y=some r):∃k m n,x=.int k m∧y=.int k n∧r=.int k (f m n):=by
 unfold maxQ at h
 split at h
 ·obtain ⟨h1,h2⟩:=kif h
  have h1:=of_decide_eq_true h1
  subst h1
  cases h2
  exact ⟨_,_,_,rfl,rfl,rfl⟩
 ·cases h
theorem convQ_sound {a b:TK} {x:Option TV} {v:TV}:convQ C.T σ a b x=some v→(match a,b,x with
       | .int _,.int k,some (.av (.lit (.int _ n)))=>v=.av (.lit (.int k (k.wrap n)))
       | .str,.str,some (.av (.lit (.string s)))=>v=.av (.lit (.string s))
       | .slc e0 k _,.str,some (.av (.sl k' es))=>isByteT C.T e0=true∧k=1∧k'=1∧∃l:List UInt8,es=l.map byteA∧v=.av (.lit (.string ⟨l.toArray⟩))
       | .slc e0 k _,.str,some (.osl t k' off len)=>isByteT C.T e0=true∧k=1∧k'=1∧∃(e:TypeId) (l:List UInt8),σ.own t=some (.row e 1 (l.map byteA))∧off=0∧len=l.length∧v=.av (.lit (.string ⟨l.toArray⟩))
       | .slc e0 k _,.str,some (.av (.lit (.slice none 0 0)))=>isByteT C.T e0=true∧k=1∧v=.av (.lit (.string ⟨#[]⟩))
       | _,_,_=>False):=by
 intro h
 unfold convQ at h
 split at h
 ·cases h;rfl
 ·cases h;rfl
 ·obtain ⟨h3,h4⟩:=kif h
  obtain ⟨h5,h6⟩:=kand h3
  obtain ⟨h6,h7⟩:=kand h6
  obtain ⟨l,h8,rfl⟩:=Option.map_eq_some_iff.1 h4
  exact ⟨h5,kbeq h6,kbeq h7,l,bytesQ_some h8,rfl⟩
 ·obtain ⟨h3,h4⟩:=kif h
  obtain ⟨h5,h6⟩:=kand h3
  obtain ⟨h6,h7⟩:=kand h6
  split at h4
  ·rename_i e q es ho
   obtain ⟨g1,g2⟩:=kif h4
   obtain ⟨g3,g6⟩:=kand g1
   obtain ⟨g4,g5⟩:=kand g6
   obtain ⟨l,h8,rfl⟩:=Option.map_eq_some_iff.1 g2
   have h9:=bytesQ_some h8
   subst h9
   refine ⟨h5,kbeq h6,kbeq h7,e,l,?_,kbeq g4,?_,rfl⟩
   ·rw [ho,kbeq g3]
   ·have:=kbeq g5;simpa using this
  ·cases h4
 ·obtain ⟨h3,h4⟩:=kif h
  obtain ⟨h5,h6⟩:=kand h3
  cases h4
  exact ⟨h5,kbeq h6,rfl⟩
 ·cases h
theorem cutsQ_sound {a:TK} {x lo hi:Option TV} {v:TV}:cutsQ a σ x lo hi=some v→(match a,x with
       | .str,some (.av (.lit (.string s)))=>∃l h,sliceR lo hi s.size l h∧v=.av (.lit (.string (s.extract l h)))
       | .slc _ k _,some (.av (.sl k' es))=>k=k'∧∃l h,sliceR lo hi es.length l h∧v=.av (.sl k ((es.take h).drop l))
       | .slc _ k _,some (.av (.nat es))=>k=1∧∃l h,sliceR lo hi es.length l h∧v=.av (.nat ((es.take h).drop l))
       | .slc _ k b,some (.osl t k' off len)=>k=k'∧∃l h,sliceR lo hi len l h∧(l<h∧v=.osl t k (off+l) (h-l)∨l=h∧v=.av (if b then .nat [] else .sl k []))
       | .arr n _ k,some (.av (.ptr cs))=>n*k≤cs.length∧(cs.take (n*k)).all AV.one=true∧∃l h,sliceR lo hi n l h∧v=.av (.sl k (((chunk k n (cs.take (n*k))).take h).drop l))
       | _,_=>False):=by
 intro h
 unfold cutsQ at h
 split at h
 ·obtain ⟨p,h2,rfl⟩:=Option.map_eq_some_iff.1 h
  rw [sizeQ_eq]at h2
  exact ⟨p.1,p.2,sliceF_sound h2,by rw [cutQ_eq]⟩
 ·obtain ⟨g1,g2⟩:=kif h
  obtain ⟨p,h2,rfl⟩:=Option.map_eq_some_iff.1 g2
  exact ⟨kbeq g1,p.1,p.2,sliceF_sound h2,rfl⟩
 ·obtain ⟨g1,g2⟩:=kif h
  obtain ⟨p,h2,rfl⟩:=Option.map_eq_some_iff.1 g2
  exact ⟨kbeq g1,p.1,p.2,sliceF_sound h2,rfl⟩
 ·rename_i b _ _ _ _
  obtain ⟨g1,g2⟩:=kif h
  obtain ⟨p,h2,h3⟩:=kbind g2
  refine ⟨kbeq g1,p.1,p.2,sliceF_sound h2,?_⟩
  cases h4:Nat.blt p.1 p.2 with
  | true=>rw [h4]at h3;cases h3;exact .inl ⟨kblt h4,rfl⟩
  | false =>
   rw [h4]at h3
   obtain ⟨h5,h6⟩:=kif h3
   cases h6
   exact .inr ⟨kbeq h5,by cases b <;> rfl⟩
 ·obtain ⟨g1,g2⟩:=kif h
  obtain ⟨g3,g4⟩:=kand g1
  obtain ⟨p,h2,rfl⟩:=Option.map_eq_some_iff.1 g2
  exact ⟨Nat.le_of_ble_eq_true g3,g4,p.1,p.2,sliceF_sound h2,rfl⟩
 ·cases h
theorem avalQ_sound {o:Oper} {v:TV} (h:avalQ C.T σ o=some v):aval C σ o v:=by
 obtain ⟨dst,op,type,pos,after,guard⟩:=o
 unfold avalQ at h
 split at h
 ·rename_i ho;cases ho;exact h
 ·rename_i ho;cases ho;exact h
 ·rename_i ho;cases ho
  obtain ⟨t,h1,h2⟩:=kbind h
  refine ⟨t,boolQ_some h1,?_⟩
  cases t <;> exact h2
 ·rename_i ho;cases ho
  obtain ⟨i,h1,h⟩:=kbind h
  obtain ⟨cs,h2,h⟩:=kbind h
  obtain ⟨a,h3,rfl⟩:=Option.map_eq_some_iff.1 h
  exact ⟨i,cs,a,h1,h2,h3,rfl⟩
 ·rename_i ho;cases ho
  obtain ⟨p,h1,h⟩:=kbind h
  obtain ⟨fs,z,b,h2,h3⟩:=fldQ_some h1
  exact ⟨fs,z,b,p.1,p.2.1,p.2.2,h2,h3,h⟩
 ·rename_i ho;cases ho
  obtain ⟨p,h1,h⟩:=kbind h
  obtain ⟨cs,h4,h⟩:=kbind h
  obtain ⟨i,h5,h⟩:=kbind h
  obtain ⟨a,h6,rfl⟩:=Option.map_eq_some_iff.1 h
  obtain ⟨fs,z,b,h2,h3⟩:=fldQ_some h1
  exact ⟨fs,z,b,p.1,p.2.1,p.2.2,cs,i,a,h2,h3,aggQ_some h4,h5,h6,rfl⟩
 ·rename_i ho;cases ho
  obtain ⟨vs,h1,h⟩:=kbind h
  obtain ⟨a,h2,rfl⟩:=Option.map_eq_some_iff.1 h
  exact ⟨vs,a,tupQ_some h1,h2,rfl⟩
 ·rename_i ho;cases ho
  obtain ⟨i,h1,h⟩:=kbind h
  obtain ⟨s,h2,h⟩:=kbind h
  obtain ⟨n,h3,h⟩:=kbind h
  obtain ⟨q,h4⟩:=natQ_some h3
  exact ⟨i,s,q,n,h1,h2,h4,Int.natCast_nonneg _,by rw [Int.toNat_natCast];exact idxF_sound h⟩
 ·rename_i ho;cases ho
  obtain ⟨⟨k,z,b⟩,h1,h⟩:=kbind h
  obtain ⟨n,h3,h⟩:=kbind h
  obtain ⟨q,h4⟩:=natQ_some h3
  dsimp only at h
  split at h
  ·obtain ⟨s,h5,h⟩:=kbind h
   obtain ⟨u,h6,rfl⟩:=Option.map_eq_some_iff.1 h
   exact .inl ⟨z,b,s,q,n,u,h1,strQ_some h5,h4,Int.natCast_nonneg _,by rw [Int.toNat_natCast];exact h6,rfl⟩
  ·rename_i m e kk h0
   obtain ⟨h5,h⟩:=kif h
   obtain ⟨cs,h6,h⟩:=kbind h
   obtain ⟨j,h7,h⟩:=kbind h
   obtain ⟨a,h8,rfl⟩:=Option.map_eq_some_iff.1 h
   have:=kblt h5
   exact .inr ⟨m,e,kk,z,b,cs,q,n,j,a,h1,aggQ_some h6,h4,Int.natCast_nonneg _,by omega,h7,by rw [Int.toNat_natCast];exact h8,rfl⟩
  ·cases h
 ·rename_i ho;cases ho
  obtain ⟨a,h1,h⟩:=kbind h
  obtain ⟨b,h2,h⟩:=kbind h
  obtain ⟨r,h3,rfl⟩:=Option.map_eq_some_iff.1 h
  exact ⟨a,b,r,litQ_some h1,litQ_some h2,binF_sound h3,rfl⟩
 ·rename_i ho;cases ho
  obtain ⟨a,h1,h⟩:=kbind h
  obtain ⟨r,h3,rfl⟩:=Option.map_eq_some_iff.1 h
  exact ⟨a,r,litQ_some h1,unF_sound h3,rfl⟩
 ·rename_i ho;cases ho
  obtain ⟨i,h1,h⟩:=kbind h
  obtain ⟨j,h2,h⟩:=kbind h
  exact ⟨i,j,h1,h2,convQ_sound h⟩
 ·rename_i ho;cases ho
  obtain ⟨i,h1,h⟩:=kbind h
  split at h
  ·cases h
  ·rename_i hk
   obtain ⟨a,h2,rfl⟩:=Option.map_eq_some_iff.1 h
   refine ⟨i,a,h1,?_,avQ_some h2,rfl⟩
   split
   ·rename_i h3;exact hk h3
   ·trivial
 ·rename_i ho;cases ho
  obtain ⟨fs,h1,h⟩:=kbind h
  obtain ⟨cs,h2,rfl⟩:=Option.map_eq_some_iff.1 h
  exact ⟨fs,cs,h1,h2,rfl⟩
 ·rename_i ho;cases ho
  obtain ⟨i,h1,h⟩:=kbind h
  obtain ⟨lo',h2,h⟩:=kbind h
  obtain ⟨hi',h3,h⟩:=kbind h
  exact ⟨i,lo',hi',h1,h2,h3,cutsQ_sound h⟩
 ·rename_i ty x q ok ho;cases ho
  unfold lookQ at h
  split at h
  ·rename_i k e z b h1
   obtain ⟨ki,h2,h⟩:=kbind h
   obtain ⟨ei,h3,h⟩:=kbind h
   split at h
   ·rename_i a0 t kv h4 h5 h6
    split at h
    ·rename_i kd m h7
     obtain ⟨g8,h⟩:=kif h
     obtain ⟨h8,g9⟩:=kand g8
     obtain ⟨h9,_⟩:=kand g9
     obtain ⟨h10,h⟩:=kif h
     clear g8 g9
     have e1:=(Option.some.inj h).symm
     subst e1
     have:=kdEq_some h10
     subst this
     refine ⟨k,e,z,b,ki,ei,t,m,kv,a0,h1,h2,h3,h4,h8,h5,h7,h6,h9,?_⟩
     cases ok <;> rfl
    ·cases h
   ·cases h
  ·cases h
 ·rename_i ho;cases ho
  split at h <;> first
   | (rename_i h1;cases h;simp only [aval,h1];done)
   | cases h
 ·rename_i x ty ho;cases ho
  obtain ⟨i,h1,h⟩:=kbind h
  refine ⟨x,ty,i,rfl,rfl,h1,?_⟩
  unfold lenQ at h
  split at h
  ·rename_i h2 h3;rw [h2,h3];cases h;show TV.av _=TV.av _;rw [sizeQ_eq]
  ·rename_i h2 h3
   rw [h2,h3]
   obtain ⟨n,h4,rfl⟩:=Option.map_eq_some_iff.1 h
   exact ⟨n,h4,rfl⟩
  ·cases h
 ·rename_i x y tys ho;cases ho
  obtain ⟨a,h1,h⟩:=kbind h
  obtain ⟨b,h2,h⟩:=kbind h
  obtain ⟨r,h3,rfl⟩:=Option.map_eq_some_iff.1 h
  obtain ⟨k,m,n,rfl,rfl,rfl⟩:=maxQ_some h3
  exact ⟨x,y,_,_,_,rfl,litQ_some h1,litQ_some h2,⟨rfl,rfl⟩,rfl⟩
 ·rename_i x y tys ho;cases ho
  obtain ⟨a,h1,h⟩:=kbind h
  obtain ⟨b,h2,h⟩:=kbind h
  obtain ⟨r,h3,rfl⟩:=Option.map_eq_some_iff.1 h
  obtain ⟨k,m,n,rfl,rfl,rfl⟩:=maxQ_some h3
  exact ⟨x,y,_,_,_,rfl,litQ_some h1,litQ_some h2,⟨rfl,rfl⟩,rfl⟩
 ·cases h
end
end
end Go.Proofs.YtcaahphghaddgaaGreatDoor
set_option linter.unusedSimpArgs false
set_option linter.unusedVariables false
namespace Go.Proofs.YtcaahphghaddgaaGreatDoor
open Go.RowKit Lim
noncomputable section
inductive KOp where
 | put (d:Option Nat) (v:TV)
 | new (t:Nat) (cs:List AV)
 | setMem (t:Nat) (cs:List AV)
 | setOwn (t:Nat) (ov:OV)
 | newOwn (s:Option Nat) (d:Nat) (ov:OV)
 | newMap (d:Nat) (ov:OV)
 | frz (ts:List Nat)
def AS.kop (σ:AS):KOp→AS
 | .put d v=>σ.put d v
 | .new t cs=>σ.new t cs
 | .setMem t cs=>σ.setMem t cs
 | .setOwn t ov=>σ.setOwn t ov
 | .newOwn s d ov=>σ.newOwn s d ov
 | .newMap d ov=>σ.newMap d ov
 | .frz ts=>σ.frz ts
def applyK (σ:AS):List KOp→AS
 | []=>σ
 | k :: l=>applyK (σ.kop k) l
def frzQ (ts:List Nat) (l:List KOp):List KOp:=match ts with
 | []=>l
 | t :: ts=>.frz (t :: ts) :: l
theorem frzQ_eq (σ:AS) (ts:List Nat) (l:List KOp):applyK σ (frzQ ts l)=applyK (σ.frz ts) l:=by
 cases ts with
 | nil=>rw [frz_nil];rfl
 | cons t ts=>rfl
def quietQ (dr:Bool) (ts:List Nat):Bool:=match dr,ts with
 | true,_ :: _=>false
 | _,_=>true
theorem quietQ_some {dr:Bool} {ts:List Nat} (h:quietQ dr ts=true):dr=true→ts=[]:=by
 intro hd
 subst hd
 cases ts with
 | nil=>rfl
 | cons=>cases h
def natsQ:List AV→Option (List Nat)
 | []=>some []
 | .lit (.int .u32 x) :: es=>(natI x).bind fun n=>bif Nat.blt n 4294967296 then (natsQ es).map (n :: ·) else none
 | _=>none
theorem natsQ_some:∀{es:List AV} {l:List Nat},natsQ es=some l→natsR es l
 | [],l,h=>by cases h;rfl
 | a :: es,l,h=>by
  unfold natsQ at h
  split at h
  ·rename_i heq;cases heq
  ·rename_i x es' heq
   cases heq
   obtain ⟨n,h1,h2⟩:=kbind h
   obtain ⟨h3,h4⟩:=kif h2
   obtain ⟨l',h5,rfl⟩:=Option.map_eq_some_iff.1 h4
   have:=natI_some h1
   have h6:=kblt h3
   subst this
   exact ⟨Int.natCast_nonneg _,by omega,l',natsQ_some h5,by rw [Int.toNat_natCast]⟩
  ·cases h
structure Asks where
 T:TyTab
 ask:FuncId→List AV→Option AV
 me:TypeId→String→AV→Option (FuncId × AV)
 eq:BinOp→TypeId→Operand→Operand→AV→AV→Option Bool
structure AsksOK (C:Ctx) (W:Asks):Prop where
 T:W.T=C.T
 ask:∀f args r,W.ask f args=some r→ACalls C.t f args r
 me:∀t name a f a',W.me t name a=some (f,a')→Meth C.P t name a f a'
 eq:∀op ty ox oy a b r,W.eq op ty ox oy a b=some r→EqV C.P op ty ox oy a b r
def tgtQ (W:Asks) (σ:AS):Callee→Option (FuncId × List AV × List AV)
 | .value x=>(match σ.get x with
  | some (.av (.fn (.func f) pre post))=>some (f,pre,post)
  | _=>none)
 | .invoke x name=>(match σ.get x with
  | some (.av (.ifc t a))=>(W.me t name a).map fun p=>(p.1,[p.2],[])
  | _=>none)
 | .builtin _=>none
def callQ (W:Asks) (dr:Bool) (d:Option Nat) (c:Call) (σ:AS):Option (List KOp) :=
 (tgtQ W σ c.callee).bind fun p=>(σ.args W.T c.args.toList c.argTypes.toList).bind fun args=>(fL (fAV 40) (p.2.1 ++ args ++ p.2.2) fun args=>W.ask p.1 args).bind fun r =>
  match r.flat with
  | true=>some [.put d (.av r)]
  | false=>bif quietQ dr (σ.usedL c.args.toList) then some (frzQ (σ.usedL c.args.toList) [.put d (.av r)]) else none
def slcQ (T:TyTab) (ty:TypeId):Option (TypeId × Nat × Bool):=match T ty with
 | some ⟨.slc e k l,_,_⟩=>some (e,k,l)
 | _=>none
theorem slcQ_some {T:TyTab} {ty:TypeId} {p:TypeId × Nat × Bool} (h:slcQ T ty=some p):∃z b,T ty=some ⟨.slc p.1 p.2.1 p.2.2,z,b⟩:=by
 unfold slcQ at h
 split at h
 ·rename_i e k l z b h1;cases h;exact ⟨z,b,h1⟩
 ·cases h
def strctQ (T:TyTab) (ty:TypeId):Option (List (Nat × Nat × TypeId) × List AV):=match T ty with
 | some ⟨.strct fs,z,_⟩=>some (fs,z)
 | _=>none
theorem strctQ_some {T:TyTab} {ty:TypeId} {p:List (Nat × Nat × TypeId) × List AV} (h:strctQ T ty=some p):∃b,T ty=some ⟨.strct p.1,p.2,b⟩:=by
 unfold strctQ at h
 split at h
 ·rename_i fs z b h1;cases h;exact ⟨b,h1⟩
 ·cases h
def zero1Q:List AV→Bool
 | [.lit (.int .u32 (.ofNat 0))]=>true
 | _=>false
theorem zero1Q_some {z:List AV} (h:zero1Q z=true):z=[.lit (.int .u32 0)]:=by
 unfold zero1Q at h
 split at h
 ·rfl
 ·cases h
def stepQ (W:Asks) (dr:Bool) (o:Oper) (σ:AS):Option (List KOp) :=
 match o.op with
 | .alloc ty=>o.dst.bind fun t=>(W.T ty).bind fun i=>bif i.zero.all AV.one && i.zero.all AV.noLimb then some [.new t i.zero] else none
 | .box ty x=>o.dst.bind fun t=>(σ.argV W.T ty x).bind fun y=>bif quietQ dr (σ.usedV x) && (y.cells.all AV.one && y.cells.all AV.noLimb) then some (frzQ (σ.usedV x) [.new t y.cells]) else none
 | .store ty x y=>(W.T ty).bind fun i=>(σ.argV W.T ty y).bind fun z=>bif quietQ dr (σ.usedV y) && (Nat.beq z.cells.length i.zero.length && z.cells.all AV.one) then
   (match σ.get x with
    | some (.ref t off)=>bif z.cells.all AV.noLimb then (σ.mem t).bind fun cs=>bif Nat.ble (off+z.cells.length) cs.length then some (frzQ (σ.usedV y) [.setMem t (splice cs off z.cells),.put o.dst .skip]) else none else none
    | some (.oref t k j q)=>bif (σ.usedV y).contains t then none else (match σ.own t with
     | some (.row e k' es)=>bif Nat.beq k' k && z.cells.all AV.noLimb then (es[j]?).bind fun el=>bif Nat.ble (q+z.cells.length) k then some (frzQ (σ.usedV y) [.setOwn t (.row e k (es.set j (mkEl k (splice el.cells q z.cells)))),.put o.dst .skip]) else none else none
     | some (.limb e l)=>bif Nat.beq k 1 && (Nat.beq q 0 && Nat.blt j l.length) then (match z with
      | .lit (.int .u32 n)=>(natI n).bind fun n=>bif Nat.blt n 4294967296 then some (frzQ (σ.usedV y) [.setOwn t (.limb e (l.set j n)),.put o.dst .skip]) else none
      | _=>none) else none
     | _=>none)
    | _=>none) else none
 | .build ty parts=>(strctQ W.T ty).bind fun p=>(fillV W.T σ p.1 p.2 parts.toList).bind fun cs=>bif quietQ dr (σ.usedL (parts.toList.map (·.2))) then some (frzQ (σ.usedL (parts.toList.map (·.2))) [.put o.dst (.av (.agg cs))]) else none
 | .buildSlice ty n parts=>(slcQ W.T ty).bind fun p=>(W.T p.1).bind fun i=>bif Nat.beq i.zero.length p.2.1 && (Nat.blt 0 p.2.1 && (Nat.ble (n*p.2.1) 16777216 && quietQ dr (σ.usedL (parts.toList.map (·.2))))) then
   (fillV W.T σ (places p.2.1 p.1 n 0) (List.replicate n i.zero).flatten parts.toList).bind fun cs=>bif cs.all AV.one then (match p.2.2 with
    | true=>bif Nat.beq p.2.1 1 then (natsQ cs).map fun ns=>frzQ (σ.usedL (parts.toList.map (·.2))) [.put o.dst (.av (.nat ns))] else none
    | false=>some (frzQ (σ.usedL (parts.toList.map (·.2))) [.put o.dst (.av (.sl p.2.1 (chunk p.2.1 n cs)))])) else none else none
 | .makeSlice ty x y=>o.dst.bind fun t=>(slcQ W.T ty).bind fun p=>(W.T p.1).bind fun i=>(natQ (σ.get x)).bind fun n=>(natQ (σ.get y)).bind fun m=>bif Nat.beq i.zero.length p.2.1 && (Nat.blt 0 p.2.1 && (Nat.ble n m && (Nat.ble (m*i.bytes) 140737488355328 && Nat.ble m 9223372036854775807))) then (match p.2.2 with
   | true=>bif Nat.beq p.2.1 1 && zero1Q i.zero then some [.newOwn none t (.limb p.1 (List.replicate n 0))] else none
   | false=>bif i.zero.all AV.one && i.zero.all AV.noLimb then some [.newOwn none t (.row p.1 p.2.1 (List.replicate n (mkEl p.2.1 i.zero)))] else none) else none
 | .makeMap ty r=>o.dst.bind fun t=>(match W.T ty with
   | some ⟨.map k _,_,_⟩=>(W.T k).bind fun ki=>(match r with
    | none=>some [.newMap t (.map ki.kind [])]
    | some x=>(intQ (σ.get x)).map fun _=>[.newMap t (.map ki.kind [])])
   | _=>none)
 | .mapUpdate ty x q y=>(match W.T ty,σ.get x,litQ (σ.get q)with
   | some ⟨.map k e,_,_⟩,some (.omap t),some kv=>(W.T k).bind fun ki=>(match σ.own t with
    | some (.map kd m)=>bif lookQ.kdEq kd ki.kind && (keyB ki.kind kv && quietQ dr (σ.usedV y)) then (σ.argV W.T e y).bind fun yv=>bif (σ.usedV y).contains t then none else some (frzQ (σ.usedV y) [.setOwn t (.map ki.kind (mputA m kv yv)),.put o.dst .skip]) else none
    | _=>none)
   | _,_,_=>none)
 | .call ⟨.value x,xs,tys⟩=>callQ W dr o.dst ⟨.value x,xs,tys⟩ σ
 | .call ⟨.invoke x name,xs,tys⟩=>callQ W dr o.dst ⟨.invoke x name,xs,tys⟩ σ
 | .call ⟨.builtin .append,⟨[x,y]⟩,⟨[ty,ty']⟩⟩=>o.dst.bind fun d=>bif Nat.beq ty' ty then (slcQ W.T ty).bind fun p=>(W.T p.1).bind fun i=>(σ.get x).bind fun xv=>(baseT σ p.1 p.2.1 p.2.2 xv).bind fun b=>(σ.argV W.T ty y).bind fun yv=>(b.2.app yv).bind fun ov' =>
   bif Nat.beq i.zero.length p.2.1 && (Nat.blt 0 p.2.1 && (Nat.blt b.2.len ov'.len && (Nat.ble (ov'.len*i.bytes) 140737488355328 && (Nat.ble ov'.len 9223372036854775807 && (p.2.2 || i.zero.all AV.noLimb))))) then some [.newOwn b.1 d ov'] else none else none
 | .call ⟨.builtin .copy,⟨[x,y]⟩,⟨[ty,_]⟩⟩=>(slcQ W.T ty).bind fun p=>(match σ.get x with
   | some (.osl t k off n)=>(σ.own t).bind fun ov=>bif Nat.beq k p.2.1 && (Nat.beq ov.k k && Nat.ble (off+n) ov.len) then (σ.argV W.T ty y).bind fun yv=>(takeSl n yv).bind fun q=>(ov.over off q.2).map fun ov'=>[.setOwn t ov',.put o.dst (.av (.lit (.int .i64 (q.1:Nat))))] else none
   | _=>none)
 | _=>(avalQ W.T σ o).map fun v=>[.put o.dst v]
section
variable {C:Ctx} {W:Asks} {σ:AS} {K:AS→Prop} {dr:Bool}
theorem tgtQ_some (H:AsksOK C W) {c:Callee} {p:FuncId × List AV × List AV} (h:tgtQ W σ c=some p):tgt C σ c p.1 p.2.1 p.2.2:=by
 unfold tgtQ at h
 split at h
 ·split at h
  ·rename_i h1;cases h;exact h1
  ·cases h
 ·split at h
  ·rename_i t a h1
   obtain ⟨q,h2,rfl⟩:=Option.map_eq_some_iff.1 h
   exact ⟨t,a,q.2,h1,H.me _ _ _ _ _ h2,rfl,rfl⟩
  ·cases h
 ·cases h
theorem callQ_sound (H:AsksOK C W) {d:Option Nat} {c:Call} {l:List KOp} (h:callQ W dr d c σ=some l) (hK:K (applyK σ l)):callS C dr d c σ K:=by
 obtain ⟨p,h1,h⟩:=kbind h
 obtain ⟨args,h2,h⟩:=kbind h
 obtain ⟨r,h3,h⟩:=kbind h
 rw [H.T]at h2
 rw [fL_eq (fAV_eq 40)]at h3
 have h4:=H.ask _ _ _ h3
 cases hf:r.flat with
 | true =>
  rw [hf]at h
  cases h
  exact ⟨p.1,p.2.1,p.2.2,args,r,tgtQ_some H h1,h2,.inl h4,.inl hf,by rw [if_pos hf];exact hK⟩
 | false =>
  rw [hf]at h
  obtain ⟨h5,h6⟩:=kif h
  cases h6
  rw [frzQ_eq]at hK
  exact ⟨p.1,p.2.1,p.2.2,args,r,tgtQ_some H h1,h2,.inl h4,.inr (quietQ_some h5),by rw [hf,if_neg (by simp)];exact hK⟩
set_option maxHeartbeats 1000000 in
theorem stepQ_sound (H:AsksOK C W) {o:Oper} {l:List KOp} (h:stepQ W dr o σ=some l) (hK:K (applyK σ l)):astep C dr o σ K:=by
 have val:∀{o:Oper} {l:List KOp},((avalQ W.T σ o).map fun v=>[KOp.put o.dst v])=some l→K (applyK σ l)→∃v,aval C σ o v∧K (σ.put o.dst v):=fun {o l} h hK=>by
  obtain ⟨v,h1,rfl⟩:=Option.map_eq_some_iff.1 h
  rw [H.T]at h1
  exact ⟨v,avalQ_sound h1,hK⟩
 obtain ⟨dst,op,type,pos,after,guard⟩:=o
 unfold stepQ at h
 rw [H.T]at h
 split at h
 ·rename_i ho;cases ho
  obtain ⟨t,h1,h⟩:=kbind h
  obtain ⟨i,h2,h⟩:=kbind h
  obtain ⟨h3,h⟩:=kif h
  obtain ⟨h3,h4⟩:=kand h3
  cases h
  exact ⟨t,i,h1,h2,h3,h4,hK⟩
 ·rename_i ho;cases ho
  obtain ⟨t,h1,h⟩:=kbind h
  obtain ⟨y,h2,h⟩:=kbind h
  obtain ⟨h3,h⟩:=kif h
  obtain ⟨h3,h4⟩:=kand h3
  obtain ⟨h4,h5⟩:=kand h4
  cases h
  rw [frzQ_eq]at hK
  exact ⟨t,y,h1,h2,quietQ_some h3,h4,h5,hK⟩
 ·rename_i ho;cases ho
  obtain ⟨i,h1,h⟩:=kbind h
  obtain ⟨z,h2,h⟩:=kbind h
  obtain ⟨h3,h⟩:=kif h
  obtain ⟨h3,h4⟩:=kand h3
  obtain ⟨h4,h5⟩:=kand h4
  refine ⟨i,z,h1,h2,quietQ_some h3,kbeq h4,h5,?_⟩
  dsimp only
  split at h
  ·rename_i hx
   rw [hx]
   obtain ⟨g1,h⟩:=kif h
   obtain ⟨cs,g2,h⟩:=kbind h
   obtain ⟨g3,h⟩:=kif h
   cases h
   rw [frzQ_eq]at hK
   exact ⟨g1,cs,g2,Nat.le_of_ble_eq_true g3,hK⟩
  ·rename_i t k j q hx
   rw [hx]
   cases hc:(σ.usedV _).contains t with
   | true=>rw [hc]at h;cases h
   | false =>
    rw [hc]at h
    refine ⟨hc,?_⟩
    simp only [cond_false]at h
    split at h
    ·rename_i e k' es ho
     rw [ho]
     obtain ⟨g1,h⟩:=kif h
     obtain ⟨g1,g2⟩:=kand g1
     obtain ⟨el,g3,h⟩:=kbind h
     obtain ⟨g4,h⟩:=kif h
     cases h
     rw [frzQ_eq]at hK
     exact ⟨kbeq g1,g2,el,g3,Nat.le_of_ble_eq_true g4,hK⟩
    ·rename_i e ls ho
     rw [ho]
     obtain ⟨g1,h⟩:=kif h
     obtain ⟨g1,g2⟩:=kand g1
     obtain ⟨g2,g3⟩:=kand g2
     split at h
     ·rename_i n
      obtain ⟨m,g4,h⟩:=kbind h
      obtain ⟨g5,h⟩:=kif h
      cases h
      rw [frzQ_eq]at hK
      have g6:=kblt g5
      have:=natI_some g4
      subst this
      exact ⟨kbeq g1,kbeq g2,kblt g3,_,rfl,Int.natCast_nonneg _,by omega,by rw [Int.toNat_natCast];exact hK⟩
     ·cases h
    ·cases h
  ·cases h
 ·rename_i ho;cases ho
  obtain ⟨p,h1,h⟩:=kbind h
  obtain ⟨cs,h2,h⟩:=kbind h
  obtain ⟨h3,h⟩:=kif h
  cases h
  rw [frzQ_eq]at hK
  obtain ⟨b,h4⟩:=strctQ_some h1
  exact ⟨p.1,p.2,b,cs,h4,h2,quietQ_some h3,hK⟩
 ·rename_i ho;cases ho
  obtain ⟨p,h1,h⟩:=kbind h
  obtain ⟨i,h2,h⟩:=kbind h
  obtain ⟨h3,h⟩:=kif h
  obtain ⟨h3,h4⟩:=kand h3
  obtain ⟨h4,h5⟩:=kand h4
  obtain ⟨h5,h6⟩:=kand h5
  obtain ⟨cs,h7,h⟩:=kbind h
  obtain ⟨h8,h⟩:=kif h
  obtain ⟨z,b,h9⟩:=slcQ_some h1
  refine ⟨p.1,p.2.1,p.2.2,z,b,i,cs,h9,h2,kbeq h3,kblt h4,Nat.le_of_ble_eq_true h5,h7,h8,quietQ_some h6,?_⟩
  split at h
  ·rename_i hl
   rw [hl]
   obtain ⟨g1,h⟩:=kif h
   obtain ⟨ns,g2,rfl⟩:=Option.map_eq_some_iff.1 h
   rw [frzQ_eq]at hK
   exact ⟨kbeq g1,ns,natsQ_some g2,hK⟩
  ·rename_i hl
   rw [hl]
   cases h
   rw [frzQ_eq]at hK
   exact hK
 ·rename_i ho;cases ho
  obtain ⟨t,h1,h⟩:=kbind h
  obtain ⟨p,h2,h⟩:=kbind h
  obtain ⟨i,h3,h⟩:=kbind h
  obtain ⟨n,h4,h⟩:=kbind h
  obtain ⟨m,h5,h⟩:=kbind h
  obtain ⟨h6,h⟩:=kif h
  obtain ⟨h6,h7⟩:=kand h6
  obtain ⟨h7,h8⟩:=kand h7
  obtain ⟨h8,h9⟩:=kand h8
  obtain ⟨h9,h10⟩:=kand h9
  obtain ⟨z,b,h11⟩:=slcQ_some h2
  obtain ⟨q1,h12⟩:=natQ_some h4
  obtain ⟨q2,h13⟩:=natQ_some h5
  have e8:=Nat.le_of_ble_eq_true h8
  have e9:=Nat.le_of_ble_eq_true h9
  have e10:=Nat.le_of_ble_eq_true h10
  have e11:((m*i.bytes:Nat):Int)≤140737488355328:=by omega
  rw [Int.natCast_mul]at e11
  refine ⟨t,p.1,p.2.1,p.2.2,z,b,i,q1,q2,n,m,h1,h11,h3,kbeq h6,kblt h7,h12,h13,Int.natCast_nonneg _,by omega,e11,by omega,?_⟩
  split at h
  ·rename_i hl
   rw [hl]
   obtain ⟨g1,h⟩:=kif h
   obtain ⟨g1,g2⟩:=kand g1
   cases h
   exact ⟨kbeq g1,zero1Q_some g2,by rw [Int.toNat_natCast];exact hK⟩
  ·rename_i hl
   rw [hl]
   obtain ⟨g1,h⟩:=kif h
   obtain ⟨g1,g2⟩:=kand g1
   cases h
   exact ⟨g1,g2,by rw [Int.toNat_natCast];exact hK⟩
 ·rename_i ho;cases ho
  obtain ⟨t,h1,h⟩:=kbind h
  split at h
  ·rename_i k e z b h2
   obtain ⟨ki,h3,h⟩:=kbind h
   split at h
   ·cases h
    exact ⟨t,k,e,z,b,ki,h1,h2,h3,(fun x hx=>by cases hx),hK⟩
   ·rename_i x
    obtain ⟨n,h4,rfl⟩:=Option.map_eq_some_iff.1 h
    obtain ⟨q,h5⟩:=intQ_some h4
    exact ⟨t,k,e,z,b,ki,h1,h2,h3,(fun y hy=>by cases hy;exact ⟨q,n,h5⟩),hK⟩
  ·cases h
 ·rename_i ho;cases ho
  split at h
  ·rename_i k e z b t kv h1 h2 h3
   obtain ⟨ki,h4,h⟩:=kbind h
   split at h
   ·rename_i kd m h5
    obtain ⟨g6,g⟩:=kif h
    obtain ⟨h6,g7⟩:=kand g6
    obtain ⟨h7,h8⟩:=kand g7
    obtain ⟨yv,h9,g1⟩:=kbind g
    have:=kdEq_some h6
    subst this
    clear h g g6 g7
    cases hc:(σ.usedV _).contains t with
    | true=>rw [hc]at g1;cases g1
    | false =>
     rw [hc]at g1
     cases g1
     rw [frzQ_eq]at hK
     exact ⟨k,e,z,b,ki,t,m,kv,yv,h1,h4,h2,h5,litQ_some h3,h7,h9,quietQ_some h8,hc,hK⟩
   ·cases h
  ·cases h
 ·rename_i ho;cases ho;exact callQ_sound H h hK
 ·rename_i ho;cases ho;exact callQ_sound H h hK
 ·rename_i x y ty ty' ho;cases ho
  obtain ⟨d,h1,h⟩:=kbind h
  obtain ⟨h2,h⟩:=kif h
  obtain ⟨p,h3,h⟩:=kbind h
  obtain ⟨i,h4,h⟩:=kbind h
  obtain ⟨xv,h5,h⟩:=kbind h
  obtain ⟨b,h6,h⟩:=kbind h
  obtain ⟨yv,h7,h⟩:=kbind h
  obtain ⟨ov',h8,h⟩:=kbind h
  obtain ⟨h9,h⟩:=kif h
  obtain ⟨h9,h10⟩:=kand h9
  obtain ⟨h10,h11⟩:=kand h10
  obtain ⟨h11,h12⟩:=kand h11
  obtain ⟨h12,h13⟩:=kand h12
  obtain ⟨h13,h14⟩:=kand h13
  cases h
  obtain ⟨z,bb,h15⟩:=slcQ_some h3
  refine ⟨d,x,y,ty,ty',p.1,p.2.1,p.2.2,z,bb,i,xv,b.1,b.2,yv,ov',h1,rfl,rfl,kbeq h2,h15,h4,kbeq h9,kblt h10,h5,h6,h7,h8,kblt h11,Nat.le_of_ble_eq_true h12,Nat.le_of_ble_eq_true h13,fun hl=>?_,hK⟩
  rw [hl,Bool.false_or]at h14
  exact h14
 ·rename_i x y ty ty' ho;cases ho
  obtain ⟨p,h1,h⟩:=kbind h
  split at h
  ·rename_i t k off n h2
   obtain ⟨ov,h3,h⟩:=kbind h
   obtain ⟨h4,h⟩:=kif h
   obtain ⟨h4,h5⟩:=kand h4
   obtain ⟨h5,h6⟩:=kand h5
   obtain ⟨yv,h7,h⟩:=kbind h
   obtain ⟨q,h8,h⟩:=kbind h
   obtain ⟨ov',h9,rfl⟩:=Option.map_eq_some_iff.1 h
   obtain ⟨z,bb,h10⟩:=slcQ_some h1
   have h4:=kbeq h4
   subst h4
   exact ⟨x,y,ty,_,p.1,p.2.1,p.2.2,z,bb,t,off,n,ov,yv,q.1,q.2,ov',rfl,rfl,h10,h2,h3,kbeq h5,Nat.le_of_ble_eq_true h6,h7,h8,h9,hK⟩
  ·cases h
 ·rename_i n1 n2 n3 n4 n5 n6 n7 n8 n9 n10 n11 n12
  rw [←H.T]at h
  have hv:=val h hK
  cases op with
  | alloc ty=>exact absurd rfl (n1 ty)
  | box ty x=>exact absurd rfl (n2 ty x)
  | store ty x y=>exact absurd rfl (n3 ty x y)
  | build ty ps=>exact absurd rfl (n4 ty ps)
  | buildSlice ty n ps=>exact absurd rfl (n5 ty n ps)
  | makeSlice ty x y=>exact absurd rfl (n6 ty x y)
  | makeMap ty r=>exact absurd rfl (n7 ty r)
  | mapUpdate ty x q y=>exact absurd rfl (n8 ty x q y)
  | call c =>
   obtain ⟨callee,xs,tys⟩:=c
   cases callee with
   | value x=>exact absurd rfl (n9 x xs tys)
   | invoke x name=>exact absurd rfl (n10 x name xs tys)
   | builtin b =>
    cases b with
    | append=>obtain ⟨v,h1,_⟩:=hv;exact h1.elim
    | copy=>obtain ⟨v,h1,_⟩:=hv;exact h1.elim
    | _=>exact hv
  | _=>exact hv
end
end
end Go.Proofs.YtcaahphghaddgaaGreatDoor
set_option linter.unusedSimpArgs false
set_option linter.unusedVariables false
namespace Go.Proofs.YtcaahphghaddgaaGreatDoor
open Go.RowKit Lim
noncomputable section
def lkO {α:Type} (l:List (Nat × Option α)) (x:Nat):Option α:=List.rec (motive:=fun _=>Option α) none (fun p _ ih=>bif Nat.beq x p.1 then p.2 else ih) l
def mapK {α:Type} (f:Nat→Option α→Option α) (l:List (Nat × Option α)):List (Nat × Option α):=List.rec (motive:=fun _=>List (Nat × Option α)) [] (fun p _ ih=>(p.1,f p.1 p.2) :: ih) l
theorem lkO_cons {α:Type} (k:Nat) (v:Option α) (l:List (Nat × Option α)) (x:Nat):lkO ((k,v) :: l) x=if x=k then v else lkO l x:=by
 have e:lkO ((k,v) :: l) x=bif Nat.beq x k then v else lkO l x:=rfl
 rw [e]
 by_cases h:x=k
 ·rw [if_pos h,h,Nat.beq_refl];rfl
 ·rw [if_neg h]
  cases hb:Nat.beq x k with
  | true=>exact absurd (kbeq hb) h
  | false=>rfl
theorem lkO_map {α:Type} (f:Nat→Option α→Option α) (hf:∀t,f t none=none):∀(l:List (Nat × Option α)) (x:Nat),lkO (mapK f l) x=f x (lkO l x)
 | [],x=>(hf x).symm
 | (k,v) :: l,x=>by
  show lkO ((k,f k v) :: mapK f l) x=_
  rw [lkO_cons,lkO_cons]
  by_cases h:x=k
  ·rw [if_pos h,if_pos h,h]
  ·rw [if_neg h,if_neg h,lkO_map f hf l x]
theorem lkO_upd {α:Type} (l:List (Nat × Option α)) (t:Nat) (v:Option α):lkO ((t,v) :: l)=upd (lkO l) t v:=by
 funext x
 rw [lkO_cons]
 rfl
def memQ (x:Nat) (l:List Nat):Bool:=List.rec (motive:=fun _=>Bool) false (fun y _ ih=>Nat.beq x y || ih) l
def filtK {α:Type} (p:Nat→Bool) (l:List (Nat × Option α)):List (Nat × Option α):=List.rec (motive:=fun _=>List (Nat × Option α)) [] (fun q _ ih=>bif p q.1 then q :: ih else ih) l
theorem lkO_filt {α:Type} (p:Nat→Bool):∀(l:List (Nat × Option α)) (x:Nat),lkO (filtK p l) x=bif p x then lkO l x else none
 | [],x=>by show none=bif p x then none else none;cases p x <;> rfl
 | (k,v) :: l,x=>by
  have e:filtK p ((k,v) :: l)=bif p k then (k,v) :: filtK p l else filtK p l:=rfl
  rw [e,lkO_cons]
  cases hp:p k with
  | true =>
   rw [cond_true,lkO_cons,lkO_filt p l]
   by_cases hx:x=k
   ·rw [if_pos hx,if_pos hx,hx,hp];rfl
   ·rw [if_neg hx,if_neg hx]
  | false =>
   rw [cond_false,lkO_filt p l]
   by_cases hx:x=k
   ·rw [hx,hp];rfl
   ·rw [if_neg hx]
def putL {α:Type} (t:Nat) (v:α) (l:List (Nat × Option α)):List (Nat × Option α):=List.rec (motive:=fun _=>List (Nat × Option α)) [(t,some v)] (fun p l ih=>bif Nat.beq t p.1 then (t,some v) :: l else p :: ih) l
theorem lkO_put {α:Type} (t:Nat) (v:α):∀(l:List (Nat × Option α)) (x:Nat),lkO (putL t v l) x=upd (lkO l) t (some v) x
 | [],x=>by
  show lkO ((t,some v) :: []) x=upd (fun _=>none) t (some v) x
  rw [lkO_cons];rfl
 | (k,u) :: l,x=>by
  have e:putL t v ((k,u) :: l)=bif Nat.beq t k then (t,some v) :: l else (k,u) :: putL t v l:=rfl
  rw [e]
  unfold upd
  cases hb:Nat.beq t k with
  | true =>
   have:=kbeq hb
   subst this
   rw [cond_true,lkO_cons,lkO_cons]
   by_cases hx:x=t
   ·rw [if_pos hx,if_pos hx]
   ·rw [if_neg hx,if_neg hx,if_neg hx]
  | false =>
   have ih:=lkO_put t v l x
   unfold upd at ih
   rw [cond_false,lkO_cons,lkO_cons,ih]
   by_cases hx:x=k
   ·have:x≠t:=fun e=>by rw [←e,hx,Nat.beq_refl]at hb;cases hb
    rw [if_pos hx,if_neg this,if_pos hx]
   ·rw [if_neg hx,if_neg hx]
def fPut {α β:Type} (t:Nat) (v:α) (l:List (Nat × Option α)) (k:List (Nat × Option α)→β):β:=List.rec (motive:=fun _=>(List (Nat × Option α)→β)→β) (fun k=>k [(t,some v)]) (fun p l ih k=>bif Nat.beq t p.1 then k ((t,some v) :: l) else ih fun l=>k (p :: l)) l k
theorem fPut_eq {α β:Type} (t:Nat) (v:α):∀(l:List (Nat × Option α)) (k:List (Nat × Option α)→β),fPut t v l k=k (putL t v l)
 | [],k=>rfl
 | p :: l,k=>by
  have e:fPut t v (p :: l) k=bif Nat.beq t p.1 then k ((t,some v) :: l) else fPut t v l fun l=>k (p :: l):=rfl
  have e2:putL t v (p :: l)=bif Nat.beq t p.1 then (t,some v) :: l else p :: putL t v l:=rfl
  rw [e,e2,fPut_eq t v l]
  cases Nat.beq t p.1 <;> rfl
def renL {α:Type} (d m:Nat) (l:List (Nat × Option α)):List (Nat × Option α):=List.rec (motive:=fun _=>List (Nat × Option α)) [] (fun p _ ih=>bif Nat.beq p.1 m then ih else (bif Nat.beq p.1 d then m else p.1,p.2) :: ih) l
theorem lkO_ren {α:Type} {d m:Nat} (h:d≠m):∀(l:List (Nat × Option α)) (x:Nat),lkO (renL d m l) x=if x=m then lkO l d else if x=d then none else lkO l x
 | [],x=>by
  show none=if x=m then none else if x=d then none else none
  split
  ·rfl
  ·split <;> rfl
 | (k,v) :: l,x=>by
  have e:renL d m ((k,v) :: l)=bif Nat.beq k m then renL d m l else (bif Nat.beq k d then m else k,v) :: renL d m l:=rfl
  have ih:=lkO_ren h l x
  rw [e,lkO_cons,lkO_cons]
  cases hm:Nat.beq k m with
  | true =>
   have:=kbeq hm
   subst this
   rw [cond_true,ih,if_neg h]
   by_cases hx:x=k
   ·rw [if_pos hx,if_pos hx]
   ·rw [if_neg hx,if_neg hx,if_neg hx]
  | false =>
   have hkm:k≠m:=fun e=>by rw [e,Nat.beq_refl]at hm;cases hm
   rw [cond_false,lkO_cons,ih]
   cases hd:Nat.beq k d with
   | true =>
    have:=kbeq hd
    subst this
    rw [cond_true,if_pos rfl]
    by_cases hx:x=m
    ·rw [if_pos hx,if_pos hx]
    ·rw [if_neg hx,if_neg hx,if_neg hx]
     by_cases hk:x=k
     ·rw [if_pos hk,if_pos hk]
     ·rw [if_neg hk,if_neg hk,if_neg hk]
   | false =>
    have hkd:k≠d:=fun e=>by rw [e,Nat.beq_refl]at hd;cases hd
    rw [cond_false,if_neg (Ne.symm hkd)]
    by_cases hx:x=k
    ·rw [if_pos hx,if_pos hx,if_neg (by rw [hx];exact hkm),if_neg (by rw [hx];exact hkd)]
    ·rw [if_neg hx,if_neg hx]
structure KS where
 tm:List (Nat × Option TV)
 mem:List (Nat × Option (List AV))
 own:List (Nat × Option OV)
 nx:Nat
 sn:Nat
def fKS {β:Type} (s:KS) (k:KS→β):β:=fL (fO fTV) s.tm fun tm=>fL (fO (fL (fAV 40))) s.mem fun mem=>fL (fO fOV) s.own fun own=>fN s.nx fun nx=>k ⟨tm,mem,own,nx,s.sn⟩
theorem fKS_eq {β:Type} (s:KS) (k:KS→β):fKS s k=k s:=by
 unfold fKS
 rw [fL_eq (fO_eq fTV_eq),fL_eq (fO_eq (fL_eq (fAV_eq 40))),fL_eq (fO_eq fOV_eq),fN_eq]
def KS.st (s:KS):AS:=⟨lkO s.tm,lkO s.mem,lkO s.own⟩
def KS.put (s:KS) (d:Option Nat) (v:TV):KS:=match d with
 | some t=>bif Nat.ble s.sn t then { s with tm:=(t,some v) :: s.tm } else { s with tm:=putL t v s.tm }
 | none=>s
def KS.frz (s:KS) (ts:List Nat):KS:={ s with tm:=mapK (fun _ x=>x.bind (frzT s.st ts)) s.tm,own:=filtK (fun t=>!ts.contains t) s.own }
def KS.frzB (s:KS) (ts:List Nat):KS:={ s with tm:=mapK (fun _ x=>x.bind (frzBT s.st.mem ts)) s.tm,mem:=mapK (fun t x=>bif ts.contains t then none else x) s.mem }
def KS.kop (s:KS):KOp→KS
 | .put d v=>s.put d v
 | .new t cs=>{ s with tm:=putL t (.ref t 0) (mapK (fun _ x=>stale t x) s.tm),mem:=putL t cs s.mem }
 | .setMem t cs=>{ s with mem:=putL t cs s.mem }
 | .setOwn t ov=>{ s with own:=putL t ov s.own }
 | .newOwn q d ov=>{ s with tm:=putL d (.osl d ov.k 0 ov.len) (mapK (fun _ x=>staleO d (match q with|some t=>staleO t x|none=>x)) s.tm),own:=putL d ov (match q with|some t=>filtK (fun x=>!Nat.beq x t) s.own|none=>s.own) }
 | .newMap d ov=>{ s with tm:=putL d (.omap d) (mapK (fun _ x=>staleO d x) s.tm),own:=putL d ov s.own }
 | .frz ts=>s.frz ts
def KS.kops (s:KS):List KOp→KS
 | []=>s
 | k :: l=>(s.kop k).kops l
def fS {α β:Type} (l:List (Nat × Option α)) (k:List (Nat × Option α)→β):β:=fL (fO fun x k=>k x) l k
theorem fS_eq {α β:Type} (l:List (Nat × Option α)) (k:List (Nat × Option α)→β):fS l k=k l:=by
 unfold fS
 rw [fL_eq (fO_eq fun _ _=>rfl)]
def fKSs {β:Type} (s:KS) (k:KS→β):β:=fS s.tm fun tm=>fS s.mem fun mem=>fS s.own fun own=>fN s.nx fun nx=>k ⟨tm,mem,own,nx,s.sn⟩
theorem fKSs_eq {β:Type} (s:KS) (k:KS→β):fKSs s k=k s:=by
 unfold fKSs
 rw [fS_eq,fS_eq,fS_eq,fN_eq]
def KS.kopF {β:Type} (s:KS) (o:KOp) (k:KS→β):β:=match s,o with
 | ⟨tm,mem,own,nx,sn⟩,.put d v=>(match d with
  | some t=>fTV v fun v=>bif Nat.ble sn t then k ⟨(t,some v) :: tm,mem,own,nx,sn⟩ else fPut t v tm fun tm=>k ⟨tm,mem,own,nx,sn⟩
  | none=>k ⟨tm,mem,own,nx,sn⟩)
 | ⟨tm,mem,own,nx,sn⟩,.setMem t cs=>fL (fAV 40) cs fun cs=>fPut t cs mem fun mem=>k ⟨tm,mem,own,nx,sn⟩
 | ⟨tm,mem,own,nx,sn⟩,.setOwn t ov=>fOV ov fun ov=>fPut t ov own fun own=>k ⟨tm,mem,own,nx,sn⟩
 | s,.new t cs=>fL (fAV 40) cs fun cs=>fKSs (s.kop (.new t cs)) k
 | s,.newOwn q d ov=>fOV ov fun ov=>fKSs (s.kop (.newOwn q d ov)) k
 | s,o=>fKS (s.kop o) k
theorem kopF_eq {β:Type} (s:KS) (o:KOp) (k:KS→β):s.kopF o k=k (s.kop o):=by
 obtain ⟨tm,mem,own,nx,sn⟩:=s
 cases o with
 | put d v=>cases d with
  | none=>rfl
  | some t =>
   simp only [KS.kopF,fTV_eq,KS.kop,KS.put,fPut_eq]
   cases Nat.ble sn t <;> rfl
 | new t cs=>simp only [KS.kopF,fL_eq (fAV_eq 40),fKSs_eq]
 | setMem t cs=>simp only [KS.kopF,fL_eq (fAV_eq 40),fPut_eq];rfl
 | setOwn t ov=>simp only [KS.kopF,fOV_eq,fPut_eq];rfl
 | newOwn q d ov=>simp only [KS.kopF,fOV_eq,fKSs_eq]
 | _=>simp only [KS.kopF,fKS_eq]
def KS.kopsF {β:Type}:List KOp→KS→(KS→β)→β
 | [],s,k=>k s
 | o :: l,s,k=>s.kopF o fun s=>KS.kopsF l s k
theorem kopsF_eq {β:Type}:∀(l:List KOp) (s:KS) (k:KS→β),KS.kopsF l s k=k (s.kops l)
 | [],_,_=>rfl
 | o :: l,s,k=>by
  simp only [KS.kopsF,kopF_eq,kopsF_eq l]
  rfl
theorem AS.ext3 {σ τ:AS} (h1:∀x,σ.tm x=τ.tm x) (h2:∀x,σ.mem x=τ.mem x) (h3:∀x,σ.own x=τ.own x):σ=τ:=by
 obtain ⟨a,b,c⟩:=σ
 obtain ⟨d,e,f⟩:=τ
 have e1:a=d:=funext h1
 have e2:b=e:=funext h2
 have e3:c=f:=funext h3
 rw [e1,e2,e3]
theorem put_st (s:KS) (d:Option Nat) (v:TV):(s.put d v).st=s.st.put d v:=by
 cases d with
 | none=>rfl
 | some t =>
  unfold KS.put
  dsimp only
  cases Nat.ble s.sn t with
  | true=>exact AS.ext3 (fun x=>congrFun (lkO_upd s.tm t (some v)) x) (fun _=>rfl) (fun _=>rfl)
  | false=>exact AS.ext3 (fun x=>lkO_put t v s.tm x) (fun _=>rfl) (fun _=>rfl)
theorem frz_st (s:KS) (ts:List Nat):(s.frz ts).st=s.st.frz ts:=by
 refine AS.ext3 (fun x=>?_) (fun _=>rfl) (fun x=>?_)
 ·exact lkO_map (fun _ x=>x.bind (frzT s.st ts)) (fun _=>rfl) s.tm x
 ·show lkO (filtK (fun t=>!ts.contains t) s.own) x=if ts.contains x then none else lkO s.own x
  rw [lkO_filt]
  cases ts.contains x <;> rfl
theorem frzB_st (s:KS) (ts:List Nat):(s.frzB ts).st=s.st.frzB ts:=by
 refine AS.ext3 (fun x=>?_) (fun x=>?_) (fun _=>rfl)
 ·exact lkO_map (fun _ x=>x.bind (frzBT s.st.mem ts)) (fun _=>rfl) s.tm x
 ·exact lkO_map (fun t x=>bif ts.contains t then none else x) (fun t=>by cases ts.contains t <;> rfl) s.mem x
theorem kop_st (s:KS) (k:KOp):(s.kop k).st=s.st.kop k:=by
 cases k with
 | put d v=>exact put_st s d v
 | new t cs =>
  refine AS.ext3 (fun x=>?_) (fun x=>lkO_put t cs s.mem x) (fun _=>rfl)
  show lkO (putL t (.ref t 0) (mapK (fun _ x=>stale t x) s.tm)) x=upd (fun x=>stale t (lkO s.tm x)) t _ x
  rw [lkO_put]
  unfold upd
  split
  ·rfl
  ·rw [lkO_map _ (fun _=>rfl)]
 | setMem t cs=>exact AS.ext3 (fun _=>rfl) (fun x=>lkO_put t cs s.mem x) (fun _=>rfl)
 | setOwn t ov=>exact AS.ext3 (fun _=>rfl) (fun _=>rfl) (fun x=>lkO_put t ov s.own x)
 | newOwn q d ov =>
  refine AS.ext3 (fun x=>?_) (fun _=>rfl) (fun x=>?_)
  ·show lkO (putL d (.osl d ov.k 0 ov.len) (mapK (fun _ x=>staleO d (match q with|some t=>staleO t x|none=>x)) s.tm)) x=upd (fun x=>staleO d (match q with|some t=>staleO t (lkO s.tm x)|none=>lkO s.tm x)) d _ x
   rw [lkO_put]
   unfold upd
   split
   ·rfl
   ·rw [lkO_map _ (fun _=>by cases q <;> rfl)]
  ·show lkO (putL d ov (match q with|some t=>filtK (fun x=>!Nat.beq x t) s.own|none=>s.own)) x=upd (match q with|some t=>upd (lkO s.own) t none|none=>lkO s.own) d (some ov) x
   rw [lkO_put]
   cases q with
   | none=>rfl
   | some t =>
    unfold upd
    split
    ·rfl
    ·show lkO (filtK (fun x=>!Nat.beq x t) s.own) x=if x=t then none else lkO s.own x
     rw [lkO_filt]
     by_cases hx:x=t
     ·rw [if_pos hx,hx,Nat.beq_refl];rfl
     ·rw [if_neg hx]
      cases hb:Nat.beq x t with
      | true=>exact absurd (kbeq hb) hx
      | false=>rfl
 | newMap d ov =>
  refine AS.ext3 (fun x=>?_) (fun _=>rfl) (fun x=>lkO_put d ov s.own x)
  show lkO (putL d (.omap d) (mapK (fun _ x=>staleO d x) s.tm)) x=upd (fun x=>staleO d (lkO s.tm x)) d _ x
  rw [lkO_put]
  unfold upd
  split
  ·rfl
  ·rw [lkO_map _ (fun _=>rfl)]
 | frz ts=>exact frz_st s ts
theorem kops_st:∀(l:List KOp) (s:KS),(s.kops l).st=applyK s.st l
 | [],_=>rfl
 | k :: l,s=>by
  show ((s.kop k).kops l).st=applyK (s.st.kop k) l
  rw [kops_st l (s.kop k),kop_st]
def KS.ren (s:KS) (d n:Nat):KS :=
 { s with
  tm:=mapK (fun _ x=>(staleO (BIG+n) (x.bind (wipeT [n]))).map (mvT d (BIG+n))) s.tm
  mem:=mapK (fun _ x=>x.bind fun cs=>if (memL cs).any [n].contains then none else some cs) s.mem
  own:=renL d (BIG+n) s.own }
def KS.shut (s:KS) (ns:List Nat):KS :=
 { s with
  tm:=mapK (fun _ x=>x.bind (shutT s.st ns)) s.tm
  mem:=mapK (fun _ x=>x.map (List.map (shutC s.st.own ns))) s.mem
  own:=filtK (fun t=>!(ns.map (BIG+·)).contains t) s.own }
def KS.move (s:KS):Move→KS
 | .ren d n=>s.ren d n
 | .shut ns=>s.shut ns
 | .frz ts=>s.frz ts
 | .frzB ts=>s.frzB ts
theorem ren_st (s:KS) {d n:Nat} (hd:d≠BIG+n):(s.ren d n).st=s.st.ren d n:=by
 refine AS.ext3 (fun x=>?_) (fun x=>?_) (fun x=>?_)
 ·show lkO (mapK (fun _ x=>(staleO (BIG+n) (x.bind (wipeT [n]))).map (mvT d (BIG+n))) s.tm) x=_
  rw [lkO_map _ (fun _=>rfl)]
  rfl
 ·show lkO (mapK (fun _ x=>x.bind fun cs=>if (memL cs).any [n].contains then none else some cs) s.mem) x=_
  rw [lkO_map _ (fun _=>rfl)]
  rfl
 ·show lkO (renL d (BIG+n) s.own) x=if x=BIG+n then upd (lkO s.own) (BIG+n) none d else if x=d then none else upd (lkO s.own) (BIG+n) none x
  rw [lkO_ren hd,upd_ne _ _ hd]
  by_cases h1:x=BIG+n
  ·rw [if_pos h1,if_pos h1]
  ·rw [if_neg h1,if_neg h1,upd_ne _ _ h1]
theorem shut_st (s:KS) (ns:List Nat):(s.shut ns).st=s.st.shut ns:=by
 refine AS.ext3 (fun x=>?_) (fun x=>?_) (fun x=>?_)
 ·exact lkO_map (fun _ x=>x.bind (shutT s.st ns)) (fun _=>rfl) s.tm x
 ·exact lkO_map (fun _ x=>x.map (List.map (shutC s.st.own ns))) (fun _=>rfl) s.mem x
 ·show lkO (filtK (fun t=>!(ns.map (BIG+·)).contains t) s.own) x=if (ns.map (BIG+·)).contains x then none else lkO s.own x
  rw [lkO_filt]
  cases (ns.map (BIG+·)).contains x <;> rfl
def moveQ (s:KS):Move→Bool
 | .ren d n=>Nat.blt d BIG && (lkO s.own d).isSome
 | .shut ns=>ns.all fun n=>(lkO s.own (BIG+n)).isSome
 | .frz _=>true
 | .frzB _=>true
theorem moveQ_ok {s:KS} {m:Move} (h:moveQ s m=true):moveOK s.st m∧(s.move m).st=s.st.move m:=by
 cases m with
 | ren d n =>
  obtain ⟨h1,h2⟩:=kand h
  have h1:=kblt h1
  have hd:d≠BIG+n:=by omega
  exact ⟨⟨hd,Option.isSome_iff_exists.1 h2⟩,ren_st s hd⟩
 | shut ns=>exact ⟨fun n hn=>Option.isSome_iff_exists.1 (List.all_eq_true.1 h n hn),shut_st s ns⟩
 | frz ts=>exact ⟨trivial,frz_st s ts⟩
 | frzB ts=>exact ⟨trivial,frzB_st s ts⟩
def movesQ:List Move→KS→Option KS
 | [],s=>some s
 | m :: ms,s=>bif moveQ s m then fKS (s.move m) (movesQ ms) else none
theorem movesQ_sound {K:AS→Prop}:∀(ms:List Move) {s s':KS},movesQ ms s=some s'→K s'.st→movesP K ms s.st
 | [],s,s',h,hK=>by cases h;exact hK
 | m :: ms,s,s',h,hK=>by
  obtain ⟨h1,h2⟩:=kif h
  rw [fKS_eq]at h2
  obtain ⟨h3,h4⟩:=moveQ_ok h1
  refine ⟨h3,?_⟩
  rw [←h4]
  exact movesQ_sound ms h2 hK
def loadQ (σ:AS) (a:AV):Option TV:=match a with
 | .lnk n len=>(match σ.own (BIG+n)with
  | some ov=>bif Nat.beq ov.len len then some (.osl (BIG+n) ov.k 0 len) else none
  | none=>none)
 | a=>some (avlT a)
theorem loadQ_sound {σ:AS} {a:AV} {v:TV} {k:TV→Prop} (h:loadQ σ a=some v) (hk:k v):loadK σ a k:=by
 cases a with
 | lnk n len =>
  unfold loadQ at h
  dsimp only at h
  cases ho:σ.own (BIG+n)with
  | none=>rw [ho]at h;cases h
  | some ov =>
   rw [ho]at h
   obtain ⟨h1,h2⟩:=kif h
   cases h2
   exact ⟨ov,ho,kbeq h1,hk⟩
 | _=>cases h;exact hk
def linksQ (a:AV):Bool:=match a.links with
 | []=>false
 | _=>true
def avlQ:Option TV→Option AV
 | some (.avl a)=>some a
 | _=>none
theorem avlQ_some {x:Option TV} {a:AV} (h:avlQ x=some a):x=some (.avl a):=by
 unfold avlQ at h
 split at h
 ·cases h;rfl
 ·cases h
def isLinkQ:Option TV→Bool
 | some (.avl _)=>true
 | some (.osl t _ _ _)=>Nat.ble BIG t
 | _=>false
def stepLQ (W:Asks) (T:TyTab) (o:Oper) (σ:AS):Option (List KOp):=match o.op with
 | .load ty x=>(match σ.get x with
  | some (.ref t off)=>(T ty).bind fun i=>(σ.mem t).bind fun cs=>(takeA i (cs.drop off)).bind fun a=>bif linksQ a then (loadQ σ a).map fun v=>[.put o.dst v] else none
  | _=>none)
 | .store ty x y=>bif isLinkQ (σ.get y) then (match σ.get x with
  | some (.ref t off)=>(T ty).bind fun i=>(σ.mem t).bind fun cs=>((σ.get y).bind linkV).bind fun z=>bif Nat.beq z.cells.length i.zero.length && (z.cells.all AV.oneM && (z.cells.all AV.noLimb && Nat.ble (off+z.cells.length) cs.length)) then some [.setMem t (splice cs off z.cells),.put o.dst .skip] else none
  | _=>none) else none
 | .build ty parts=>bif parts.toList.any (fun p=>isLinkQ (σ.get p.2)) then (strctQ T ty).bind fun p=>bif p.2.all AV.one then (fillW T σ p.1 p.2 parts.toList).map fun cs=>[.put o.dst (avlT (.agg cs))] else none else none
 | .extract x i=>(avlQ (σ.get x)).bind fun a=>(match a with
  | .tup l=>(l[i]?).bind fun a=>bif a.isTup then none else (loadQ σ a).map fun v=>[.put o.dst v]
  | _=>none)
 | .field ty x f=>(avlQ (σ.get x)).bind fun a=>(match a with
  | .agg cs=>(fldQ T ty f).bind fun p=>(T p.2.2).bind fun i=>bif cs.all AV.oneM then (takeA i (cs.drop p.1)).bind fun a=>(loadQ σ a).map fun v=>[.put o.dst v] else none
  | _=>none)
 | .box _ x=>o.dst.bind fun t=>(avlQ (σ.get x)).bind fun a=>bif a.cells.all AV.oneM && a.cells.all AV.noLimb then some [.new t a.cells] else none
 | .convert src dty x=>(match T src,T dty,σ.get x with
  | some ⟨.str,_,_⟩,some ⟨.slc e _ _,_,_⟩,some (.av (.lit (.string s)))=>bif isByteT T e then some [.put o.dst (.av (.sl 1 (s.data.toList.map byteA)))] else none
  | _,_,_=>none)
 | .call ⟨.builtin .append,⟨[x,y]⟩,⟨[ty,ty']⟩⟩=>bif Nat.beq ty' ty then (match T ty,σ.get y with
  | some ⟨.slc _ _ _,_,_⟩,some (.av yv)=>(match lenA yv with
   | some 0=>(σ.get x).bind fun xv=>(lenT xv).map fun _=>[.put o.dst xv]
   | _=>none)
  | _,_=>none) else none
 | .binOp op ty x y _=>(avQ (σ.get x)).bind fun a=>(avQ (σ.get y)).bind fun b=>(W.eq op ty x y a b).map fun r=>[.put o.dst (.av (.lit (.bool r)))]
 | _=>none
theorem stepLQ_sound {C:Ctx} {W:Asks} (H:AsksOK C W) {o:Oper} {σ:AS} {K:AS→Prop} {l:List KOp} (h:stepLQ W C.T o σ=some l) (hK:K (applyK σ l)):astepL C o σ K:=by
 obtain ⟨dst,op,type,pos,after,guard⟩:=o
 unfold stepLQ at h
 split at h
 ·rename_i ho;cases ho
  split at h
  ·rename_i t off hx
   obtain ⟨i,h1,h⟩:=kbind h
   obtain ⟨cs,h2,h⟩:=kbind h
   obtain ⟨a,h3,h⟩:=kbind h
   obtain ⟨_,h⟩:=kif h
   obtain ⟨v,h4,rfl⟩:=Option.map_eq_some_iff.1 h
   exact ⟨i,t,off,cs,a,h1,hx,h2,h3,loadQ_sound h4 hK⟩
  ·cases h
 ·rename_i ho;cases ho
  obtain ⟨_,h⟩:=kif h
  split at h
  ·rename_i t off hx
   obtain ⟨i,h1,h⟩:=kbind h
   obtain ⟨cs,h2,h⟩:=kbind h
   obtain ⟨z,h3,h⟩:=kbind h
   obtain ⟨h4,h⟩:=kif h
   obtain ⟨h4,h5⟩:=kand h4
   obtain ⟨h5,h6⟩:=kand h5
   obtain ⟨h6,h7⟩:=kand h6
   cases h
   exact ⟨i,t,off,cs,z,h1,hx,h2,h3,kbeq h4,h5,h6,Nat.le_of_ble_eq_true h7,hK⟩
  ·cases h
 ·rename_i ho;cases ho
  obtain ⟨_,h⟩:=kif h
  obtain ⟨p,h1,h⟩:=kbind h
  obtain ⟨h2,h⟩:=kif h
  obtain ⟨cs,h3,rfl⟩:=Option.map_eq_some_iff.1 h
  obtain ⟨b,h4⟩:=strctQ_some h1
  exact ⟨p.1,p.2,b,cs,h4,h2,h3,hK⟩
 ·rename_i ho;cases ho
  obtain ⟨a,h1,h⟩:=kbind h
  split at h
  ·rename_i vs
   obtain ⟨a,h2,h⟩:=kbind h
   cases h3:a.isTup with
   | true=>rw [h3]at h;cases h
   | false =>
    rw [h3]at h
    obtain ⟨v,h4,rfl⟩:=Option.map_eq_some_iff.1 h
    exact ⟨vs,a,avlQ_some h1,h2,h3,loadQ_sound h4 hK⟩
  ·cases h
 ·rename_i ho;cases ho
  obtain ⟨a,h1,h⟩:=kbind h
  split at h
  ·rename_i cs
   obtain ⟨p,h2,h⟩:=kbind h
   obtain ⟨i,h3,h⟩:=kbind h
   obtain ⟨h4,h⟩:=kif h
   obtain ⟨a,h5,h⟩:=kbind h
   obtain ⟨v,h6,rfl⟩:=Option.map_eq_some_iff.1 h
   obtain ⟨fs,z,b,h7,h8⟩:=fldQ_some h2
   exact ⟨fs,z,b,p.1,p.2.1,p.2.2,cs,i,a,h7,h8,avlQ_some h1,h4,h3,h5,loadQ_sound h6 hK⟩
  ·cases h
 ·rename_i ho;cases ho
  obtain ⟨t,h1,h⟩:=kbind h
  obtain ⟨a,h2,h⟩:=kbind h
  obtain ⟨h3,h⟩:=kif h
  obtain ⟨h3,h4⟩:=kand h3
  cases h
  exact ⟨t,a,h1,avlQ_some h2,h3,h4,hK⟩
 ·rename_i ho;cases ho
  split at h
  ·rename_i z b e k l z' b' s h1 h2 h3
   obtain ⟨h4,h⟩:=kif h
   cases h
   exact ⟨z,b,e,k,l,z',b',s,h1,h2,h4,h3,hK⟩
  ·cases h
 ·rename_i x y ty ty' ho;cases ho
  obtain ⟨h0,h⟩:=kif h
  have h0:=kbeq h0
  subst h0
  split at h
  ·rename_i e k l z b yv h1 h2
   split at h
   ·rename_i h3
    obtain ⟨xv,h4,h⟩:=kbind h
    obtain ⟨n,h5,rfl⟩:=Option.map_eq_some_iff.1 h
    exact ⟨x,y,_,e,k,l,z,b,yv,xv,n,rfl,rfl,h1,h2,h3,h4,h5,hK⟩
   ·cases h
  ·cases h
 ·rename_i ho;cases ho
  obtain ⟨a,h1,h⟩:=kbind h
  obtain ⟨b,h2,h⟩:=kbind h
  obtain ⟨r,h3,rfl⟩:=Option.map_eq_some_iff.1 h
  exact ⟨a,b,r,avQ_some h1,avQ_some h2,H.eq _ _ _ _ _ _ _ h3,hK⟩
 ·cases h
end
end Go.Proofs.YtcaahphghaddgaaGreatDoor
set_option linter.unusedSimpArgs false
set_option linter.unusedVariables false
namespace Go.Proofs.YtcaahphghaddgaaGreatDoor
open Go.RowKit Lim
noncomputable section
structure Frees where
 ns:List Nat
 ts:List Nat
 bs:List Nat
def freeQ (σ:AS) (x:Option TV) (f:Frees):Frees:=match x with
 | some (.avl a)=>⟨a.links ++ f.ns,f.ts,f.bs⟩
 | some (.osl t _ _ _)=>bif Nat.ble BIG t then ⟨(t-BIG) :: f.ns,f.ts,f.bs⟩ else ⟨f.ns,t :: f.ts,f.bs⟩
 | some (.ref t _)=>⟨(match σ.mem t with|some cs=>memL cs|none=>[]) ++ f.ns,f.ts,t :: f.bs⟩
 | _=>f
def freeR (σ:AS) (x:Option TV) (f:Frees):Frees:=match x with
 | some (.osl t _ _ _)=>bif Nat.ble BIG t then ⟨(t-BIG) :: f.ns,f.ts,f.bs⟩ else f
 | x=>freeQ σ x f
def freeA (σ:AS) (x:Option TV) (f:Frees):Frees:=match x with
 | some (.osl _ _ _ _)=>f
 | x=>freeQ σ x f
def uniqQ:List Nat→List Nat
 | []=>[]
 | t :: l=>bif memQ t l then uniqQ l else t :: uniqQ l
def Frees.moves (σ:AS) (f:Frees):List Move :=
 let ns:=(uniqQ f.ns).filter fun n=>(σ.own (BIG+n)).isSome
 (match ns with|[]=>[]|ns=>[.shut ns]) ++ ((match f.ts with|[]=>[]|ts=>[.frz ts]) ++ (match f.bs with|[]=>[]|bs=>[.frzB bs]))
def linkMv (σ:AS):List Nat→Nat→List (Option TV)→List Move × Nat
 | _,nx,[]=>([],nx)
 | seen,nx,some (.osl t k off len) :: l=>bif Nat.ble BIG t || memQ t seen then linkMv σ seen nx l else (match σ.own t with
  | some (.row _ _ es)=>bif Nat.beq off 0 && Nat.beq len es.length then (match linkMv σ (t :: seen) (nx+1) l with|(ms,nx')=>(.ren t nx :: ms,nx')) else (match linkMv σ (t :: seen) nx l with|(ms,nx')=>(.frz [t] :: ms,nx'))
  | _=>(match linkMv σ (t :: seen) nx l with|(ms,nx')=>(.frz [t] :: ms,nx')))
 | seen,nx,some (.ref t off) :: l=>(match linkMv σ seen nx l with|(ms,nx')=>((freeQ σ (some (.ref t off)) ⟨[],[],[]⟩).moves σ ++ ms,nx'))
 | seen,nx,_ :: l=>linkMv σ seen nx l
def freesL (σ:AS) (g:Option TV→Frees→Frees):List Operand→Frees
 | []=>⟨[],[],[]⟩
 | x :: l=>g (σ.get x) (freesL σ g l)
def preQ (nx:Nat) (σ:AS) (o:Oper):List Move × Nat:=match o.op with
 | .build _ parts=>linkMv σ [] nx (parts.toList.map fun p=>σ.get p.2)
 | .store _ x y=>(match σ.get x with
  | some (.ref _ _)=>linkMv σ [] nx [σ.get y]
  | _=>((freeR σ (σ.get y) ⟨[],[],[]⟩).moves σ,nx))
 | .buildSlice _ _ parts=>((freesL σ (freeR σ) (parts.toList.map (·.2))).moves σ,nx)
 | .mapUpdate _ _ _ y=>((freeR σ (σ.get y) ⟨[],[],[]⟩).moves σ,nx)
 | .makeInterface _ x=>((freeQ σ (σ.get x) ⟨[],[],[]⟩).moves σ,nx)
 | .makeFunc _ first captured=>((freesL σ (freeQ σ) (first.toList ++ captured.toList)).moves σ,nx)
 | .slice _ x _ _ _=>(match σ.get x with
  | some (.ref t off)=>((freeQ σ (some (.ref t off)) ⟨[],[],[]⟩).moves σ,nx)
  | _=>([],nx))
 | .call ⟨.value _,xs,_⟩=>((freesL σ (freeA σ) xs.toList).moves σ,nx)
 | .call ⟨.invoke _ _,xs,_⟩=>((freesL σ (freeA σ) xs.toList).moves σ,nx)
 | _=>([],nx)
def litsQ (T:TyTab) (o:Oper) (σ:AS):Option (List KOp):=match o.op with
 | .buildSlice ty n parts=>o.dst.bind fun t=>(slcQ T ty).bind fun p=>(T p.1).bind fun i=>match p.2.2 with
  | true=>none
  | false=>bif Nat.beq i.zero.length p.2.1 && (Nat.blt 0 p.2.1 && Nat.ble (n*p.2.1) 16777216) then
   (fillV T σ (places p.2.1 p.1 n 0) (List.replicate n i.zero).flatten parts.toList).bind fun cs=>bif cs.all AV.one && cs.all AV.noLimb then some (frzQ (σ.usedL (parts.toList.map (·.2))) [.newOwn none t (.row p.1 p.2.1 (chunk p.2.1 n cs))]) else none else none
 | _=>none
theorem litsQ_sound {C:Ctx} {o:Oper} {σ:AS} {K:AS→Prop} {l:List KOp} (h:litsQ C.T o σ=some l) (hK:K (applyK σ l)):litL C o σ K:=by
 obtain ⟨dst,op,type,pos,after,guard⟩:=o
 unfold litsQ at h
 split at h
 ·rename_i ty n parts ho;cases ho
  obtain ⟨t,h1,h⟩:=kbind h
  obtain ⟨p,h2,h⟩:=kbind h
  obtain ⟨i,h3,h⟩:=kbind h
  split at h
  ·cases h
  ·rename_i hl
   obtain ⟨h4,h⟩:=kif h
   obtain ⟨h4,h5⟩:=kand h4
   obtain ⟨h5,h6⟩:=kand h5
   obtain ⟨cs,h7,h⟩:=kbind h
   obtain ⟨h8,h⟩:=kif h
   obtain ⟨h8,h9⟩:=kand h8
   cases h
   rw [frzQ_eq]at hK
   obtain ⟨z,b,h10⟩:=slcQ_some h2
   rw [hl]at h10
   exact ⟨ty,n,parts,t,p.1,p.2.1,z,b,i,cs,rfl,h1,h10,h3,kbeq h4,kblt h5,Nat.le_of_ble_eq_true h6,h7,h8,h9,hK⟩
 ·cases h
def stepXQ (W:Asks) (o:Oper) (s:KS):Option KS:=match stepLQ W W.T o s.st with
 | some l=>KS.kopsF l s some
 | none=>(match litsQ W.T o s.st with
  | some l=>KS.kopsF l s some
  | none=>(stepQ W false o s.st).bind fun l=>KS.kopsF l s some)
def quickQ (T:TyTab) (o:Oper) (σ:AS):Option TV:=match o.op with
 | .move x=>σ.get x
 | .assign x=>σ.get x
 | .load ty x=>(σ.get x).bind fun v=>match v with
  | .ref t off=>(T ty).bind fun i=>(σ.mem t).bind fun cs=>(takeA i (cs.drop off)).bind fun a=>bif linksQ a then none else some (.av a)
  | .av (.ptr cs)=>(T ty).bind fun i=>(takeA i cs).map .av
  | _=>none
 | .fieldAddr ty x f=>(fldQ T ty f).bind fun p=>offT p.1 (σ.get x)
 | .extract x i=>(tupQ (σ.get x)).bind fun vs=>(vs[i]?).map .av
 | .indexAddr ty x ix=>(T ty).bind fun i=>(σ.get x).bind fun s=>(natQ (σ.get ix)).bind fun n=>idxF i s n
 | .binOp op ty x y _=>(litQ (σ.get x)).bind fun a=>(litQ (σ.get y)).bind fun b=>(binF (isBoolT T ty) op a b).map fun r=>.av (.lit r)
 | .unOp op _ x=>(litQ (σ.get x)).bind fun a=>(unF op a).map fun r=>.av (.lit r)
 | _=>none
theorem quickQ_sound {C:Ctx} {dr:Bool} {o:Oper} {σ:AS} {K:AS→Prop} {v:TV} (h:quickQ C.T o σ=some v) (hK:K (σ.put o.dst v)):astep C dr o σ K:=by
 obtain ⟨dst,op,type,pos,after,guard⟩:=o
 cases op with
 | move x=>exact ⟨v,h,hK⟩
 | assign x=>exact ⟨v,h,hK⟩
 | load ty x =>
  obtain ⟨u,h1,h⟩:=kbind h
  cases u with
  | ref t off =>
   obtain ⟨i,h2,h⟩:=kbind h
   obtain ⟨cs,h3,h⟩:=kbind h
   obtain ⟨a,h4,h⟩:=kbind h
   cases hl:linksQ a with
   | true=>rw [hl]at h;cases h
   | false =>
    rw [hl]at h
    cases h
    exact ⟨_,⟨i,cs.drop off,a,h2,by rw [h1];show (σ.mem t).map _=_;rw [h3];rfl,h4,rfl⟩,hK⟩
  | av b =>
   cases b with
   | ptr cs =>
    obtain ⟨i,h2,h⟩:=kbind h
    obtain ⟨a,h4,rfl⟩:=Option.map_eq_some_iff.1 h
    exact ⟨_,⟨i,cs,a,h2,by rw [h1];rfl,h4,rfl⟩,hK⟩
   | _=>cases h
  | _=>cases h
 | fieldAddr ty x f=>exact ⟨v,avalQ_sound (o:=⟨dst,.fieldAddr ty x f,type,pos,after,guard⟩) h,hK⟩
 | extract x i=>exact ⟨v,avalQ_sound (o:=⟨dst,.extract x i,type,pos,after,guard⟩) h,hK⟩
 | indexAddr ty x ix=>exact ⟨v,avalQ_sound (o:=⟨dst,.indexAddr ty x ix,type,pos,after,guard⟩) h,hK⟩
 | binOp b ty x y yt=>exact ⟨v,avalQ_sound (o:=⟨dst,.binOp b ty x y yt,type,pos,after,guard⟩) h,hK⟩
 | unOp b xt x=>exact ⟨v,avalQ_sound (o:=⟨dst,.unOp b xt x,type,pos,after,guard⟩) h,hK⟩
 | _=>cases h
def oneX (W:Asks) (ops:Array Oper) (o:Oper) (s:KS):Option KS:=(wantedA ops s.st o).bind fun b=>match b with
 | false=>s.kopF (.put o.dst .skip) some
 | true=>match quickQ W.T o s.st with
  | some v=>s.kopF (.put o.dst v) some
  | none=>(movesQ (preQ s.nx s.st o).1 { s with nx:=(preQ s.nx s.st o).2 }).bind fun s1=>(wantedA ops s1.st o).bind fun b=>match b with
  | false=>none
  | true=>stepXQ W o s1
def runX (W:Asks) (ops:Array Oper):List Oper→KS→Option KS
 | [],s=>some s
 | o :: l,s=>(oneX W ops o s).bind fun s=>runX W ops l s
def runD (W:Asks) (ops:Array Oper):List Oper→KS→Option KS
 | [],s=>some s
 | o :: l,s=>(wantedA ops s.st o).bind fun b=>match b with
  | false=>s.kopF (.put o.dst .skip) (runD W ops l)
  | true=>match quickQ W.T o s.st with
   | some v=>s.kopF (.put o.dst v) (runD W ops l)
   | none=>(stepQ W true o s.st).bind fun ks=>KS.kopsF ks s (runD W ops l)
def KS.prep (n:Nat) (d:Bool) (bad:List Nat) (s:KS):KS :=
 { s with tm:=mapK (fun x v=>v.bind (staleK d x bad)) (filtK (fun k=>Nat.blt k n) s.tm),sn:=n }
section
variable {C:Ctx} {W:Asks} {K:AS→Prop} {ops:Array Oper}
theorem stepXQ_sound (H:AsksOK C W) {o:Oper} {s s':KS} (h:stepXQ W o s=some s') (hK:K s'.st):stepX C o s.st K:=by
 unfold stepXQ at h
 split at h
 ·rename_i l h1
  rw [kopsF_eq]at h
  cases h
  rw [kops_st]at hK
  rw [H.T]at h1
  exact .inr (.inr (stepLQ_sound H h1 hK))
 ·split at h
  ·rename_i l h1
   rw [kopsF_eq]at h
   cases h
   rw [kops_st]at hK
   rw [H.T]at h1
   exact .inr (.inl (.inr (litsQ_sound h1 hK)))
  ·obtain ⟨l,h1,h⟩:=kbind h
   rw [kopsF_eq]at h
   cases h
   rw [kops_st]at hK
   exact .inl (stepQ_sound H h1 hK)
theorem oneX_sound (H:AsksOK C W) {o:Oper} {s s':KS} (h:oneX W ops o s=some s') (hK:K s'.st):∃ms,movesP (fun σ=>stepGX C ops o σ K) ms s.st:=by
 obtain ⟨b,h1,h⟩:=kbind h
 cases b with
 | false =>
  rw [kopF_eq]at h
  cases h
  rw [kop_st]at hK
  exact ⟨[],false,h1,(fun h=>by cases h),fun _=>hK⟩
 | true =>
  dsimp only at h
  split at h
  ·rename_i v hv
   rw [kopF_eq]at h
   cases h
   rw [kop_st]at hK
   rw [H.T]at hv
   exact ⟨[],true,h1,fun _=>.inl (quickQ_sound hv hK),fun h=>by cases h⟩
  obtain ⟨s1,h2,h⟩:=kbind h
  obtain ⟨b,h4,h⟩:=kbind h
  cases b with
  | false=>cases h
  | true=>exact ⟨(preQ s.nx s.st o).1,movesQ_sound (s:={ s with nx:=(preQ s.nx s.st o).2 }) _ h2 ⟨true,h4,fun _=>stepXQ_sound H h hK,fun h=>by cases h⟩⟩
theorem runX_sound (H:AsksOK C W):∀(l:List Oper) {s s':KS},runX W ops l s=some s'→K s'.st→arunX C ops l s.st K
 | [],s,s',h,hK=>by cases h;exact hK
 | o :: l,s,s',h,hK=>by
  obtain ⟨s1,h1,h⟩:=kbind h
  exact oneX_sound H h1 (runX_sound H l h hK)
theorem runD_sound (H:AsksOK C W):∀(l:List Oper) {s s':KS},runD W ops l s=some s'→K s'.st→arun C true ops l s.st K
 | [],s,s',h,hK=>by cases h;exact hK
 | o :: l,s,s',h,hK=>by
  obtain ⟨b,h1,h⟩:=kbind h
  cases b with
  | false =>
   refine ⟨false,h1,(fun h=>by cases h),fun _=>?_⟩
   rw [kopF_eq]at h
   have:=runD_sound H l h hK
   rw [kop_st]at this
   exact this
  | true =>
   dsimp only at h
   split at h
   ·rename_i v hv
    rw [kopF_eq]at h
    have:=runD_sound H l h hK
    rw [kop_st]at this
    rw [H.T]at hv
    exact ⟨true,h1,fun _=>quickQ_sound hv this,fun h=>by cases h⟩
   obtain ⟨ks,h2,h⟩:=kbind h
   refine ⟨true,h1,fun _=>stepQ_sound H h2 ?_,fun h=>by cases h⟩
   rw [←kops_st]
   rw [kopsF_eq]at h
   exact runD_sound H l h hK
theorem prep_st (n:Nat) (d:Bool) (s:KS):(s.prep n d (badOf d ops.toList)).st=prep n d ops s.st:=by
 refine AS.ext3 (fun x=>?_) (fun _=>rfl) (fun _=>rfl)
 show lkO (mapK (fun x v=>v.bind (staleK d x (badOf d ops.toList))) (filtK (fun k=>Nat.blt k n) s.tm)) x=if x<n then (lkO s.tm x).bind (staleK d x (badOf d ops.toList)) else none
 rw [lkO_map _ (fun _=>rfl),lkO_filt]
 by_cases h:x<n
 ·rw [if_pos h]
  have:Nat.blt x n=true:=Nat.ble_eq_true_of_le h
  rw [this];rfl
 ·rw [if_neg h]
  cases hb:Nat.blt x n with
  | true=>exact absurd (kblt hb) h
  | false=>rfl
theorem frzB_nil (σ:AS):σ.frzB []=σ:=by
 refine AS.ext3 (fun x=>?_) (fun _=>rfl) (fun _=>rfl)
 show (σ.tm x).bind (frzBT σ.mem [])=σ.tm x
 cases σ.tm x with
 | none=>rfl
 | some v=>cases v <;> rfl
end
end
end Go.Proofs.YtcaahphghaddgaaGreatDoor
