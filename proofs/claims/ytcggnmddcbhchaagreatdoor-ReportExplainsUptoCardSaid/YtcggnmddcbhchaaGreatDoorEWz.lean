import Derived.Test.YtcggnmddcbhchaaGreatDoorEXP
import Derived.Test.YtcggnmddcbhchaaGreatDoorEXL
/- Texts merged: XJ XQ XR XS XU XV XN. -/
set_option linter.unusedSimpArgs false
set_option linter.unusedVariables false
namespace Go.Proofs.YtcggnmddcbhchaaGreatDoor
open Go.RowKit Lim
theorem eqv_self:∀t:VT,VT.eqv t t=some ⟨rfl⟩
 | .int k=>by simp [VT.eqv]
 | .bool=>rfl
 | .str=>rfl
 | .byte=>rfl
 | .nat=>rfl
 | .natz=>rfl
 | .sl k e=>by simp [VT.eqv,eqv_self e]
 | .slz k e=>by simp [VT.eqv,eqv_self e]
 | .unit=>rfl
 | .pair a b=>by simp [VT.eqv,eqv_self a,eqv_self b]
 | .raw=>rfl
theorem eqvL_self:∀ts:List VT,eqvL ts ts=some ⟨rfl⟩
 | []=>rfl
 | t :: ts=>by simp [eqvL,eqv_self t,eqvL_self ts]
theorem castL_self (ts:List VT) (x:denL ts):castL ts ts x=some x:=by simp [castL,eqvL_self]
def Ans.out {R:Type} (dp:Nat):Ans R→Bool
 | .ret _=>true
 | .cont d _ _=>!Nat.beq d dp
section
variable {R:Type} {dp:Nat} {ts:List VT} {step:denL ts→Option (Ans R)}
theorem loopA_go {n:Nat} {x y:denL ts} (h:step x=some (.cont dp ts y)):loopA dp ts step (n+1) x=loopA dp ts step n y:=by
 rw [loopA_succ,h]
 simp only [Option.bind_some,Nat.beq_refl,cond_true,castL_self]
theorem loopA_end {n:Nat} {x:denL ts} {a:Ans R} (h:step x=some a) (ha:a.out dp=true):loopA dp ts step (n+1) x=some a:=by
 rw [loopA_succ,h]
 cases a with
 | ret r=>rfl
 | cont d us y =>
  simp only [Ans.out,Bool.not_eq_true']at ha
  simp only [Option.bind_some,ha,cond_false]
theorem loopA_range {N n:Nat} {a:Ans R} (S:Nat→denL ts) (h1:∀k,k<N→step (S k)=some (.cont dp ts (S (k+1)))) (h2:step (S N)=some a) (ha:a.out dp=true) (hn:N<n):loopA dp ts step n (S 0)=some a:=by
 have key:∀j k,k+j=N→∀m,j<m→loopA dp ts step m (S k)=some a:=by
  intro j
  induction j with
  | zero =>
   intro k hk m hm
   obtain ⟨m,rfl⟩:=Nat.exists_eq_succ_of_ne_zero (show m≠0 by omega)
   have:k=N:=by omega
   subst this
   exact loopA_end h2 ha
  | succ j ih =>
   intro k hk m hm
   obtain ⟨m,rfl⟩:=Nat.exists_eq_succ_of_ne_zero (show m≠0 by omega)
   rw [loopA_go (h1 k (by omega))]
   exact ih (k+1) (by omega) m (by omega)
 exact key N 0 (by omega) n hn
theorem loopA_inv {n:Nat} {a:Ans R} (I:denL ts→Prop) (μ:denL ts→Nat) (h:∀x,I x→(step x=some a∧a.out dp=true)∨∃y,step x=some (.cont dp ts y)∧I y∧μ y<μ x) (x:denL ts) (hx:I x) (hn:μ x<n):loopA dp ts step n x=some a:=by
 induction n generalizing x with
 | zero=>omega
 | succ n ih =>
  rcases h x hx with ⟨h1,h2⟩|⟨y,h1,h2,h3⟩
  ·exact loopA_end h1 h2
  ·rw [loopA_go h1]
   exact ih y h2 (by omega)
end
theorem fuel_lt {k:Nat} (h:k<18446744073709551616):k<fuel:=h
theorem ix_get {α:Type} {l:List α} {k:Nat} {x:α} (h:l[k]? = some x):ix l (k:Int)=some x:=by
 unfold ix
 simp [h]
theorem ix_lt {α:Type} {l:List α} {k:Nat} (h:k<l.length):ix l (k:Int)=some l[k]:=ix_get (List.getElem?_eq_getElem h)
theorem ix_zero {α:Type} {a:α} {l:List α}:ix (a :: l) 0=some a:=rfl
theorem w64 {z:Int} (h1:-9223372036854775808≤z) (h2:z≤9223372036854775807):IntKind.wrap .i64 z=z:=IntWalk.i64_in _ ⟨by omega,by omega⟩
theorem w64n {k:Nat} (h:k<9223372036854775807):IntKind.wrap .i64 ((k:Int)+1)=((k+1:Nat):Int):=by rw [w64 (by omega) (by omega)];omega
theorem capB_le {n b:Nat} (h:n*b≤140737488355328):capB n b=true:=Nat.ble_eq_true_of_le h
theorem strB_le {m n:Nat} (h:m+n≤9223372036854775807):strB m n=true:=Nat.ble_eq_true_of_le h
theorem dlt {k n:Nat} (h:k<n):decide ((k:Int)<(n:Nat))=true:=by simp;omega
theorem dge {k n:Nat} (h:n≤k):decide ((k:Int)<(n:Nat))=false:=by simp;omega
theorem sub_le {α:Type} {l:List α} {a b:Nat} (h1:a≤b) (h2:b≤l.length):sub l (a:Int) (b:Int)=some ((l.take b).drop a):=by
 unfold sub
 have:(decide ((0:Int)≤(a:Nat)) && (decide ((a:Int)≤(b:Nat)) && decide ((b:Int)≤(l.length:Nat))))=true:=by simp;omega
 rw [this]
 rfl
theorem bind_go {α β:Type} {o:Option α} {x:α} {f:α→Option β} (h:o=some x):o.bind f=f x:=by rw [h];rfl
theorem u64w {z:Int} (h1:0≤z) (h2:z<18446744073709551616):IntKind.wrap .u64 z=z:=IntWalk.u64_in _ ⟨by omega,by omega⟩
theorem bif_self {α:Type} (b:Bool) (x:α):(bif b then x else x)=x:=by cases b <;> rfl
end Go.Proofs.YtcggnmddcbhchaaGreatDoor
set_option linter.unusedSimpArgs false
set_option linter.unusedVariables false
namespace Go.Proofs.YtcggnmddcbhchaaGreatDoor
open Go.RowKit Lim
theorem d3Sign_m {F:Nat} (n0:Nat) (x0_0:Bool) (x0_1 x0_2:List Nat):DF F (n0+1) 34 [.o (.agg [⟨.bool,x0_0⟩,⟨.nat,x0_1⟩,⟨.nat,x0_2⟩])] [.c (.int .i64)]=unwrapA ((DF F n0 76 [.o (.agg [⟨tB,x0_0⟩,⟨tN,x0_1⟩,⟨tN,x0_2⟩])] [.agg [tB,tN]]).bind fun x=>(DF F n0 75 [.o (.agg [⟨tB,x.1⟩,⟨tN,x.2.1⟩])] [.c (tI)]).bind fun x=>some (.ret (x.1,()))):=by kernel_rfl
theorem d2Of_m {F:Nat} (n0:Nat) (x0:Int):DF F (n0+1) 70 [.o (.c ⟨(.int .i64),x0⟩)] [.agg [.bool,.nat]]=unwrapA (bif decide (x0<0) then (DF F n0 72 [.o (.c ⟨VT.int IntKind.u64,IntKind.u64.wrap (IntKind.u64.wrap (IntKind.i64.wrap (0-IntKind.i64.wrap (x0+1)))+1)⟩)] [.c tN]).bind fun x=>(DF F n0 135 [vB true,vN x.1] [.agg [tB,tN]]).bind fun x=>some (.ret (x.1,x.2.1,())) else (DF F n0 72 [.o (.c ⟨VT.int IntKind.u64,IntKind.u64.wrap x0⟩)] [.c tN]).bind fun x=>(DF F n0 135 [vB false,vN x.1] [.agg [tB,tN]]).bind fun x=>some (.ret (x.1,x.2.1,()))):=by kernel_rfl
theorem d1Cmp_m {F:Nat} (n0:Nat) (x0 x1:List Nat):DF F (n0+1) 71 [.o (.c ⟨.nat,x0⟩),.o (.c ⟨.nat,x1⟩)] [.c (.int .i64)]=unwrapA (loopA 0 [tI,tI] (fun x=>bif decide (0≤x.1) then (DF F n0 136 [vN x0,vI x.1] [.c (VT.int IntKind.u64)]).bind fun x_1=>(DF F n0 136 [vN x1,vI x.1] [.c (VT.int IntKind.u64)]).bind fun x_2=>bif decide (x_1.1<x_2.1) then some (.ret (-1,())) else bif decide (x_2.1<x_1.1) then some (.ret (1,())) else some (.cont 0 [tI,tI] (IntKind.i64.wrap (x.1-1),x.2.1,())) else some (.ret (0,()))) F (IntKind.i64.wrap (maxI2 (Nat.cast (R:=Int) (List.length x0)) (Nat.cast (R:=Int) (List.length x1))-1),0,())):=by kernel_rfl
theorem d1Of_m {F:Nat} (n0:Nat) (x0:Int):DF F (n0+1) 72 [.o (.c ⟨(.int .u64),x0⟩)] [.c .nat]=unwrapA ((bif u32B (IntKind.u32.wrap x0) then Option.map (fun m=>(IntKind.u32.wrap x0).toNat :: m) (bif u32B (IntKind.u32.wrap (Int.fdiv x0 (2 ^ min (Int.toNat 32) IntKind.u64.bits))) then some [(IntKind.u32.wrap (Int.fdiv x0 (2 ^ min (Int.toNat 32) IntKind.u64.bits))).toNat] else none) else none).bind fun ns=>(DF F n0 133 [vN ns] [.c tN]).bind fun x=>some (.ret (x.1,()))):=by kernel_rfl
theorem d2Sign_m {F:Nat} (n0:Nat) (x0_0:Bool) (x0_1:List Nat):DF F (n0+1) 75 [.o (.agg [⟨.bool,x0_0⟩,⟨.nat,x0_1⟩])] [.c (.int .i64)]=unwrapA ((DF F n0 115 [.o (.agg [⟨tB,x0_0⟩,⟨tN,x0_1⟩])] [.agg [tB,tN]]).bind fun x=>bif (Nat.cast (R:=Int) (List.length x.2.1)) == 0 then some (.ret (0,())) else bif x.1 then some (.ret (-1,())) else some (.ret (1,()))):=by kernel_rfl
theorem d3top_m {F:Nat} (n0:Nat) (x0_0:Bool) (x0_1 x0_2:List Nat):DF F (n0+1) 76 [.o (.agg [⟨.bool,x0_0⟩,⟨.nat,x0_1⟩,⟨.nat,x0_2⟩])] [.agg [.bool,.nat]]=unwrapA ((DF F n0 137 [vN x0_2] [.c (tI)]).bind fun x=>bif x.1 == 0 then (DF F n0 70 [vI 0] [.agg [tB,tN]]).bind fun x=>some (.ret (x.1,x.2.1,())) else (DF F n0 115 [.o (.agg [⟨tB,x0_0⟩,⟨tN,x0_1⟩])] [.agg [tB,tN]]).bind fun x=>some (.ret (x.1,x.2.1,()))):=by kernel_rfl
theorem d1Mul_m {F:Nat} (n0:Nat) (x0 x1:List Nat):DF F (n0+1) 108 [.o (.c ⟨.nat,x0⟩),.o (.c ⟨.nat,x1⟩)] [.c .nat]=unwrapA (bif mkB (IntKind.i64.wrap ((Nat.cast (R:=Int) (List.length x0))+(Nat.cast (R:=Int) (List.length x1)))) (IntKind.i64.wrap ((Nat.cast (R:=Int) (List.length x0))+(Nat.cast (R:=Int) (List.length x1)))) 4 then loopA 0 [tI,tN] (fun x=>bif decide (x.1<(Nat.cast (R:=Int) (List.length x0))) then loopA 1 [tI,VT.int IntKind.u64,tN] (fun x_1=>bif decide (x_1.1<(Nat.cast (R:=Int) (List.length x1))) then bif Nat.beq 1 1 && (decide (0≤IntKind.i64.wrap (x.1+x_1.1)) && decide ((IntKind.i64.wrap (x.1+x_1.1)).toNat<List.length x_1.2.2.1)) then x_1.2.2.1[(IntKind.i64.wrap (x.1+x_1.1)).toNat]?.bind fun n=>(ix x0 x.1).bind fun y=>(ix x1 x_1.1).bind fun y_1=>bif Nat.beq 1 1 && (decide (0≤IntKind.i64.wrap (x.1+x_1.1)) && decide ((IntKind.i64.wrap (x.1+x_1.1)).toNat<List.length x_1.2.2.1)) then bif Nat.beq 0 0 && decide ((IntKind.i64.wrap (x.1+x_1.1)).toNat<List.length x_1.2.2.1) then bif u32B (IntKind.u32.wrap (IntKind.u64.wrap (IntKind.u64.wrap (IntKind.u64.wrap (Nat.cast (R:=Int) n)+IntKind.u64.wrap (IntKind.u64.wrap (Nat.cast (R:=Int) y)*IntKind.u64.wrap (Nat.cast (R:=Int) y_1)))+x_1.2.1))) then some (.cont 1 [tI,VT.int IntKind.u64,tN] (IntKind.i64.wrap (x_1.1+1),(IntKind.u64.wrap (IntKind.u64.wrap (IntKind.u64.wrap (Nat.cast (R:=Int) n)+IntKind.u64.wrap (IntKind.u64.wrap (Nat.cast (R:=Int) y)*IntKind.u64.wrap (Nat.cast (R:=Int) y_1)))+x_1.2.1)).fdiv (2 ^ min (Int.toNat 32) IntKind.u64.bits),List.set x_1.2.2.1 (IntKind.i64.wrap (x.1+x_1.1)).toNat (IntKind.u32.wrap (IntKind.u64.wrap (IntKind.u64.wrap (IntKind.u64.wrap (Nat.cast (R:=Int) n)+IntKind.u64.wrap (IntKind.u64.wrap (Nat.cast (R:=Int) y)*IntKind.u64.wrap (Nat.cast (R:=Int) y_1)))+x_1.2.1))).toNat,())) else none else none else none else none else bif Nat.beq 1 1 && (decide (0≤IntKind.i64.wrap (x.1+(Nat.cast (R:=Int) (List.length x1)))) && decide ((IntKind.i64.wrap (x.1+(Nat.cast (R:=Int) (List.length x1)))).toNat<List.length x_1.2.2.1)) then bif Nat.beq 0 0 && decide ((IntKind.i64.wrap (x.1+(Nat.cast (R:=Int) (List.length x1)))).toNat<List.length x_1.2.2.1) then bif u32B (IntKind.u32.wrap x_1.2.1) then some (.cont 0 [tI,tN] (IntKind.i64.wrap (x.1+1),List.set x_1.2.2.1 (IntKind.i64.wrap (x.1+(Nat.cast (R:=Int) (List.length x1)))).toNat (IntKind.u32.wrap x_1.2.1).toNat,())) else none else none else none) F (0,0,x.2.1,()) else (DF F n0 133 [vN x.2.1] [.c tN]).bind fun x=>bif List.isEmpty x.1 then some (.ret (x.1,())) else some (.ret (x.1,()))) F (0,List.replicate (IntKind.i64.wrap ((Nat.cast (R:=Int) (List.length x0))+(Nat.cast (R:=Int) (List.length x1)))).toNat 0,()) else none):=by kernel_rfl
theorem d3Mul_m {F:Nat} (n0:Nat) (x0_0:Bool) (x0_1 x0_2:List Nat) (x1_0:Bool) (x1_1 x1_2:List Nat):DF F (n0+1) 112 [.o (.agg [⟨.bool,x0_0⟩,⟨.nat,x0_1⟩,⟨.nat,x0_2⟩]),.o (.agg [⟨.bool,x1_0⟩,⟨.nat,x1_1⟩,⟨.nat,x1_2⟩])] [.agg [.bool,.nat,.nat]]=unwrapA ((DF F n0 76 [.o (.agg [⟨tB,x0_0⟩,⟨tN,x0_1⟩,⟨tN,x0_2⟩])] [.agg [tB,tN]]).bind fun x=>(DF F n0 76 [.o (.agg [⟨tB,x1_0⟩,⟨tN,x1_1⟩,⟨tN,x1_2⟩])] [.agg [tB,tN]]).bind fun x_1=>(DF F n0 165 [.o (.agg [⟨tB,x.1⟩,⟨tN,x.2.1⟩]),.o (.agg [⟨tB,x_1.1⟩,⟨tN,x_1.2.1⟩])] [.agg [tB,tN]]).bind fun x=>(DF F n0 132 [.o (.agg [⟨tB,x0_0⟩,⟨tN,x0_1⟩,⟨tN,x0_2⟩])] [.c tN]).bind fun x_2=>(DF F n0 132 [.o (.agg [⟨tB,x1_0⟩,⟨tN,x1_1⟩,⟨tN,x1_2⟩])] [.c tN]).bind fun x_3=>(DF F n0 108 [vN x_2.1,vN x_3.1] [.c tN]).bind fun x_4=>(DF F n0 131 [.o (.agg [⟨tB,x.1⟩,⟨tN,x.2.1⟩]),vN x_4.1] [.agg [tB,tN,tN]]).bind fun x=>some (.ret (x.1,x.2.1,x.2.2.1,()))):=by kernel_rfl
theorem d2Norm_m {F:Nat} (n0:Nat) (x0_0:Bool) (x0_1:List Nat):DF F (n0+1) 115 [.o (.agg [⟨.bool,x0_0⟩,⟨.nat,x0_1⟩])] [.agg [.bool,.nat]]=unwrapA ((DF F n0 133 [vN x0_1] [.c tN]).bind fun x=>bif x0_0 then some (.ret (decide (0<(Nat.cast (R:=Int) (List.length x.1))),x.1,())) else some (.ret (false,x.1,()))):=by kernel_rfl
theorem d3Floor_m {F:Nat} (n0:Nat) (x0_0:Bool) (x0_1 x0_2:List Nat):DF F (n0+1) 116 [.o (.agg [⟨.bool,x0_0⟩,⟨.nat,x0_1⟩,⟨.nat,x0_2⟩])] [.agg [.bool,.nat]]=unwrapA ((DF F n0 76 [.o (.agg [⟨tB,x0_0⟩,⟨tN,x0_1⟩,⟨tN,x0_2⟩])] [.agg [tB,tN]]).bind fun x=>(DF F n0 132 [.o (.agg [⟨tB,x0_0⟩,⟨tN,x0_1⟩,⟨tN,x0_2⟩])] [.c tN]).bind fun x_1=>(DF F n0 135 [vB false,vN x_1.1] [.agg [tB,tN]]).bind fun x_2=>(DF F n0 167 [.o (.agg [⟨tB,x.1⟩,⟨tN,x.2.1⟩]),.o (.agg [⟨tB,x_2.1⟩,⟨tN,x_2.2.1⟩])] [.agg [tB,tN],.agg [tB,tN],.c tB]).bind fun x=>some (.ret (x.1,x.2.1,()))):=by kernel_rfl
theorem d3Sub_m {F:Nat} (n0:Nat) (x0_0:Bool) (x0_1 x0_2:List Nat) (x1_0:Bool) (x1_1 x1_2:List Nat):DF F (n0+1) 118 [.o (.agg [⟨.bool,x0_0⟩,⟨.nat,x0_1⟩,⟨.nat,x0_2⟩]),.o (.agg [⟨.bool,x1_0⟩,⟨.nat,x1_1⟩,⟨.nat,x1_2⟩])] [.agg [.bool,.nat,.nat]]=unwrapA ((DF F n0 170 [.o (.agg [⟨tB,x1_0⟩,⟨tN,x1_1⟩,⟨tN,x1_2⟩])] [.agg [tB,tN,tN]]).bind fun x=>(DF F n0 169 [.o (.agg [⟨tB,x0_0⟩,⟨tN,x0_1⟩,⟨tN,x0_2⟩]),.o (.agg [⟨tB,x.1⟩,⟨tN,x.2.1⟩,⟨tN,x.2.2.1⟩])] [.agg [tB,tN,tN]]).bind fun x=>some (.ret (x.1,x.2.1,x.2.2.1,()))):=by kernel_rfl
theorem d2Add_m {F:Nat} (n0:Nat) (x0_0:Bool) (x0_1:List Nat) (x1_0:Bool) (x1_1:List Nat):DF F (n0+1) 119 [.o (.agg [⟨.bool,x0_0⟩,⟨.nat,x0_1⟩]),.o (.agg [⟨.bool,x1_0⟩,⟨.nat,x1_1⟩])] [.agg [.bool,.nat]]=unwrapA (bif x0_0 == x1_0 then (DF F n0 171 [vN x0_1,vN x1_1] [.c tN]).bind fun x=>(DF F n0 135 [vB x0_0,vN x.1] [.agg [tB,tN]]).bind fun x=>some (.ret (x.1,x.2.1,())) else (DF F n0 172 [vN x0_1,vN x1_1] [.c tN,.c tB]).bind fun x=>bif x.2.1 then (DF F n0 135 [vB x0_0,vN x.1] [.agg [tB,tN]]).bind fun x=>some (.ret (x.1,x.2.1,())) else (DF F n0 172 [vN x1_1,vN x0_1] [.c tN,.c tB]).bind fun x=>(DF F n0 135 [vB x1_0,vN x.1] [.agg [tB,tN]]).bind fun x=>some (.ret (x.1,x.2.1,()))):=by kernel_rfl
theorem d3reduce_m {F:Nat} (n0:Nat) (x0_0:Bool) (x0_1 x1:List Nat):DF F (n0+1) 131 [.o (.agg [⟨.bool,x0_0⟩,⟨.nat,x0_1⟩]),.o (.c ⟨.nat,x1⟩)] [.agg [.bool,.nat,.nat]]=unwrapA ((DF F n0 115 [.o (.agg [⟨tB,x0_0⟩,⟨tN,x0_1⟩])] [.agg [tB,tN]]).bind fun x=>(DF F n0 137 [vN x.2.1] [.c (tI)]).bind fun x_1=>bif x_1.1 == 0 then (DF F n0 183 [] [.agg [tB,tN,tN]]).bind fun x=>some (.ret (x.1,x.2.1,x.2.2.1,())) else (DF F n0 184 [vN x.2.1,vN x1] [.c tN]).bind fun x_2=>(DF F n0 185 [vN x.2.1,vN x_2.1] [.c tN,.c tN,.c tB]).bind fun x_3=>(DF F n0 185 [vN x1,vN x_2.1] [.c tN,.c tN,.c tB]).bind fun x_4=>(DF F n0 135 [vB x.1,vN x_3.1] [.agg [tB,tN]]).bind fun x=>some (.ret (x.1,x.2.1,x_4.1,()))):=by kernel_rfl
theorem d3low_m {F:Nat} (n0:Nat) (x0_0:Bool) (x0_1 x0_2:List Nat):DF F (n0+1) 132 [.o (.agg [⟨.bool,x0_0⟩,⟨.nat,x0_1⟩,⟨.nat,x0_2⟩])] [.c .nat]=unwrapA ((DF F n0 137 [vN x0_2] [.c (tI)]).bind fun x=>bif x.1 == 0 then (DF F n0 72 [.o (.c ⟨VT.int IntKind.u64,1⟩)] [.c tN]).bind fun x=>some (.ret (x.1,())) else (DF F n0 133 [vN x0_2] [.c tN]).bind fun x=>some (.ret (x.1,()))):=by kernel_rfl
theorem d1Norm_m {F:Nat} (n0:Nat) (x0:List Nat):DF F (n0+1) 133 [.o (.c ⟨.nat,x0⟩)] [.c .nat]=unwrapA (loopA 0 [tI] (fun x=>bif decide (0<x.1) then (ix x0 (IntKind.i64.wrap (x.1-1))).bind fun y=>bif (Nat.cast (R:=Int) y) == 0 then some (.cont 0 [tI] (IntKind.i64.wrap (x.1-1),())) else bif mkB x.1 x.1 4 then some (.ret (List.take (List.replicate (Int.toNat x.1) 0).length x0 ++ List.drop (List.length x0) (List.replicate (Int.toNat x.1) 0),())) else none else bif mkB x.1 x.1 4 then some (.ret (List.take (List.replicate (Int.toNat x.1) 0).length x0 ++ List.drop (List.length x0) (List.replicate (Int.toNat x.1) 0),())) else none) F ((Nat.cast (R:=Int) (List.length x0)),())):=by kernel_rfl
theorem d1short_m {F:Nat} (n0:Nat) (x0:List Nat) (x1:Int):DF F (n0+1) 134 [.o (.c ⟨.nat,x0⟩),.o (.c ⟨(.int .u64),x1⟩)] [.c .nat,.c (.int .u64)]=unwrapA (bif mkB ((Nat.cast (R:=Int) (List.length x0))) ((Nat.cast (R:=Int) (List.length x0))) 4 then loopA 0 [tI,VT.int IntKind.u64,tN] (fun x=>bif decide (0≤x.1) then (ix x0 x.1).bind fun y=>bif x1 == 0 then none else bif Nat.beq 1 1 && (decide (0≤x.1) && decide (Int.toNat x.1<List.length x.2.2.1)) then bif Nat.beq 0 0 && decide (Int.toNat x.1<List.length x.2.2.1) then bif u32B (IntKind.u32.wrap (IntKind.u64.wrap ((IntKind.u64.wrap (IntKind.u64.wrap (x.2.1*2 ^ min (Int.toNat 32) IntKind.u64.bits)+IntKind.u64.wrap (Nat.cast (R:=Int) y))).tdiv x1))) then bif x1 == 0 then none else some (.cont 0 [tI,VT.int IntKind.u64,tN] (IntKind.i64.wrap (x.1-1),(IntKind.u64.wrap (IntKind.u64.wrap (x.2.1*2 ^ min (Int.toNat 32) IntKind.u64.bits)+IntKind.u64.wrap (Nat.cast (R:=Int) y))).tmod x1,List.set x.2.2.1 (Int.toNat x.1) (IntKind.u32.wrap (IntKind.u64.wrap ((IntKind.u64.wrap (IntKind.u64.wrap (x.2.1*2 ^ min (Int.toNat 32) IntKind.u64.bits)+IntKind.u64.wrap (Nat.cast (R:=Int) y))).tdiv x1))).toNat,())) else none else none else none else (DF F n0 133 [vN x.2.2.1] [.c tN]).bind fun x_1=>bif List.isEmpty x_1.1 then some (.ret (x_1.1,x.2.1,())) else some (.ret (x_1.1,x.2.1,()))) F (IntKind.i64.wrap ((Nat.cast (R:=Int) (List.length x0))-1),0,List.replicate ((Nat.cast (R:=Int) (List.length x0))).toNat 0,()) else none):=by kernel_rfl
theorem d2Make_m {F:Nat} (n0:Nat) (x0:Bool) (x1:List Nat):DF F (n0+1) 135 [.o (.c ⟨.bool,x0⟩),.o (.c ⟨.nat,x1⟩)] [.agg [.bool,.nat]]=unwrapA ((DF F n0 115 [.o (.agg [⟨tB,x0⟩,⟨tN,x1⟩])] [.agg [tB,tN]]).bind fun x=>some (.ret (x.1,x.2.1,()))):=by kernel_rfl
theorem d1limb_m {F:Nat} (n0:Nat) (x0:List Nat) (x1:Int):DF F (n0+1) 136 [.o (.c ⟨.nat,x0⟩),.o (.c ⟨(.int .i64),x1⟩)] [.c (.int .u64)]=unwrapA (bif decide (x1<(Nat.cast (R:=Int) (List.length x0))) then (ix x0 x1).bind fun y=>some (.ret (IntKind.u64.wrap (Nat.cast (R:=Int) y),())) else some (.ret (0,()))):=by kernel_rfl
theorem d1Bits_m {F:Nat} (n0:Nat) (x0:List Nat):DF F (n0+1) 137 [.o (.c ⟨.nat,x0⟩)] [.c (.int .i64)]=unwrapA ((DF F n0 133 [vN x0] [.c tN]).bind fun x=>bif (Nat.cast (R:=Int) (List.length x.1)) == 0 then some (.ret (0,())) else (ix x.1 (IntKind.i64.wrap ((Nat.cast (R:=Int) (List.length x.1))-1))).bind fun y=>loopA 0 [VT.int IntKind.u32,tI] (fun x_1=>bif decide (0<x_1.1) then some (.cont 0 [VT.int IntKind.u32,tI] (IntKind.u32.wrap (Int.tdiv x_1.1 2),IntKind.i64.wrap (x_1.2.1+1),())) else some (.ret (x_1.2.1,()))) F ((Nat.cast (R:=Int) y),IntKind.i64.wrap (32*IntKind.i64.wrap ((Nat.cast (R:=Int) (List.length x.1))-1)),())):=by kernel_rfl
theorem d2Mul_m {F:Nat} (n0:Nat) (x0_0:Bool) (x0_1:List Nat) (x1_0:Bool) (x1_1:List Nat):DF F (n0+1) 165 [.o (.agg [⟨.bool,x0_0⟩,⟨.nat,x0_1⟩]),.o (.agg [⟨.bool,x1_0⟩,⟨.nat,x1_1⟩])] [.agg [.bool,.nat]]=unwrapA ((DF F n0 108 [vN x0_1,vN x1_1] [.c tN]).bind fun x=>(DF F n0 135 [vB (!x0_0 == x1_0),vN x.1] [.agg [tB,tN]]).bind fun x=>some (.ret (x.1,x.2.1,()))):=by kernel_rfl
theorem d1Pow_m {F:Nat} (n0:Nat) (x0:List Nat) (x1:Int):DF F (n0+1) 166 [.o (.c ⟨.nat,x0⟩),.o (.c ⟨(.int .i64),x1⟩)] [.c .nat,.c .bool]=unwrapA (bif decide (x1<0) then some (.ret ([],false,())) else bif decide (512<x1) then some (.ret ([],false,())) else (DF F n0 72 [.o (.c ⟨VT.int IntKind.u64,1⟩)] [.c tN]).bind fun x=>loopA 0 [tI,tN] (fun x_1=>bif decide (x_1.1<x1) then (DF F n0 108 [vN x_1.2.1,vN x0] [.c tN]).bind fun x_2=>some (.cont 0 [tI,tN] (IntKind.i64.wrap (x_1.1+1),x_2.1,())) else some (.ret (x_1.2.1,true,()))) F (0,x.1,())):=by kernel_rfl
theorem d2DivMod_m {F:Nat} (n0:Nat) (x0_0:Bool) (x0_1:List Nat) (x1_0:Bool) (x1_1:List Nat):DF F (n0+1) 167 [.o (.agg [⟨.bool,x0_0⟩,⟨.nat,x0_1⟩]),.o (.agg [⟨.bool,x1_0⟩,⟨.nat,x1_1⟩])] [.agg [.bool,.nat],.agg [.bool,.nat],.c .bool]=unwrapA ((DF F n0 115 [.o (.agg [⟨tB,x0_0⟩,⟨tN,x0_1⟩])] [.agg [tB,tN]]).bind fun x=>(DF F n0 115 [.o (.agg [⟨tB,x1_0⟩,⟨tN,x1_1⟩])] [.agg [tB,tN]]).bind fun x_1=>(DF F n0 185 [vN x.2.1,vN x_1.2.1] [.c tN,.c tN,.c tB]).bind fun x_2=>bif !x_2.2.2.1 then some (.ret (false,[],false,[],false,())) else (DF F n0 135 [vB (!x.1 == x_1.1),vN x_2.1] [.agg [tB,tN]]).bind fun x_3=>bif !x.1 == x_1.1 then (DF F n0 133 [vN x_2.2.1] [.c tN]).bind fun x_4=>bif decide (0<(Nat.cast (R:=Int) (List.length x_4.1))) then (DF F n0 70 [vI 1] [.agg [tB,tN]]).bind fun x_5=>(DF F n0 208 [.o (.agg [⟨tB,x_3.1⟩,⟨tN,x_3.2.1⟩]),.o (.agg [⟨tB,x_5.1⟩,⟨tN,x_5.2.1⟩])] [.agg [tB,tN]]).bind fun x_6=>(DF F n0 165 [.o (.agg [⟨tB,x_1.1⟩,⟨tN,x_1.2.1⟩]),.o (.agg [⟨tB,x_6.1⟩,⟨tN,x_6.2.1⟩])] [.agg [tB,tN]]).bind fun x_7=>(DF F n0 208 [.o (.agg [⟨tB,x.1⟩,⟨tN,x.2.1⟩]),.o (.agg [⟨tB,x_7.1⟩,⟨tN,x_7.2.1⟩])] [.agg [tB,tN]]).bind fun x=>some (.ret (x_6.1,x_6.2.1,x.1,x.2.1,true,())) else (DF F n0 165 [.o (.agg [⟨tB,x_1.1⟩,⟨tN,x_1.2.1⟩]),.o (.agg [⟨tB,x_3.1⟩,⟨tN,x_3.2.1⟩])] [.agg [tB,tN]]).bind fun x_5=>(DF F n0 208 [.o (.agg [⟨tB,x.1⟩,⟨tN,x.2.1⟩]),.o (.agg [⟨tB,x_5.1⟩,⟨tN,x_5.2.1⟩])] [.agg [tB,tN]]).bind fun x=>some (.ret (x_3.1,x_3.2.1,x.1,x.2.1,true,())) else (DF F n0 165 [.o (.agg [⟨tB,x_1.1⟩,⟨tN,x_1.2.1⟩]),.o (.agg [⟨tB,x_3.1⟩,⟨tN,x_3.2.1⟩])] [.agg [tB,tN]]).bind fun x_4=>(DF F n0 208 [.o (.agg [⟨tB,x.1⟩,⟨tN,x.2.1⟩]),.o (.agg [⟨tB,x_4.1⟩,⟨tN,x_4.2.1⟩])] [.agg [tB,tN]]).bind fun x=>some (.ret (x_3.1,x_3.2.1,x.1,x.2.1,true,()))):=by kernel_rfl
theorem d3Cmp_m {F:Nat} (n0:Nat) (x0_0:Bool) (x0_1 x0_2:List Nat) (x1_0:Bool) (x1_1 x1_2:List Nat):DF F (n0+1) 168 [.o (.agg [⟨.bool,x0_0⟩,⟨.nat,x0_1⟩,⟨.nat,x0_2⟩]),.o (.agg [⟨.bool,x1_0⟩,⟨.nat,x1_1⟩,⟨.nat,x1_2⟩])] [.c (.int .i64)]=unwrapA ((DF F n0 76 [.o (.agg [⟨tB,x0_0⟩,⟨tN,x0_1⟩,⟨tN,x0_2⟩])] [.agg [tB,tN]]).bind fun x=>(DF F n0 132 [.o (.agg [⟨tB,x1_0⟩,⟨tN,x1_1⟩,⟨tN,x1_2⟩])] [.c tN]).bind fun x_1=>(DF F n0 135 [vB false,vN x_1.1] [.agg [tB,tN]]).bind fun x_2=>(DF F n0 165 [.o (.agg [⟨tB,x.1⟩,⟨tN,x.2.1⟩]),.o (.agg [⟨tB,x_2.1⟩,⟨tN,x_2.2.1⟩])] [.agg [tB,tN]]).bind fun x=>(DF F n0 76 [.o (.agg [⟨tB,x1_0⟩,⟨tN,x1_1⟩,⟨tN,x1_2⟩])] [.agg [tB,tN]]).bind fun x_3=>(DF F n0 132 [.o (.agg [⟨tB,x0_0⟩,⟨tN,x0_1⟩,⟨tN,x0_2⟩])] [.c tN]).bind fun x_4=>(DF F n0 135 [vB false,vN x_4.1] [.agg [tB,tN]]).bind fun x_5=>(DF F n0 165 [.o (.agg [⟨tB,x_3.1⟩,⟨tN,x_3.2.1⟩]),.o (.agg [⟨tB,x_5.1⟩,⟨tN,x_5.2.1⟩])] [.agg [tB,tN]]).bind fun x_6=>(DF F n0 209 [.o (.agg [⟨tB,x.1⟩,⟨tN,x.2.1⟩]),.o (.agg [⟨tB,x_6.1⟩,⟨tN,x_6.2.1⟩])] [.c (tI)]).bind fun x=>some (.ret (x.1,()))):=by kernel_rfl
theorem d3Add_m {F:Nat} (n0:Nat) (x0_0:Bool) (x0_1 x0_2:List Nat) (x1_0:Bool) (x1_1 x1_2:List Nat):DF F (n0+1) 169 [.o (.agg [⟨.bool,x0_0⟩,⟨.nat,x0_1⟩,⟨.nat,x0_2⟩]),.o (.agg [⟨.bool,x1_0⟩,⟨.nat,x1_1⟩,⟨.nat,x1_2⟩])] [.agg [.bool,.nat,.nat]]=unwrapA ((DF F n0 76 [.o (.agg [⟨tB,x0_0⟩,⟨tN,x0_1⟩,⟨tN,x0_2⟩])] [.agg [tB,tN]]).bind fun x=>(DF F n0 132 [.o (.agg [⟨tB,x1_0⟩,⟨tN,x1_1⟩,⟨tN,x1_2⟩])] [.c tN]).bind fun x_1=>(DF F n0 135 [vB false,vN x_1.1] [.agg [tB,tN]]).bind fun x_2=>(DF F n0 165 [.o (.agg [⟨tB,x.1⟩,⟨tN,x.2.1⟩]),.o (.agg [⟨tB,x_2.1⟩,⟨tN,x_2.2.1⟩])] [.agg [tB,tN]]).bind fun x=>(DF F n0 76 [.o (.agg [⟨tB,x1_0⟩,⟨tN,x1_1⟩,⟨tN,x1_2⟩])] [.agg [tB,tN]]).bind fun x_3=>(DF F n0 132 [.o (.agg [⟨tB,x0_0⟩,⟨tN,x0_1⟩,⟨tN,x0_2⟩])] [.c tN]).bind fun x_4=>(DF F n0 135 [vB false,vN x_4.1] [.agg [tB,tN]]).bind fun x_5=>(DF F n0 165 [.o (.agg [⟨tB,x_3.1⟩,⟨tN,x_3.2.1⟩]),.o (.agg [⟨tB,x_5.1⟩,⟨tN,x_5.2.1⟩])] [.agg [tB,tN]]).bind fun x_6=>(DF F n0 119 [.o (.agg [⟨tB,x.1⟩,⟨tN,x.2.1⟩]),.o (.agg [⟨tB,x_6.1⟩,⟨tN,x_6.2.1⟩])] [.agg [tB,tN]]).bind fun x=>(DF F n0 132 [.o (.agg [⟨tB,x0_0⟩,⟨tN,x0_1⟩,⟨tN,x0_2⟩])] [.c tN]).bind fun x_7=>(DF F n0 132 [.o (.agg [⟨tB,x1_0⟩,⟨tN,x1_1⟩,⟨tN,x1_2⟩])] [.c tN]).bind fun x_8=>(DF F n0 108 [vN x_7.1,vN x_8.1] [.c tN]).bind fun x_9=>(DF F n0 131 [.o (.agg [⟨tB,x.1⟩,⟨tN,x.2.1⟩]),vN x_9.1] [.agg [tB,tN,tN]]).bind fun x=>some (.ret (x.1,x.2.1,x.2.2.1,()))):=by kernel_rfl
theorem d3Neg_m {F:Nat} (n0:Nat) (x0_0:Bool) (x0_1 x0_2:List Nat):DF F (n0+1) 170 [.o (.agg [⟨.bool,x0_0⟩,⟨.nat,x0_1⟩,⟨.nat,x0_2⟩])] [.agg [.bool,.nat,.nat]]=unwrapA ((DF F n0 76 [.o (.agg [⟨tB,x0_0⟩,⟨tN,x0_1⟩,⟨tN,x0_2⟩])] [.agg [tB,tN]]).bind fun x=>(DF F n0 210 [.o (.agg [⟨tB,x.1⟩,⟨tN,x.2.1⟩])] [.agg [tB,tN]]).bind fun x=>(DF F n0 132 [.o (.agg [⟨tB,x0_0⟩,⟨tN,x0_1⟩,⟨tN,x0_2⟩])] [.c tN]).bind fun x_1=>(DF F n0 131 [.o (.agg [⟨tB,x.1⟩,⟨tN,x.2.1⟩]),vN x_1.1] [.agg [tB,tN,tN]]).bind fun x=>some (.ret (x.1,x.2.1,x.2.2.1,()))):=by kernel_rfl
theorem d1Add_m {F:Nat} (n0:Nat) (x0 x1:List Nat):DF F (n0+1) 171 [.o (.c ⟨.nat,x0⟩),.o (.c ⟨.nat,x1⟩)] [.c .nat]=unwrapA (bif mkB (IntKind.i64.wrap (maxI2 (Nat.cast (R:=Int) (List.length x0)) (Nat.cast (R:=Int) (List.length x1))+1)) (IntKind.i64.wrap (maxI2 (Nat.cast (R:=Int) (List.length x0)) (Nat.cast (R:=Int) (List.length x1))+1)) 4 then loopA 0 [tI,VT.int IntKind.u64,tN] (fun x=>bif decide (x.1<(Nat.cast (R:=Int) (List.length x.2.2.1))) then (DF F n0 136 [vN x0,vI x.1] [.c (VT.int IntKind.u64)]).bind fun x_1=>(DF F n0 136 [vN x1,vI x.1] [.c (VT.int IntKind.u64)]).bind fun x_2=>bif Nat.beq 1 1 && (decide (0≤x.1) && decide (Int.toNat x.1<List.length x.2.2.1)) then bif Nat.beq 0 0 && decide (Int.toNat x.1<List.length x.2.2.1) then bif u32B (IntKind.u32.wrap (IntKind.u64.wrap (IntKind.u64.wrap (x_1.1+x_2.1)+x.2.1))) then some (.cont 0 [tI,VT.int IntKind.u64,tN] (IntKind.i64.wrap (x.1+1),(IntKind.u64.wrap (IntKind.u64.wrap (x_1.1+x_2.1)+x.2.1)).fdiv (2 ^ min (Int.toNat 32) IntKind.u64.bits),List.set x.2.2.1 (Int.toNat x.1) (IntKind.u32.wrap (IntKind.u64.wrap (IntKind.u64.wrap (x_1.1+x_2.1)+x.2.1))).toNat,())) else none else none else none else (DF F n0 133 [vN x.2.2.1] [.c tN]).bind fun x=>bif List.isEmpty x.1 then some (.ret (x.1,())) else some (.ret (x.1,()))) F (0,0,List.replicate (IntKind.i64.wrap (maxI2 (Nat.cast (R:=Int) (List.length x0)) (Nat.cast (R:=Int) (List.length x1))+1)).toNat 0,()) else none):=by kernel_rfl
theorem d1Sub_m {F:Nat} (n0:Nat) (x0 x1:List Nat):DF F (n0+1) 172 [.o (.c ⟨.nat,x0⟩),.o (.c ⟨.nat,x1⟩)] [.c .nat,.c .bool]=unwrapA ((DF F n0 71 [vN x0,vN x1] [.c (tI)]).bind fun x=>bif decide (x.1<0) then some (.ret ([],false,())) else bif mkB ((Nat.cast (R:=Int) (List.length x0))) ((Nat.cast (R:=Int) (List.length x0))) 4 then loopA 0 [tI,VT.int IntKind.u64,tN] (fun x=>bif decide (x.1<(Nat.cast (R:=Int) (List.length x0))) then (DF F n0 136 [vN x0,vI x.1] [.c (VT.int IntKind.u64)]).bind fun x_1=>(DF F n0 136 [vN x1,vI x.1] [.c (VT.int IntKind.u64)]).bind fun x_2=>bif decide (x_1.1<IntKind.u64.wrap (x_2.1+x.2.1)) then bif Nat.beq 1 1 && (decide (0≤x.1) && decide (Int.toNat x.1<List.length x.2.2.1)) then bif Nat.beq 0 0 && decide (Int.toNat x.1<List.length x.2.2.1) then bif u32B (IntKind.u32.wrap (IntKind.u64.wrap (IntKind.u64.wrap (x_1.1+4294967296)-IntKind.u64.wrap (x_2.1+x.2.1)))) then some (.cont 0 [tI,VT.int IntKind.u64,tN] (IntKind.i64.wrap (x.1+1),1,List.set x.2.2.1 (Int.toNat x.1) (IntKind.u32.wrap (IntKind.u64.wrap (IntKind.u64.wrap (x_1.1+4294967296)-IntKind.u64.wrap (x_2.1+x.2.1)))).toNat,())) else none else none else none else bif Nat.beq 1 1 && (decide (0≤x.1) && decide (Int.toNat x.1<List.length x.2.2.1)) then bif Nat.beq 0 0 && decide (Int.toNat x.1<List.length x.2.2.1) then bif u32B (IntKind.u32.wrap (IntKind.u64.wrap (x_1.1-IntKind.u64.wrap (x_2.1+x.2.1)))) then some (.cont 0 [tI,VT.int IntKind.u64,tN] (IntKind.i64.wrap (x.1+1),0,List.set x.2.2.1 (Int.toNat x.1) (IntKind.u32.wrap (IntKind.u64.wrap (x_1.1-IntKind.u64.wrap (x_2.1+x.2.1)))).toNat,())) else none else none else none else (DF F n0 133 [vN x.2.2.1] [.c tN]).bind fun x=>bif List.isEmpty x.1 then some (.ret (x.1,true,())) else some (.ret (x.1,true,()))) F (0,0,List.replicate ((Nat.cast (R:=Int) (List.length x0))).toNat 0,()) else none):=by kernel_rfl
theorem d3zero_m {F:Nat} (n0:Nat)  : DF F (n0+1) 183 [] [.agg [.bool,.nat,.nat]]=unwrapA ((DF F n0 72 [.o (.c ⟨VT.int IntKind.u64,1⟩)] [.c tN]).bind fun x=>some (.ret (false,[],x.1,()))):=by kernel_rfl
theorem d1Gcd_m {F:Nat} (n0:Nat) (x0 x1:List Nat):DF F (n0+1) 184 [.o (.c ⟨.nat,x0⟩),.o (.c ⟨.nat,x1⟩)] [.c .nat]=unwrapA ((DF F n0 133 [vN x0] [.c tN]).bind fun x=>(DF F n0 133 [vN x1] [.c tN]).bind fun x_1=>loopA 0 [tN,tN] (fun x_2=>bif decide (0<(Nat.cast (R:=Int) (List.length x_2.1))) then (DF F n0 185 [vN x_2.2.1,vN x_2.1] [.c tN,.c tN,.c tB]).bind fun x_3=>some (.cont 0 [tN,tN] (x_3.2.1,x_2.1,())) else some (.ret (x_2.2.1,()))) F (x_1.1,x.1,())):=by kernel_rfl
theorem d1DivMod_m {F:Nat} (n0:Nat) (x0 x1:List Nat):DF F (n0+1) 185 [.o (.c ⟨.nat,x0⟩),.o (.c ⟨.nat,x1⟩)] [.c .nat,.c .nat,.c .bool]=unwrapA ((DF F n0 133 [vN x0] [.c tN]).bind fun x=>(DF F n0 133 [vN x1] [.c tN]).bind fun x_1=>bif (Nat.cast (R:=Int) (List.length x_1.1)) == 0 then some (.ret ([],[],false,())) else bif (Nat.cast (R:=Int) (List.length x_1.1)) == 1 then (ix x_1.1 0).bind fun y=>(DF F n0 134 [vN x.1,.o (.c ⟨VT.int IntKind.u64,IntKind.u64.wrap (Nat.cast (R:=Int) y)⟩)] [.c tN,.c (VT.int IntKind.u64)]).bind fun x=>(DF F n0 72 [.o (.c ⟨VT.int IntKind.u64,x.2.1⟩)] [.c tN]).bind fun x_2=>some (.ret (x.1,x_2.1,true,())) else (DF F n0 137 [vN x.1] [.c (tI)]).bind fun x_2=>(DF F n0 137 [vN x_1.1] [.c (tI)]).bind fun x_3=>bif decide (IntKind.i64.wrap (x_2.1-x_3.1)<0) then some (.ret ([],x.1,true,())) else bif mkB (IntKind.i64.wrap (IntKind.i64.wrap ((IntKind.i64.wrap (x_2.1-x_3.1)).tdiv 32)+1)) (IntKind.i64.wrap (IntKind.i64.wrap ((IntKind.i64.wrap (x_2.1-x_3.1)).tdiv 32)+1)) 4 then (DF F n0 221 [vN x_1.1,vI (IntKind.i64.wrap (x_2.1-x_3.1))] [.c tN]).bind fun x_4=>loopA 0 [tI,tN,tN,tN] (fun x_5=>bif decide (0≤x_5.1) then (DF F n0 71 [vN x_5.2.2.2.1,vN x_5.2.1] [.c (tI)]).bind fun x_6=>bif decide (0≤x_6.1) then (DF F n0 172 [vN x_5.2.2.2.1,vN x_5.2.1] [.c tN,.c tB]).bind fun x_7=>bif Nat.beq 1 1 && (decide (0≤IntKind.i64.wrap (Int.tdiv x_5.1 32)) && decide ((IntKind.i64.wrap (Int.tdiv x_5.1 32)).toNat<List.length x_5.2.2.1)) then x_5.2.2.1[(IntKind.i64.wrap (Int.tdiv x_5.1 32)).toNat]?.bind fun n=>bif decide (0≤IntKind.u64.wrap (Int.tmod x_5.1 32)) then bif Nat.beq 1 1 && (decide (0≤IntKind.i64.wrap (Int.tdiv x_5.1 32)) && decide ((IntKind.i64.wrap (Int.tdiv x_5.1 32)).toNat<List.length x_5.2.2.1)) then bif Nat.beq 0 0 && decide ((IntKind.i64.wrap (Int.tdiv x_5.1 32)).toNat<List.length x_5.2.2.1) then bif u32B (IntKind.u32.wrap (Nat.cast (R:=Int) (BitVec.ofInt IntKind.u32.bits (Nat.cast (R:=Int) n) ||| BitVec.ofInt IntKind.u32.bits (IntKind.u32.wrap (1*2 ^ min (IntKind.u64.wrap (Int.tmod x_5.1 32)).toNat IntKind.u32.bits))).toNat)) then (DF F n0 222 [vN x_5.2.1] [.c tN]).bind fun x_8=>some (.cont 0 [tI,tN,tN,tN] (IntKind.i64.wrap (x_5.1-1),x_8.1,List.set x_5.2.2.1 (IntKind.i64.wrap (Int.tdiv x_5.1 32)).toNat (IntKind.u32.wrap (Nat.cast (R:=Int) (BitVec.ofInt IntKind.u32.bits (Nat.cast (R:=Int) n) ||| BitVec.ofInt IntKind.u32.bits (IntKind.u32.wrap (1*2 ^ min (IntKind.u64.wrap (Int.tmod x_5.1 32)).toNat IntKind.u32.bits))).toNat)).toNat,x_7.1,())) else none else none else none else none else none else (DF F n0 222 [vN x_5.2.1] [.c tN]).bind fun x_7=>some (.cont 0 [tI,tN,tN,tN] (IntKind.i64.wrap (x_5.1-1),x_7.1,x_5.2.2.1,x_5.2.2.2.1,())) else (DF F n0 133 [vN x_5.2.2.1] [.c tN]).bind fun x_6=>bif List.isEmpty x_6.1 then some (.ret (x_6.1,x_5.2.2.2.1,true,())) else some (.ret (x_6.1,x_5.2.2.2.1,true,()))) F (IntKind.i64.wrap (x_2.1-x_3.1),x_4.1,List.replicate (IntKind.i64.wrap (IntKind.i64.wrap ((IntKind.i64.wrap (x_2.1-x_3.1)).tdiv 32)+1)).toNat 0,x.1,()) else none):=by kernel_rfl
theorem d3Make_m {F:Nat} (n0:Nat) (x0_0:Bool) (x0_1:List Nat) (x1_0:Bool) (x1_1:List Nat):DF F (n0+1) 207 [.o (.agg [⟨.bool,x0_0⟩,⟨.nat,x0_1⟩]),.o (.agg [⟨.bool,x1_0⟩,⟨.nat,x1_1⟩])] [.agg [.bool,.nat,.nat],.c .bool]=unwrapA ((DF F n0 115 [.o (.agg [⟨tB,x1_0⟩,⟨tN,x1_1⟩])] [.agg [tB,tN]]).bind fun x=>(DF F n0 137 [vN x.2.1] [.c (tI)]).bind fun x_1=>bif x_1.1 == 0 then (DF F n0 183 [] [.agg [tB,tN,tN]]).bind fun x=>some (.ret (x.1,x.2.1,x.2.2.1,false,())) else (DF F n0 115 [.o (.agg [⟨tB,x0_0⟩,⟨tN,x0_1⟩])] [.agg [tB,tN]]).bind fun x_2=>bif x.1 then (DF F n0 210 [.o (.agg [⟨tB,x_2.1⟩,⟨tN,x_2.2.1⟩])] [.agg [tB,tN]]).bind fun x_3=>(DF F n0 131 [.o (.agg [⟨tB,x_3.1⟩,⟨tN,x_3.2.1⟩]),vN x.2.1] [.agg [tB,tN,tN]]).bind fun x=>some (.ret (x.1,x.2.1,x.2.2.1,true,())) else (DF F n0 131 [.o (.agg [⟨tB,x_2.1⟩,⟨tN,x_2.2.1⟩]),vN x.2.1] [.agg [tB,tN,tN]]).bind fun x=>some (.ret (x.1,x.2.1,x.2.2.1,true,()))):=by kernel_rfl
theorem d2Sub_m {F:Nat} (n0:Nat) (x0_0:Bool) (x0_1:List Nat) (x1_0:Bool) (x1_1:List Nat):DF F (n0+1) 208 [.o (.agg [⟨.bool,x0_0⟩,⟨.nat,x0_1⟩]),.o (.agg [⟨.bool,x1_0⟩,⟨.nat,x1_1⟩])] [.agg [.bool,.nat]]=unwrapA ((DF F n0 210 [.o (.agg [⟨tB,x1_0⟩,⟨tN,x1_1⟩])] [.agg [tB,tN]]).bind fun x=>(DF F n0 119 [.o (.agg [⟨tB,x0_0⟩,⟨tN,x0_1⟩]),.o (.agg [⟨tB,x.1⟩,⟨tN,x.2.1⟩])] [.agg [tB,tN]]).bind fun x=>some (.ret (x.1,x.2.1,()))):=by kernel_rfl
theorem d2Cmp_m {F:Nat} (n0:Nat) (x0_0:Bool) (x0_1:List Nat) (x1_0:Bool) (x1_1:List Nat):DF F (n0+1) 209 [.o (.agg [⟨.bool,x0_0⟩,⟨.nat,x0_1⟩]),.o (.agg [⟨.bool,x1_0⟩,⟨.nat,x1_1⟩])] [.c (.int .i64)]=unwrapA ((DF F n0 75 [.o (.agg [⟨tB,x0_0⟩,⟨tN,x0_1⟩])] [.c (tI)]).bind fun x=>(DF F n0 75 [.o (.agg [⟨tB,x1_0⟩,⟨tN,x1_1⟩])] [.c (tI)]).bind fun x_1=>bif decide (x.1<x_1.1) then some (.ret (-1,())) else bif decide (x_1.1<x.1) then some (.ret (1,())) else bif decide (x.1<0) then (DF F n0 71 [vN x1_1,vN x0_1] [.c (tI)]).bind fun x=>some (.ret (x.1,())) else (DF F n0 71 [vN x0_1,vN x1_1] [.c (tI)]).bind fun x=>some (.ret (x.1,()))):=by kernel_rfl
theorem d2Neg_m {F:Nat} (n0:Nat) (x0_0:Bool) (x0_1:List Nat):DF F (n0+1) 210 [.o (.agg [⟨.bool,x0_0⟩,⟨.nat,x0_1⟩])] [.agg [.bool,.nat]]=unwrapA ((DF F n0 135 [vB (!x0_0),vN x0_1] [.agg [tB,tN]]).bind fun x=>some (.ret (x.1,x.2.1,()))):=by kernel_rfl
theorem d1Shift_m {F:Nat} (n0:Nat) (x0:List Nat) (x1:Int):DF F (n0+1) 221 [.o (.c ⟨.nat,x0⟩),.o (.c ⟨(.int .i64),x1⟩)] [.c .nat]=unwrapA (bif mkB (IntKind.i64.wrap (IntKind.i64.wrap ((Nat.cast (R:=Int) (List.length x0))+IntKind.i64.wrap (Int.tdiv x1 32))+1)) (IntKind.i64.wrap (IntKind.i64.wrap ((Nat.cast (R:=Int) (List.length x0))+IntKind.i64.wrap (Int.tdiv x1 32))+1)) 4 then loopA 0 [tI,tN] (fun x=>bif decide (x.1<(Nat.cast (R:=Int) (List.length x0))) then (ix x0 x.1).bind fun y=>bif decide (0≤IntKind.u64.wrap (Int.tmod x1 32)) then bif Nat.beq 1 1 && (decide (0≤IntKind.i64.wrap (x.1+IntKind.i64.wrap (Int.tdiv x1 32))) && decide ((IntKind.i64.wrap (x.1+IntKind.i64.wrap (Int.tdiv x1 32))).toNat<List.length x.2.1)) then x.2.1[(IntKind.i64.wrap (x.1+IntKind.i64.wrap (Int.tdiv x1 32))).toNat]?.bind fun n=>bif Nat.beq 1 1 && (decide (0≤IntKind.i64.wrap (x.1+IntKind.i64.wrap (Int.tdiv x1 32))) && decide ((IntKind.i64.wrap (x.1+IntKind.i64.wrap (Int.tdiv x1 32))).toNat<List.length x.2.1)) then bif Nat.beq 0 0 && decide ((IntKind.i64.wrap (x.1+IntKind.i64.wrap (Int.tdiv x1 32))).toNat<List.length x.2.1) then bif u32B (IntKind.u32.wrap (Nat.cast (R:=Int) (BitVec.ofInt IntKind.u32.bits (Nat.cast (R:=Int) n) ||| BitVec.ofInt IntKind.u32.bits (IntKind.u32.wrap (IntKind.u64.wrap (IntKind.u64.wrap (Nat.cast (R:=Int) y)*2 ^ min (IntKind.u64.wrap (Int.tmod x1 32)).toNat IntKind.u64.bits)))).toNat)) then bif Nat.beq 1 1 && (decide (0≤IntKind.i64.wrap (IntKind.i64.wrap (x.1+IntKind.i64.wrap (Int.tdiv x1 32))+1)) && decide ((IntKind.i64.wrap (IntKind.i64.wrap (x.1+IntKind.i64.wrap (Int.tdiv x1 32))+1)).toNat<(List.set x.2.1 (IntKind.i64.wrap (x.1+IntKind.i64.wrap (Int.tdiv x1 32))).toNat (IntKind.u32.wrap (Nat.cast (R:=Int) (BitVec.ofInt IntKind.u32.bits (Nat.cast (R:=Int) n) ||| BitVec.ofInt IntKind.u32.bits (IntKind.u32.wrap (IntKind.u64.wrap (IntKind.u64.wrap (Nat.cast (R:=Int) y)*2 ^ min (IntKind.u64.wrap (Int.tmod x1 32)).toNat IntKind.u64.bits)))).toNat)).toNat).length)) then bif Nat.beq 0 0 && decide ((IntKind.i64.wrap (IntKind.i64.wrap (x.1+IntKind.i64.wrap (Int.tdiv x1 32))+1)).toNat<(List.set x.2.1 (IntKind.i64.wrap (x.1+IntKind.i64.wrap (Int.tdiv x1 32))).toNat (IntKind.u32.wrap (Nat.cast (R:=Int) (BitVec.ofInt IntKind.u32.bits (Nat.cast (R:=Int) n) ||| BitVec.ofInt IntKind.u32.bits (IntKind.u32.wrap (IntKind.u64.wrap (IntKind.u64.wrap (Nat.cast (R:=Int) y)*2 ^ min (IntKind.u64.wrap (Int.tmod x1 32)).toNat IntKind.u64.bits)))).toNat)).toNat).length) then bif u32B (IntKind.u32.wrap ((IntKind.u64.wrap (IntKind.u64.wrap (Nat.cast (R:=Int) y)*2 ^ min (IntKind.u64.wrap (Int.tmod x1 32)).toNat IntKind.u64.bits)).fdiv (2 ^ min (Int.toNat 32) IntKind.u64.bits))) then some (.cont 0 [tI,tN] (IntKind.i64.wrap (x.1+1),(List.set x.2.1 (IntKind.i64.wrap (x.1+IntKind.i64.wrap (Int.tdiv x1 32))).toNat (IntKind.u32.wrap (Nat.cast (R:=Int) (BitVec.ofInt IntKind.u32.bits (Nat.cast (R:=Int) n) ||| BitVec.ofInt IntKind.u32.bits (IntKind.u32.wrap (IntKind.u64.wrap (IntKind.u64.wrap (Nat.cast (R:=Int) y)*2 ^ min (IntKind.u64.wrap (Int.tmod x1 32)).toNat IntKind.u64.bits)))).toNat)).toNat).set (IntKind.i64.wrap (IntKind.i64.wrap (x.1+IntKind.i64.wrap (Int.tdiv x1 32))+1)).toNat (IntKind.u32.wrap ((IntKind.u64.wrap (IntKind.u64.wrap (Nat.cast (R:=Int) y)*2 ^ min (IntKind.u64.wrap (Int.tmod x1 32)).toNat IntKind.u64.bits)).fdiv (2 ^ min (Int.toNat 32) IntKind.u64.bits))).toNat,())) else none else none else none else none else none else none else none else none else (DF F n0 133 [vN x.2.1] [.c tN]).bind fun x=>bif List.isEmpty x.1 then some (.ret (x.1,())) else some (.ret (x.1,()))) F (0,List.replicate (IntKind.i64.wrap (IntKind.i64.wrap ((Nat.cast (R:=Int) (List.length x0))+IntKind.i64.wrap (Int.tdiv x1 32))+1)).toNat 0,()) else none):=by kernel_rfl
theorem d1half_m {F:Nat} (n0:Nat) (x0:List Nat):DF F (n0+1) 222 [.o (.c ⟨.nat,x0⟩)] [.c .nat]=unwrapA (bif mkB ((Nat.cast (R:=Int) (List.length x0))) ((Nat.cast (R:=Int) (List.length x0))) 4 then loopA 0 [tI,tN] (fun x=>bif decide (x.1<(Nat.cast (R:=Int) (List.length x0))) then (DF F n0 136 [vN x0,vI (IntKind.i64.wrap (x.1+1))] [.c (VT.int IntKind.u64)]).bind fun x_1=>(ix x0 x.1).bind fun y=>bif Nat.beq 1 1 && (decide (0≤x.1) && decide (Int.toNat x.1<List.length x.2.1)) then bif Nat.beq 0 0 && decide (Int.toNat x.1<List.length x.2.1) then bif u32B (IntKind.u32.wrap ((IntKind.u64.wrap (IntKind.u64.wrap (x_1.1*2 ^ min (Int.toNat 32) IntKind.u64.bits)+IntKind.u64.wrap (Nat.cast (R:=Int) y))).fdiv (2 ^ min (Int.toNat 1) IntKind.u64.bits))) then some (.cont 0 [tI,tN] (IntKind.i64.wrap (x.1+1),List.set x.2.1 (Int.toNat x.1) (IntKind.u32.wrap ((IntKind.u64.wrap (IntKind.u64.wrap (x_1.1*2 ^ min (Int.toNat 32) IntKind.u64.bits)+IntKind.u64.wrap (Nat.cast (R:=Int) y))).fdiv (2 ^ min (Int.toNat 1) IntKind.u64.bits))).toNat,())) else none else none else none else (DF F n0 133 [vN x.2.1] [.c tN]).bind fun x=>bif List.isEmpty x.1 then some (.ret (x.1,())) else some (.ret (x.1,()))) F (0,List.replicate ((Nat.cast (R:=Int) (List.length x0))).toNat 0,()) else none):=by kernel_rfl
end Go.Proofs.YtcggnmddcbhchaaGreatDoor
set_option linter.unusedSimpArgs false
set_option linter.unusedVariables false
namespace Go.Proofs.YtcggnmddcbhchaaGreatDoor
open Go.RowKit Lim
theorem getD_some {l:List Nat} {i:Nat} (h:i<l.length):l[i]? = some (l.getD i 0):=by rw [List.getElem?_eq_getElem h,List.getD_eq_getElem?_getD,List.getElem?_eq_getElem h];rfl
theorem norm_end {l:List Nat} (hd:Dig l) {k:Nat} (hk:k≤l.length) (hz:val (l.drop k)=0) (hn:k=0∨l.getD (k-1) 0≠0):limbs (val l)=l.take k :=
 limbs_take hd hk hz fun h0=>by
  rcases hn with h|h
  ·omega
  ·rw [List.getD_eq_getElem?_getD,List.getElem?_eq_getElem (show k-1<l.length by omega)]at h
   simpa using h
theorem mkN {N:Nat} (h:N≤35184372088832):mkB (N:Int) (N:Int) 4=true:=by
 unfold mkB
 rw [decide_eq_true (show (0:Int)≤(N:Nat)by omega),decide_eq_true (Int.le_refl _),Int.toNat_natCast,Nat.ble_eq_true_of_le (by omega),Nat.ble_eq_true_of_le (by omega)]
 rfl
theorem u32n {m:Nat} (h:m<4294967296):u32B (m:Int)=true:=by
 unfold u32B
 rw [decide_eq_true (show (0:Int)≤(m:Nat)by omega),decide_eq_true (show (m:Int)<4294967296 by omega)]
 rfl
theorem c0 (j:Nat):decide (0≤(j:Int))=true:=decide_eq_true (by omega)
theorem b11:Nat.beq 1 1=true:=rfl
theorem b00:Nat.beq 0 0=true:=rfl
theorem set_fill (s:List Nat) (N x:Nat) (h:s.length<N):(s ++ List.replicate (N-s.length) 0).set s.length x=s ++ [x] ++ List.replicate (N-(s.length+1)) 0:=by
 rw [List.set_append_right _ _ (Nat.le_refl _),Nat.sub_self,show N-s.length=(N-(s.length+1))+1 by omega,List.replicate_succ]
 simp
theorem shr32 (n:Nat):(n:Int).fdiv 4294967296=((n / 4294967296:Nat):Int):=by
 rw [Int.fdiv_eq_ediv_of_nonneg _ (by omega)];omega
theorem w32 (n:Nat):IntKind.u32.wrap (n:Int)=((n % 4294967296:Nat):Int):=by rw [IntKind.wrap_u32];omega
theorem wr64 {n:Nat} (h:n<18446744073709551616):IntKind.u64.wrap (n:Int)=(n:Int):=IntWalk.u64_in _ (by omega)
theorem take_getD (l:List Nat) (k:Nat):val (l.take (k+1))=val (l.take k)+pw k*l.getD k 0:=val_take_succ' l k
theorem row_get {p:List Nat} {j N:Nat} (h:j<p.length):(p ++ List.replicate N 0)[j]? = some (p.getD j 0):=by
 rw [List.getElem?_append_left h];exact getD_some h
theorem row_set {p:List Nat} {j N x:Nat} (h:j<p.length):(p ++ List.replicate (N-p.length) 0).set j x=p.set j x ++ List.replicate (N-(p.set j x).length) 0:=by
 rw [List.set_append_left _ _ h,List.length_set]
def frow (N:Nat) (p:List Nat):List Nat:=p ++ List.replicate (N-p.length) 0
theorem frow_len {N:Nat} {p:List Nat} (h:p.length≤N):(frow N p).length=N:=by simp [frow];omega
theorem frow_get {N:Nat} {p:List Nat} {j:Nat} (h:j<p.length):(frow N p)[j]? = some (p.getD j 0):=row_get h
theorem frow_set {N:Nat} {p:List Nat} {j x:Nat} (h:j<p.length):(frow N p).set j x=frow N (p.set j x):=row_set h
theorem frow_put {N:Nat} {p:List Nat} {x j:Nat} (hj:j=p.length) (h:p.length<N):(frow N p).set j x=frow N (p ++ [x]):=by
 subst hj;unfold frow;rw [set_fill p N x h];simp
theorem frow_full {N:Nat} {p:List Nat} (h:p.length=N):frow N p=p:=by simp [frow,h]
theorem frow_start {N k:Nat} (h:k≤N):List.replicate N 0=frow N (List.replicate k 0):=by
 unfold frow;rw [List.replicate_append_replicate,List.length_replicate];congr 1;omega
theorem two32:(2:Int) ^ min (Int.toNat 32) IntKind.u64.bits=4294967296:=rfl
theorem frow_nil (N:Nat):List.replicate N 0=frow N []:=by simp [frow]
theorem emp_self {R:Type} (l:List Nat) (x:Option R):(bif l.isEmpty then x else x)=x:=bif_self _ x
section
variable (n:Nat)
theorem d1limb (l:List Nat) (hd:Dig l) (i:Nat):DF fuel (n+1) 136 [vN l,vI i] [.c (.int .u64)]=some (((l.getD i 0:Nat):Int),()):=by
 refine (d1limb_m n l i).trans ?_
 by_cases h:i<l.length
 ·have hx:=dig_getD hd i
  rw [dlt h,cond_true,ix_get (getD_some h)]
  simp -implicitDefEqProofs only [Option.bind_some]
  rw [u64w (by omega) (by omega)]
  rfl
 ·have e2:l.getD i 0=0:=by simp [List.getElem?_eq_none (show l.length≤i by omega)]
  rw [dge (by omega),cond_false,e2]
  rfl
theorem d1norm (l:List Nat) (hd:Dig l) (hl:l.length<1099511627776):DF fuel (n+1) 133 [vN l] [.c .nat]=some (limbs (val l),()):=by
 refine (d1Norm_m n l).trans ?_
 have fin:∀k:Nat,k≤l.length→val (l.drop k)=0→(k=0∨l.getD (k-1) 0≠0)→(bif mkB (k:Int) k 4 then some (.ret (List.take (List.replicate (Int.toNat k) 0).length l ++ List.drop (List.length l) (List.replicate (Int.toNat k) 0),())) else none:Option (Ans (denL [.nat])))=some (.ret (limbs (val l),())):=fun k hk hz hn=>by
  rw [mkN (by omega),cond_true,Int.toNat_natCast,List.length_replicate,List.drop_eq_nil_of_le (by simp;omega),List.append_nil,norm_end hd hk hz hn]
 refine congrArg (a₂:=some (Ans.ret (limbs (val l),()))) unwrapA ?_
 refine loopA_inv (ts:=[tI]) (fun x=>∃k:Nat,k≤l.length∧val (l.drop k)=0∧x=((k:Int),())) (fun (x:Int × Unit)=>x.1.toNat) (fun x hx=>?_) _ ⟨l.length,Nat.le_refl _,by simp [val],rfl⟩ (fuel_lt (by show ((l.length:Nat):Int).toNat<_;omega))
 obtain ⟨k,hk,hz,rfl⟩:=hx
 dsimp only
 by_cases h0:0<k
 ·have w1:IntKind.i64.wrap ((k:Int)-1)=((k-1:Nat):Int):=by rw [w64 (by omega) (by omega)];omega
  rw [decide_eq_true (show (0:Int)<(k:Int)by omega),cond_true,w1,ix_get (getD_some (show k-1<l.length by omega))]
  simp -implicitDefEqProofs only [Option.bind_some]
  by_cases hx:l.getD (k-1) 0=0
  ·rw [hx]
   refine .inr ⟨(((k-1:Nat):Int),()),rfl,⟨k-1,by omega,?_,rfl⟩,by show ((k-1:Nat):Int).toNat<(k:Int).toNat;omega⟩
   rw [val_drop_cons l (k-1) (by omega),show k-1+1=k by omega,hz]
   rw [List.getD_eq_getElem?_getD,List.getElem?_eq_getElem (show k-1<l.length by omega)]at hx
   simpa using hx
  ·have e2:(((l.getD (k-1) 0:Nat):Int) == 0)=false:=by rw [beq_eq_false_iff_ne];omega
   rw [e2,cond_false]
   exact .inl ⟨fin k hk hz (.inr hx),rfl⟩
 ·rw [decide_eq_false (show ¬(0:Int)<(k:Int)by omega),cond_false]
  exact .inl ⟨fin k hk hz (.inl (by omega)),rfl⟩
theorem d1of (k:Nat) (hk:k<18446744073709551616):DF fuel (n+2) 72 [vU (k:Int)] [.c .nat]=some (limbs k,()):=by
 have hv:val [k % 4294967296,k / 4294967296 % 4294967296]=k:=by simp only [val];omega
 have c1:u32B (((k % 4294967296:Nat):Int))=true:=u32n (by omega)
 have c2:u32B (((k / 4294967296 % 4294967296:Nat):Int))=true:=u32n (by omega)
 refine (d1Of_m (n+1) k).trans ?_
 simp -implicitDefEqProofs only [two32,shr32,w32,c1,c2,cond_true,Option.map_some,Option.bind_some,Int.toNat_natCast]
 rw [bind_go (d1norm n _ (dig_cons.2 ⟨by omega,dig_cons.2 ⟨by omega,dig_nil⟩⟩) (by simp)),hv]
 rfl
theorem add_next {a b s:List Nat} {c x y t:Nat} (hx:a.getD s.length 0=x) (hy:b.getD s.length 0=y) (ht:x+y+c=t) (h:val s+pw s.length*c=val (a.take s.length)+val (b.take s.length)) :
  val (s ++ [t % 4294967296])+pw (s.length+1)*(t / 4294967296)=val (a.take (s.length+1))+val (b.take (s.length+1)):=by
 rw [take_getD,take_getD,hx,hy,val_snoc,pw_succ]
 have:t=t % 4294967296+4294967296*(t / 4294967296):=by omega
 generalize t % 4294967296=u at *
 generalize t / 4294967296=v at *
 subst this
 grind
theorem add_end {a b s:List Nat} {c:Nat} (ha:Dig a) (hb:Dig b) (h:val s+pw s.length*c=val a+val b) (hN:max a.length b.length+1=s.length):val s=val a+val b:=by
 have h1:=val_lt ha
 have h2:=val_lt hb
 have h3:pw a.length≤pw (max a.length b.length):=pw_mono (by omega)
 have h4:pw b.length≤pw (max a.length b.length):=pw_mono (by omega)
 rw [←hN,pw_succ]at h
 cases c with
 | zero=>simpa using h
 | succ c =>
  have:4294967296*pw (max a.length b.length)*1≤4294967296*pw (max a.length b.length)*(c+1):=Nat.mul_le_mul_left _ (by omega)
  omega
theorem d1add (a b:List Nat) (ha:Dig a) (hb:Dig b) (hla:a.length<1000000000000) (hlb:b.length<1000000000000):DF fuel (n+2) 171 [vN a,vN b] [.c .nat]=some (limbs (val a+val b),()):=by
 have m0:maxI2 (a.length:Int) (b.length:Int)=((max a.length b.length:Nat):Int):=by unfold maxI2;split <;> omega
 have w0:IntKind.i64.wrap (((max a.length b.length:Nat):Int)+1)=((max a.length b.length+1:Nat):Int):=w64n (by omega)
 refine (d1Add_m (n+1) a b).trans ?_
 rw [m0,w0]
 generalize hN:max a.length b.length+1=N at *
 rw [mkN (by omega),cond_true,Int.toNat_natCast,frow_nil]
 refine congrArg (a₂:=some (Ans.ret (limbs (val a+val b),()))) unwrapA ?_
 refine loopA_inv (ts:=[tI,tU,tN]) (fun x=>∃(s:List Nat) (c:Nat),s.length≤N∧Dig s∧c≤1∧val s+pw s.length*c=val (a.take s.length)+val (b.take s.length)∧x=((s.length:Int),(c:Int),frow N s,())) (fun (x:Int × Int × List Nat × Unit)=>N-x.1.toNat) (fun x hx=>?_) _ ⟨[],0,by simp,dig_nil,by simp,by simp [val],rfl⟩ (fuel_lt (by omega))
 obtain ⟨s,c,hs,hds,hc,hv,rfl⟩:=hx
 dsimp only
 rw [frow_len hs]
 by_cases hlt:s.length<N
 ·rw [dlt hlt,cond_true,bind_go (d1limb n a ha s.length),bind_go (d1limb n b hb s.length)]
  have dx:=dig_getD ha s.length
  have dy:=dig_getD hb s.length
  generalize hx:a.getD s.length 0=x at *
  generalize hy:b.getD s.length 0=y at *
  have n1:IntKind.u64.wrap ((x:Int)+y)=((x+y:Nat):Int):=by rw [u64w (by omega) (by omega)];omega
  have n2:IntKind.u64.wrap (((x+y:Nat):Int)+c)=((x+y+c:Nat):Int):=by rw [u64w (by omega) (by omega)];omega
  have n3:IntKind.i64.wrap ((s.length:Int)+1)=((s.length+1:Nat):Int):=w64n (by omega)
  generalize ht:x+y+c=t at *
  have dj:decide (s.length<N)=true:=decide_eq_true hlt
  have hu:u32B ((t % 4294967296:Nat):Int)=true:=u32n (by omega)
  simp -implicitDefEqProofs only [n1,n2,n3,two32,shr32,w32,Int.toNat_natCast,c0,b11,b00,dj,hu,Bool.true_and,cond_true,frow_put rfl hlt]
  refine .inr ⟨(((s.length+1:Nat):Int),((t / 4294967296:Nat):Int),frow N (s ++ [t % 4294967296]),()),rfl,⟨s ++ [t % 4294967296],t / 4294967296,?_,dig_snoc hds (by omega),by omega,?_,by simp⟩,?_⟩
  ·simp;omega
  ·rw [List.length_append];exact add_next hx hy ht hv
  ·show N-((s.length+1:Nat):Int).toNat<N-(s.length:Int).toNat
   omega
 ·obtain rfl:s.length=N:=by omega
  have ta:a.take s.length=a:=List.take_of_length_le (by omega)
  have tb:b.take s.length=b:=List.take_of_length_le (by omega)
  rw [ta,tb]at hv
  rw [dge (Nat.le_refl _),cond_false,frow_full rfl,bind_go (d1norm n s hds (by omega)),add_end ha hb hv hN]
  exact .inl ⟨emp_self _ _,rfl⟩
theorem val_take_cmp {a b:List Nat} (ha:Dig a) (hb:Dig b) (k:Nat) (h:val (a.take k)<val (b.take k)) (hk:∀j,k≤j→a.getD j 0=b.getD j 0):val a<val b:=by
 have key:∀n,val (a.take (k+n))<val (b.take (k+n)):=fun n=>by
  induction n with
  | zero=>exact h
  | succ n ih=>rw [←Nat.add_assoc,take_getD,take_getD,hk (k+n) (by omega)];omega
 have:=key (a.length+b.length)
 rwa [List.take_of_length_le (by omega),List.take_of_length_le (by omega)]at this
theorem take_lt {a:List Nat} (ha:Dig a) (k:Nat):val (a.take k)<pw k:=by
 have h:=val_lt (dig_take ha k)
 exact Nat.lt_of_lt_of_le h (pw_mono (by simp;omega))
theorem cmp_lt {a b:List Nat} (ha:Dig a) (hb:Dig b) (k:Nat) (h:a.getD k 0<b.getD k 0) (hk:∀j,k+1≤j→a.getD j 0=b.getD j 0):val a<val b:=by
 refine val_take_cmp ha hb (k+1) ?_ hk
 rw [take_getD,take_getD]
 have h1:=take_lt ha k
 have h2:pw k*(a.getD k 0+1)≤pw k*b.getD k 0:=Nat.mul_le_mul_left _ h
 rw [Nat.mul_add]at h2
 omega
theorem cmp_eq {a b:List Nat} (hk:∀j,a.getD j 0=b.getD j 0):val a=val b:=by
 have key:∀n,val (a.take n)=val (b.take n):=fun n=>by
  induction n with
  | zero=>simp
  | succ n ih=>rw [take_getD,take_getD,hk n,ih]
 have:=key (a.length+b.length)
 rwa [List.take_of_length_le (by omega),List.take_of_length_le (by omega)]at this
theorem d1cmp (a b:List Nat) (ha:Dig a) (hb:Dig b) (hla:a.length<1000000000000) (hlb:b.length<1000000000000):DF fuel (n+2) 71 [vN a,vN b] [.c (.int .i64)]=some (cmpI (val a) (val b),()):=by
 have m0:maxI2 (a.length:Int) (b.length:Int)=((max a.length b.length:Nat):Int):=by unfold maxI2;split <;> omega
 refine (d1Cmp_m (n+1) a b).trans ?_
 rw [m0]
 generalize hN:max a.length b.length=N at *
 have w0:∀k:Nat,k≤N→IntKind.i64.wrap ((k:Int)-1)=((k:Int)-1):=fun k hk=>w64 (by omega) (by omega)
 rw [w0 N (Nat.le_refl _)]
 refine congrArg (a₂:=some (Ans.ret (cmpI (val a) (val b),()))) unwrapA ?_
 refine loopA_inv (ts:=[tI,tI]) (fun x=>∃k:Nat,k≤N∧(∀j,k≤j→a.getD j 0=b.getD j 0)∧x=((k:Int)-1,0,())) (fun (x:Int × Int × Unit)=>(x.1+1).toNat) (fun x hx=>?_) _ ⟨N,Nat.le_refl _,fun j hj=>by simp [List.getElem?_eq_none (show a.length≤j by omega),List.getElem?_eq_none (show b.length≤j by omega)],rfl⟩ (fuel_lt (by show ((N:Int)-1+1).toNat<_;omega))
 obtain ⟨k,hk,hj,rfl⟩:=hx
 cases k with
 | zero =>
  refine .inl ⟨?_,rfl⟩
  rw [cmp_eq fun j=>hj j (Nat.zero_le _),cmpI_self]
  rfl
 | succ k =>
  have e2:((k+1:Nat):Int)-1=(k:Int):=by omega
  rw [e2]
  dsimp only
  rw [decide_eq_true (show (0:Int)≤(k:Nat)by omega),cond_true,bind_go (d1limb n a ha k),bind_go (d1limb n b hb k)]
  dsimp only
  rcases Nat.lt_trichotomy (a.getD k 0) (b.getD k 0)with h|h|h
  ·rw [decide_eq_true (show ((a.getD k 0:Nat):Int)<(b.getD k 0:Nat)by omega),cmpI_lt (cmp_lt ha hb k h hj)]
   exact .inl ⟨rfl,rfl⟩
  ·rw [decide_eq_false (show ¬((a.getD k 0:Nat):Int)<(b.getD k 0:Nat)by omega),decide_eq_false (show ¬((b.getD k 0:Nat):Int)<(a.getD k 0:Nat)by omega),w0 k (by omega)]
   refine .inr ⟨((k:Int)-1,0,()),rfl,⟨k,by omega,fun j hjj=>?_,rfl⟩,by show ((k:Int)-1+1).toNat<((k:Int)+1).toNat;omega⟩
   rcases Nat.lt_or_eq_of_le hjj with h1|h1
   ·exact hj j h1
   ·subst h1;exact h
  ·rw [decide_eq_false (show ¬((a.getD k 0:Nat):Int)<(b.getD k 0:Nat)by omega),decide_eq_true (show ((b.getD k 0:Nat):Int)<(a.getD k 0:Nat)by omega),cmpI_gt (cmp_lt hb ha k h (fun j hjj=>(hj j hjj).symm))]
   exact .inl ⟨rfl,rfl⟩
theorem sub_next {a b s:List Nat} {c x y:Nat} (hx:a.getD s.length 0=x) (hy:b.getD s.length 0=y) (h:val s+val (b.take s.length)=val (a.take s.length)+pw s.length*c) (u c':Nat) (hu:u+(y+c)=x+4294967296*c') :
  val (s ++ [u])+val (b.take (s.length+1))=val (a.take (s.length+1))+pw (s.length+1)*c':=by
 rw [take_getD,take_getD,hx,hy,val_snoc,pw_succ]
 have e:pw s.length*u+(pw s.length*y+pw s.length*c)=pw s.length*x+4294967296*pw s.length*c':=by
  rw [←Nat.mul_add,←Nat.mul_add,hu,Nat.mul_add];grind
 omega
theorem sub_end {a b s:List Nat} {c:Nat} (ha:Dig a) (hb:Dig b) (hs:Dig s) (hle:val b≤val a) (hl:s.length=a.length) (h:val s+val (b.take a.length)=val a+pw a.length*c):val s=val a-val b:=by
 have h1:=val_lt hs
 rw [hl]at h1
 have h2:val (b.take a.length)≤val b:=by
  by_cases hk:a.length≤b.length
  ·have:=val_take_drop b a.length hk;omega
  ·rw [List.take_of_length_le (by omega)];omega
 cases c with
 | zero =>
  have h3:val (b.take a.length)=val b:=by
   by_cases hk:a.length≤b.length
   ·have h4:=val_take_drop b a.length hk
    by_cases h5:val (b.drop a.length)=0
    ·rw [h4,h5];omega
    ·have h6:=val_lt ha
     have h7:pw a.length*1≤pw a.length*val (b.drop a.length):=Nat.mul_le_mul_left _ (by omega)
     omega
   ·rw [List.take_of_length_le (by omega)]
  omega
 | succ c =>
  have:pw a.length*1≤pw a.length*(c+1):=Nat.mul_le_mul_left _ (by omega)
  omega
theorem d1sub_no (a b:List Nat) (ha:Dig a) (hb:Dig b) (hla:a.length<1000000000000) (hlb:b.length<1000000000000) (h:val a<val b):DF fuel (n+3) 172 [vN a,vN b] [.c .nat,.c .bool]=some ([],false,()):=by
 refine (d1Sub_m (n+2) a b).trans ?_
 rw [bind_go (d1cmp n a b ha hb hla hlb),cmpI_lt h]
 rfl
theorem d1sub (a b:List Nat) (ha:Dig a) (hb:Dig b) (hla:a.length<1000000000000) (hlb:b.length<1000000000000) (h:val b≤val a):DF fuel (n+3) 172 [vN a,vN b] [.c .nat,.c .bool]=some (limbs (val a-val b),true,()):=by
 have e0:decide (cmpI (val a) (val b)<0)=false:=by
  rcases Nat.lt_or_eq_of_le h with h|h
  ·rw [cmpI_gt h];rfl
  ·rw [h,cmpI_eq];rfl
 refine (d1Sub_m (n+2) a b).trans ?_
 rw [bind_go (d1cmp n a b ha hb hla hlb)]
 dsimp only
 rw [e0,cond_false,mkN (by omega),cond_true,Int.toNat_natCast,frow_nil]
 refine congrArg (a₂:=some (Ans.ret (limbs (val a-val b),true,()))) unwrapA ?_
 refine loopA_inv (ts:=[tI,tU,tN]) (fun x=>∃(s:List Nat) (c:Nat),s.length≤a.length∧Dig s∧c≤1∧val s+val (b.take s.length)=val (a.take s.length)+pw s.length*c∧x=((s.length:Int),(c:Int),frow a.length s,())) (fun (x:Int × Int × List Nat × Unit)=>a.length-x.1.toNat) (fun x hx=>?_) _ ⟨[],0,by simp,dig_nil,by simp,by simp [val],rfl⟩ (fuel_lt (by omega))
 obtain ⟨s,c,hs,hds,hc,hv,rfl⟩:=hx
 dsimp only
 by_cases hlt:s.length<a.length
 ·rw [dlt hlt,cond_true,bind_go (d1limb (n+1) a ha s.length),bind_go (d1limb (n+1) b hb s.length)]
  have dx:=dig_getD ha s.length
  have dy:=dig_getD hb s.length
  generalize hx:a.getD s.length 0=x at *
  generalize hy:b.getD s.length 0=y at *
  have n1:IntKind.u64.wrap ((y:Int)+c)=((y+c:Nat):Int):=by rw [u64w (by omega) (by omega)];omega
  have n3:IntKind.i64.wrap ((s.length:Int)+1)=((s.length+1:Nat):Int):=w64n (by omega)
  have fin:∀(u c':Nat),u<4294967296→c'≤1→u+(y+c)=x+4294967296*c'→∃q,(some (.cont 0 [tI,tU,tN] (((s.length+1:Nat):Int),((c':Nat):Int),frow a.length (s ++ [u]),())):Option (Ans (denL [tN,tB])))=some (.cont 0 [tI,tU,tN] q)∧(∃(s:List Nat) (c:Nat),s.length≤a.length∧Dig s∧c≤1∧val s+val (b.take s.length)=val (a.take s.length)+pw s.length*c∧q=((s.length:Int),(c:Int),frow a.length s,()))∧a.length-q.1.toNat<a.length-(s.length:Int).toNat:=fun u c' hu hc' he=>by
   refine ⟨_,rfl,⟨s ++ [u],c',by simp;omega,dig_snoc hds hu,hc',?_,by simp⟩,by show a.length-((s.length+1:Nat):Int).toNat<a.length-(s.length:Int).toNat;omega⟩
   rw [List.length_append]
   exact sub_next hx hy hv _ _ he
  have dj:decide (s.length<(frow a.length s).length)=true:=decide_eq_true (by rw [frow_len hs];exact hlt)
  by_cases hb2:x<y+c
  ·have n2:IntKind.u64.wrap ((x:Int)+4294967296)=((x+4294967296:Nat):Int):=by rw [u64w (by omega) (by omega)];omega
   obtain ⟨u,hu⟩:∃u,u+(y+c)=x+4294967296:=⟨x+4294967296-(y+c),by omega⟩
   have n4:IntKind.u64.wrap (((x+4294967296:Nat):Int)-((y+c:Nat):Int))=(u:Int):=by rw [u64w (by omega) (by omega)];omega
   have hm:u % 4294967296=u:=Nat.mod_eq_of_lt (by omega)
   have h32:u32B (u:Int)=true:=u32n (by omega)
   simp -implicitDefEqProofs only [n1,n2,n3,n4,w32,hm,Int.toNat_natCast,decide_eq_true (show (x:Int)<((y+c:Nat):Int)by omega),c0,b11,b00,dj,h32,Bool.true_and,cond_true,frow_put rfl hlt]
   exact .inr (fin u 1 (by omega) (by omega) (by omega))
  ·obtain ⟨u,hu⟩:∃u,u+(y+c)=x:=⟨x-(y+c),by omega⟩
   have n4:IntKind.u64.wrap ((x:Int)-((y+c:Nat):Int))=(u:Int):=by rw [u64w (by omega) (by omega)];omega
   have hm:u % 4294967296=u:=Nat.mod_eq_of_lt (by omega)
   have h32:u32B (u:Int)=true:=u32n (by omega)
   simp -implicitDefEqProofs only [n1,n3,n4,w32,hm,Int.toNat_natCast,decide_eq_false (show ¬(x:Int)<((y+c:Nat):Int)by omega),cond_false,c0,b11,b00,dj,h32,Bool.true_and,cond_true,frow_put rfl hlt]
   exact .inr (fin u 0 (by omega) (by omega) (by omega))
 ·have hl:s.length=a.length:=by omega
  rw [hl,List.take_length]at hv
  rw [hl,dge (Nat.le_refl _),cond_false,frow_full hl,bind_go (d1norm (n+1) s hds (by omega)),sub_end ha hb hds h hl hv]
  exact .inl ⟨emp_self _ _,rfl⟩
def zrow (k:Nat) (s:List Nat):List Nat:=List.replicate k 0 ++ s
theorem zrow_nil (k:Nat):List.replicate k 0=zrow k []:=by simp [zrow]
theorem zrow_zero (s:List Nat):zrow 0 s=s:=by simp [zrow]
theorem zrow_len (k:Nat) (s:List Nat):(zrow k s).length=k+s.length:=by simp [zrow]
theorem zrow_set (s:List Nat) (k x:Nat):(zrow (k+1) s).set k x=zrow k (x :: s):=by
 unfold zrow
 rw [List.set_append_left _ _ (by simp),List.replicate_succ',List.set_append_right _ _ (by simp)]
 simp
theorem short_next {a s:List Nat} {d k r:Nat} (hk:k<a.length) (hd:0<d) (h:val (a.drop (k+1))=val s*d+r) :
  val (a.drop k)=val ((r*4294967296+a.getD k 0) / d :: s)*d+(r*4294967296+a.getD k 0) % d:=by
 rw [val_drop_cons a k hk,h,val_cons]
 have e:a[k]=a.getD k 0:=by rw [List.getD_eq_getElem?_getD,List.getElem?_eq_getElem hk];rfl
 rw [e]
 generalize a.getD k 0=x
 have:=Nat.div_add_mod (r*4294967296+x) d
 generalize (r*4294967296+x) / d=u at *
 generalize (r*4294967296+x) % d=v at *
 grind
theorem d1short (a:List Nat) (d:Nat) (ha:Dig a) (hla:a.length<1000000000000) (hd0:0<d) (hd:d<4294967296):DF fuel (n+2) 134 [vN a,vU (d:Int)] [.c .nat,.c (.int .u64)]=some (limbs (val a / d),((val a % d:Nat):Int),()):=by
 have w0:∀k:Nat,k≤a.length→IntKind.i64.wrap ((k:Int)-1)=((k:Int)-1):=fun k hk=>w64 (by omega) (by omega)
 have hd1:((d:Int) == 0)=false:=by rw [beq_eq_false_iff_ne];omega
 refine (d1short_m (n+1) a d).trans ?_
 rw [mkN (by omega),cond_true,Int.toNat_natCast,w0 _ (Nat.le_refl _),zrow_nil]
 refine congrArg (a₂:=some (Ans.ret (limbs (val a / d),((val a % d:Nat):Int),()))) unwrapA ?_
 refine loopA_inv (ts:=[tI,tU,tN]) (fun x=>∃(k:Nat) (s:List Nat) (r:Nat),k+s.length=a.length∧Dig s∧r<d∧val (a.drop k)=val s*d+r∧x=((k:Int)-1,(r:Int),zrow k s,())) (fun (x:Int × Int × List Nat × Unit)=>(x.1+1).toNat) (fun x hx=>?_) _ ⟨a.length,[],0,by simp,dig_nil,hd0,by simp [val],rfl⟩ (fuel_lt (by show ((a.length:Int)-1+1).toNat<_;omega))
 obtain ⟨k,s,r,hs,hds,hr,hv,rfl⟩:=hx
 cases k with
 | zero =>
  have hq:val s=val a / d:=by
   rw [List.drop_zero]at hv
   rw [hv,Nat.mul_comm,Nat.mul_add_div hd0,Nat.div_eq_of_lt hr];omega
  have hm:r=val a % d:=by
   rw [List.drop_zero]at hv
   rw [hv,Nat.mul_comm,Nat.mul_add_mod,Nat.mod_eq_of_lt hr]
  dsimp only
  rw [decide_eq_false (show ¬(0:Int)≤((0:Nat):Int)-1 by omega),cond_false,zrow_zero,bind_go (d1norm n s hds (by omega)),hq,hm]
  exact .inl ⟨emp_self _ _,rfl⟩
 | succ k =>
  have e2:((k+1:Nat):Int)-1=(k:Int):=by omega
  have hk:k<a.length:=by omega
  rw [e2]
  dsimp only
  rw [decide_eq_true (show (0:Int)≤(k:Nat)by omega),cond_true,ix_get (getD_some hk)]
  have dx:=dig_getD ha k
  have hnext:=short_next hk hd0 hv
  generalize a.getD k 0=x at *
  have n1:IntKind.u64.wrap ((r:Int)*4294967296)=((r*4294967296:Nat):Int):=by rw [u64w (by omega) (by omega)];omega
  have n2:IntKind.u64.wrap (x:Int)=(x:Int):=u64w (by omega) (by omega)
  have n3:IntKind.u64.wrap (((r*4294967296:Nat):Int)+(x:Int))=((r*4294967296+x:Nat):Int):=by rw [u64w (by omega) (by omega)];omega
  have hlt:r*4294967296+x<d*4294967296:=by
   have:(r+1)*4294967296≤d*4294967296:=Nat.mul_le_mul_right _ hr
   omega
  have hX:r*4294967296+x<18446744073709551616:=by omega
  generalize hX2:r*4294967296+x=X at *
  have hq:X / d<4294967296:=Nat.div_lt_of_lt_mul hlt
  have hmod:X % d<d:=Nat.mod_lt _ hd0
  have n4:IntKind.u64.wrap ((X:Int).tdiv (d:Int))=((X / d:Nat):Int):=by rw [IntWalk.u64_quo _ _ ⟨by omega,by omega,by omega⟩];simp
  have n5:(X:Int).tmod (d:Int)=((X % d:Nat):Int):=by rw [Int.tmod_eq_emod_of_nonneg (by omega)];simp
  have dj:decide (k<(zrow (k+1) s).length)=true:=decide_eq_true (by rw [zrow_len];omega)
  have hm:X / d % 4294967296=X / d:=Nat.mod_eq_of_lt hq
  have h32:u32B ((X / d:Nat):Int)=true:=u32n hq
  simp -implicitDefEqProofs only [Option.bind_some,two32,n1,n2,n3,n4,n5,hd1,w32,hm,w0 k (by omega),Int.toNat_natCast,cond_false,b11,b00,dj,h32,Bool.true_and,cond_true,zrow_set]
  exact .inr ⟨((k:Int)-1,((X % d:Nat):Int),zrow k (X / d :: s),()),rfl,⟨k,X / d :: s,X % d,by simp;omega,dig_cons.2 ⟨hq,hds⟩,hmod,hnext,rfl⟩,by show ((k:Int)-1+1).toNat<((k:Int)+1).toNat;omega⟩
end
end Go.Proofs.YtcggnmddcbhchaaGreatDoor
set_option linter.unusedSimpArgs false
set_option linter.unusedVariables false
namespace Go.Proofs.YtcggnmddcbhchaaGreatDoor
open Go.RowKit Lim
theorem loopA_nest {R:Type} {dp dq:Nat} {ts us:List VT} {step:denL ts→Option (Ans R)} {n:Nat} {Q:denL us→Prop} (I:denL ts→Prop) (μ:denL ts→Nat) (h:∀x,I x→(∃y,step x=some (.cont dq us y)∧Q y)∨∃y,step x=some (.cont dp ts y)∧I y∧μ y<μ x) (hd:Nat.beq dq dp=false) (x:denL ts) (hx:I x) (hn:μ x<n):∃y,loopA dp ts step n x=some (.cont dq us y)∧Q y:=by
 induction n generalizing x with
 | zero=>omega
 | succ n ih =>
  rcases h x hx with ⟨y,h1,h2⟩|⟨y,h1,h2,h3⟩
  ·exact ⟨y,loopA_end h1 (by simp [Ans.out,hd]),h2⟩
  ·obtain ⟨q,h4,h5⟩:=ih y h2 (by omega)
   exact ⟨q,(loopA_go h1).trans h4,h5⟩
theorem half_next {a s:List Nat} {x y u:Nat} (hx:a.getD s.length 0=x) (hu:2*u+x % 2=x+4294967296*(y % 2)) (h:2*val s+a.getD 0 0 % 2=val (a.take s.length)+pw s.length*(x % 2)) :
  2*val (s ++ [u])+a.getD 0 0 % 2=val (a.take (s.length+1))+pw (s.length+1)*(y % 2):=by
 rw [take_getD,hx,val_snoc,pw_succ]
 have e:pw s.length*(2*u)+pw s.length*(x % 2)=pw s.length*x+4294967296*pw s.length*(y % 2):=by
  rw [←Nat.mul_add,hu,Nat.mul_add];grind
 have e2:2*(pw s.length*u)=pw s.length*(2*u):=by grind
 omega
theorem two1:(2:Int) ^ min (Int.toNat 1) IntKind.u64.bits=2:=rfl
theorem fdiv2 (n:Nat):(n:Int).fdiv 2=((n / 2:Nat):Int):=by
 rw [Int.fdiv_eq_ediv_of_nonneg _ (by omega)];omega
def bitsN (n:Nat):Nat:=if h:n=0 then 0 else bitsN (n / 2)+1 termination_by n decreasing_by omega
theorem bitsN_zero:bitsN 0=0:=by unfold bitsN;simp
theorem bitsN_pos {n:Nat} (h:0<n):bitsN n=bitsN (n / 2)+1:=by rw [bitsN,dif_neg (by omega)]
theorem bitsN_shift (j:Nat):∀(m r:Nat),0<m→r<2 ^ j→bitsN (r+2 ^ j*m)=j+bitsN m:=by
 induction j with
 | zero=>intro m r hm hr;simp at hr;subst hr;simp
 | succ j ih =>
  intro m r hm hr
  rw [Nat.pow_succ]at hr ⊢
  have hp:0<2 ^ j:=Nat.two_pow_pos j
  have h1:0<2 ^ j*2*m:=Nat.mul_pos (Nat.mul_pos hp (by omega)) hm
  rw [bitsN_pos (by omega)]
  have h2:(r+2 ^ j*2*m) / 2=r / 2+2 ^ j*m:=by
   rw [show 2 ^ j*2*m=2*(2 ^ j*m)by grind];omega
  rw [h2,ih m (r / 2) hm (by omega)]
  omega
theorem bitsN_lt (n:Nat):n<2 ^ bitsN n:=by
 induction n using Nat.strongRecOn with
 | _ n ih =>
  by_cases h:n=0
  ·subst h;simp [bitsN_zero]
  ·rw [bitsN_pos (by omega),Nat.pow_succ]
   have:=ih (n / 2) (by omega)
   omega
theorem bitsN_le {n:Nat} (h:0<n):2 ^ (bitsN n-1)≤n:=by
 induction n using Nat.strongRecOn with
 | _ n ih =>
  rw [bitsN_pos h]
  by_cases h1:n / 2=0
  ·rw [h1,bitsN_zero];simp;omega
  ·have:=ih (n / 2) (by omega) (by omega)
   have h2:=bitsN_pos (show 0<n / 2 by omega)
   rw [show bitsN (n / 2)+1-1=(bitsN (n / 2)-1)+1 by omega,Nat.pow_succ]
   omega
theorem pw_two (k:Nat):pw k=2 ^ (32*k):=by unfold pw;rw [show 4294967296=2 ^ 32 from rfl,←Nat.pow_mul]
theorem limbs_last {n:Nat} (h:0<n):∃lo top,n=lo+pw ((limbs n).length-1)*top∧lo<pw ((limbs n).length-1)∧(limbs n)[(limbs n).length-1]? = some top∧0<top∧top<4294967296:=by
 have hl:0<(limbs n).length:=by
  cases he:limbs n with
  | nil=>have:=limbs_eq_nil.1 he;omega
  | cons=>simp
 have hlt:(limbs n).length-1<(limbs n).length:=by omega
 refine ⟨val ((limbs n).take ((limbs n).length-1)),(limbs n)[(limbs n).length-1],?_,?_,List.getElem?_eq_getElem hlt,?_,dig_get (dig_limbs n) hlt⟩
 ·have h1:=val_take_succ (limbs n) _ hlt
  rw [show (limbs n).length-1+1=(limbs n).length by omega,List.take_length,val_limbs]at h1
  exact h1
 ·exact take_lt (dig_limbs n) _
 ·have:=nrm_limbs n hl;omega
theorem bitsN_small {n j:Nat} (h:n<2 ^ j):bitsN n≤j:=by
 by_cases h0:n=0
 ·subst h0;rw [bitsN_zero];omega
 ·have h1:=bitsN_le (show 0<n by omega)
  have h2:=Nat.lt_of_le_of_lt h1 h
  have h3:=(Nat.pow_lt_pow_iff_right (by omega:1<2)).1 h2
  omega
theorem bitsN_top {n:Nat} (h:0<n) {top:Nat} (ht:(limbs n)[(limbs n).length-1]? = some top):bitsN n=32*((limbs n).length-1)+bitsN top:=by
 obtain ⟨lo,t,h1,h2,h3,h4,_⟩:=limbs_last h
 rw [ht]at h3
 cases h3
 rw [pw_two]at h1 h2
 conv=>lhs;rw [h1]
 exact bitsN_shift _ _ _ h4 h2
theorem mul_in {b p:List Nat} {i k c A V z y u v:Nat} (hk:i+k<p.length) (hz:p.getD (i+k) 0=z) (hy:b.getD k 0=y) (ht:z+A*y+c=u+4294967296*v)
  (h:val p+pw (i+k)*c=V+pw i*(A*val (b.take k))):val (p.set (i+k) u)+pw (i+(k+1))*v=V+pw i*(A*val (b.take (k+1))):=by
 have h1:=val_set p (i+k) u hk
 rw [show p[i+k]=z by rw [←hz,List.getD_eq_getElem?_getD,List.getElem?_eq_getElem hk];rfl]at h1
 rw [take_getD,hy,←Nat.add_assoc,pw_succ]
 rw [pw_add]at h h1 ⊢
 generalize val (p.set (i+k) u)=S at *
 generalize val p=T at *
 generalize val (b.take k)=W at *
 generalize pw i=P at *
 generalize pw k=Q at *
 have e3:P*Q*(z+A*y+c)=P*Q*(u+4294967296*v):=by rw [ht]
 grind
theorem prod_lt {x y z c:Nat} (hx:x<4294967296) (hy:y<4294967296) (hz:z<4294967296) (hc:c<4294967296):z+x*y+c<18446744073709551616∧x*y<18446744073709551616∧z+x*y<18446744073709551616:=by
 have:x*y≤4294967295*4294967295:=Nat.mul_le_mul (by omega) (by omega)
 omega
theorem or_nat {z m sh:Nat} (hz:z<2 ^ sh):z ||| 2 ^ sh*m=z+2 ^ sh*m:=by
 rw [Nat.or_comm,←Nat.two_pow_add_eq_or_of_lt hz,Nat.add_comm]
theorem or_bv (z y:Nat):(BitVec.ofInt IntKind.u32.bits (z:Int) ||| BitVec.ofInt IntKind.u32.bits (y:Int)).toNat=z % 4294967296 ||| y % 4294967296:=by
 rw [BitVec.ofInt_natCast,BitVec.ofInt_natCast,BitVec.toNat_or,BitVec.toNat_ofNat,BitVec.toNat_ofNat]
 rfl
theorem or32 {z y m sh:Nat} (hz:z<2 ^ sh) (hy:y=2 ^ sh*m) (h:z+y<4294967296):(z % 4294967296 ||| y % 4294967296) % 4294967296=z+y:=by
 rw [Nat.mod_eq_of_lt (show z<4294967296 by omega),Nat.mod_eq_of_lt (show y<4294967296 by omega),hy,or_nat hz,←hy,Nat.mod_eq_of_lt h]
theorem or32' {z y m sh:Nat} (hz:z<2 ^ sh) (hy:y=2 ^ sh*m) (h:z+y<4294967296):(y % 4294967296 ||| z % 4294967296) % 4294967296=z+y:=by
 rw [Nat.or_comm];exact or32 hz hy h
theorem shift_next {a p:List Nat} {i w sh x z:Nat} (hi:a.getD i 0=x) (hp:p.length=i+w+1) (hz:p.getD (i+w) 0=z) (h:val p=val (a.take i)*2 ^ sh*pw w) :
  val (p.set (i+w) (z+x*2 ^ sh % 4294967296) ++ [x*2 ^ sh / 4294967296])=val (a.take (i+1))*2 ^ sh*pw w:=by
 have h1:=val_set p (i+w) (z+x*2 ^ sh % 4294967296) (by omega)
 rw [show p[i+w]=z by rw [←hz,List.getD_eq_getElem?_getD,List.getElem?_eq_getElem (show i+w<p.length by omega)];rfl]at h1
 rw [val_snoc,List.length_set,hp,take_getD,hi,pw_succ]
 rw [pw_add]at h1 ⊢
 have e:x*2 ^ sh=x*2 ^ sh % 4294967296+4294967296*(x*2 ^ sh / 4294967296):=by omega
 generalize x*2 ^ sh % 4294967296=u at *
 generalize x*2 ^ sh / 4294967296=v at *
 generalize val (p.set (i+w) (z+u))=V at *
 generalize 2 ^ sh=T at *
 generalize pw i=P at *
 generalize pw w=Q at *
 have e2:P*Q*(x*T)=P*Q*(u+4294967296*v):=by rw [←e]
 grind
theorem limbs_single {n:Nat} (h0:0<n) (h:n<4294967296):limbs n=[n]:=by
 rw [limbs_pos (by omega),Nat.mod_eq_of_lt h,Nat.div_eq_of_lt h,limbs_zero]
theorem nlen_single {n:Nat} (h:nlen n=1):0<n∧n<4294967296:=by
 refine ⟨?_,?_⟩
 ·rcases Nat.eq_zero_or_pos n with h0|h0
  ·subst h0;rw [nlen_zero]at h;omega
  ·exact h0
 ·have:=lt_nlen n
  rw [h,pw_succ,pw_zero]at this
  omega
theorem limb_val {r:List Nat} (hr:Dig r) (j:Nat):r.getD j 0=val r / pw j % 4294967296:=by
 by_cases hj:j≤r.length
 ·have h1:=val_take_drop r j hj
  have h2:=val_take_lt hr hj
  have h3:val r / pw j=val (r.drop j):=by rw [h1,Nat.add_mul_div_left _ _ (pw_pos j),Nat.div_eq_of_lt h2];omega
  rw [h3,val_head _ (dig_drop hr j)]
  simp
 ·have h1:=val_lt hr
  have h2:=pw_mono (show r.length≤j by omega)
  rw [Nat.div_eq_of_lt (by omega)]
  simp [List.getElem?_eq_none (show r.length≤j by omega)]
theorem bit_put {r:List Nat} (hr:Dig r) {i m:Nat} (hm:val r=2 ^ (i+1)*m):∃q,r.getD (i / 32) 0=2 ^ (i % 32+1)*q∧2 ^ (i % 32)+2 ^ (i % 32+1)*q<4294967296:=by
 have hi:i+1=32*(i / 32)+(i % 32+1):=by omega
 have e1:r.getD (i / 32) 0=2 ^ (i % 32+1)*m % 4294967296:=by
  rw [limb_val hr,hm,hi,Nat.pow_add,pw_two,Nat.mul_assoc,Nat.mul_div_cancel_left _ (Nat.two_pow_pos _)]
 have hB:4294967296=2 ^ (i % 32+1)*2 ^ (31-i % 32):=by rw [←Nat.pow_add,show i % 32+1+(31-i % 32)=32 by omega]
 refine ⟨m % 2 ^ (31-i % 32),?_,?_⟩
 ·rw [e1,hB,Nat.mul_mod_mul_left]
 ·have h1:m % 2 ^ (31-i % 32)<2 ^ (31-i % 32):=Nat.mod_lt _ (Nat.two_pow_pos _)
  have h2:2 ^ (i % 32+1)*(m % 2 ^ (31-i % 32)+1)≤2 ^ (i % 32+1)*2 ^ (31-i % 32):=Nat.mul_le_mul_left _ h1
  rw [←hB,Nat.mul_add]at h2
  have h3:2 ^ (i % 32+1)=2*2 ^ (i % 32):=by rw [Nat.pow_succ];omega
  have h4:=Nat.two_pow_pos (i % 32)
  omega
theorem pw_bit (i:Nat):pw (i / 32)*2 ^ (i % 32)=2 ^ i:=by rw [pw_two,←Nat.pow_add];congr 1;omega
section
variable (n:Nat)
theorem d1half (a:List Nat) (ha:Dig a) (hla:a.length<1000000000000):DF fuel (n+2) 222 [vN a] [.c .nat]=some (limbs (val a / 2),()):=by
 refine (d1half_m (n+1) a).trans ?_
 rw [mkN (by omega),cond_true,Int.toNat_natCast,frow_nil]
 refine congrArg (a₂:=some (Ans.ret (limbs (val a / 2),()))) unwrapA ?_
 refine loopA_inv (ts:=[tI,tN]) (fun x=>∃s:List Nat,s.length≤a.length∧Dig s∧2*val s+a.getD 0 0 % 2=val (a.take s.length)+pw s.length*(a.getD s.length 0 % 2)∧x=((s.length:Int),frow a.length s,())) (fun (x:Int × List Nat × Unit)=>a.length-x.1.toNat) (fun x hx=>?_) _ ⟨[],by simp,dig_nil,by simp [val,pw_zero],rfl⟩ (fuel_lt (by omega))
 obtain ⟨s,hs,hds,hv,rfl⟩:=hx
 dsimp only
 rw [frow_len hs]
 by_cases hlt:s.length<a.length
 ·have n3:IntKind.i64.wrap ((s.length:Int)+1)=((s.length+1:Nat):Int):=w64n (by omega)
  rw [dlt hlt,cond_true,n3,bind_go (d1limb n a ha (s.length+1)),ix_get (getD_some hlt)]
  have dx:=dig_getD ha s.length
  have dy:=dig_getD ha (s.length+1)
  obtain ⟨x,hx⟩:∃x,a.getD s.length 0=x:=⟨_,rfl⟩
  obtain ⟨y,hy⟩:∃y,a.getD (s.length+1) 0=y:=⟨_,rfl⟩
  rw [hx]at dx hv
  rw [hy]at dy
  have n1:IntKind.u64.wrap ((y:Int)*4294967296)=((y*4294967296:Nat):Int):=by rw [u64w (by omega) (by omega)];omega
  have n2:IntKind.u64.wrap (x:Int)=(x:Int):=u64w (by omega) (by omega)
  have n4:IntKind.u64.wrap (((y*4294967296:Nat):Int)+x)=((y*4294967296+x:Nat):Int):=by rw [u64w (by omega) (by omega)];omega
  have dj:decide (s.length<a.length)=true:=decide_eq_true hlt
  obtain ⟨u,hu⟩:∃u,(y*4294967296+x) / 2 % 4294967296=u:=⟨_,rfl⟩
  have h32:u32B (u:Int)=true:=u32n (by omega)
  simp -implicitDefEqProofs only [Option.bind_some,hx,hy,n1,n2,n4,two32,two1,fdiv2,w32,hu,Int.toNat_natCast,c0,b11,b00,dj,h32,Bool.true_and,cond_true,frow_put rfl hlt]
  refine .inr ⟨(((s.length+1:Nat):Int),frow a.length (s ++ [u]),()),rfl,⟨s ++ [u],by simp;omega,dig_snoc hds (by omega),?_,by simp⟩,by show a.length-((s.length+1:Nat):Int).toNat<a.length-(s.length:Int).toNat;omega⟩
  simp only [List.length_append,List.length_cons,List.length_nil,Nat.zero_add]
  rw [hy]
  exact half_next hx (by omega) hv
 ·have hl:s.length=a.length:=by omega
  rw [hl,List.take_length,show a.getD a.length 0=0 by simp]at hv
  rw [hl,dge (Nat.le_refl _),cond_false,frow_full hl,bind_go (d1norm n s hds (by omega)),show val s=val a / 2 by omega]
  exact .inl ⟨emp_self _ _,rfl⟩
theorem d1bits (a:List Nat) (ha:Dig a) (hla:a.length<1000000000000):DF fuel (n+2) 137 [vN a] [.c (.int .i64)]=some (((bitsN (val a):Nat):Int),()):=by
 have hnl:=nlen_val ha
 refine (d1Bits_m (n+1) a).trans ?_
 rw [bind_go (d1norm n a ha (by omega))]
 dsimp only
 generalize val a=m at *
 by_cases h0:m=0
 ·subst h0
  rw [limbs_zero,bitsN_zero]
  rfl
 ·obtain ⟨lo,top,_,_,h3,h4,h5⟩:=limbs_last (show 0<m by omega)
  have hb:=bitsN_top (by omega) h3
  have hl:0<(limbs m).length:=by
   cases he:limbs m with
   | nil=>have:=limbs_eq_nil.1 he;omega
   | cons=>simp
  have hl2:(limbs m).length=nlen m:=rfl
  generalize hL:limbs m=L at *
  have f1:((L.length:Int) == 0)=false:=by rw [beq_eq_false_iff_ne];omega
  have n1:IntKind.i64.wrap ((L.length:Int)-1)=((L.length-1:Nat):Int):=by rw [w64 (by omega) (by omega)];omega
  have n2:IntKind.i64.wrap (32*((L.length-1:Nat):Int))=((32*(L.length-1):Nat):Int):=by rw [w64 (by omega) (by omega)];omega
  have hB:bitsN m<33000000000000:=by have:=bitsN_small (j:=32) h5;omega
  rw [f1,cond_false,n1,ix_get h3,n2]
  simp -implicitDefEqProofs only [Option.bind_some]
  refine congrArg (a₂:=some (Ans.ret (((bitsN m:Nat):Int),()))) unwrapA ?_
  refine loopA_inv (ts:=[.int .u32,tI]) (fun x=>∃y k:Nat,y<4294967296∧k+bitsN y=bitsN m∧x=((y:Int),(k:Int),())) (fun (x:Int × Int × Unit)=>x.1.toNat) (fun x hx=>?_) _ ⟨top,_,h5,hb.symm,rfl⟩ (fuel_lt (by show (top:Int).toNat<_;omega))
  obtain ⟨y,k,hy,hk,rfl⟩:=hx
  dsimp only
  by_cases hy0:y=0
  ·subst hy0
   rw [bitsN_zero,Nat.add_zero]at hk
   rw [hk]
   exact .inl ⟨rfl,rfl⟩
  ·have hbp:=bitsN_pos (show 0<y by omega)
   have p1:IntKind.i64.wrap ((k:Int)+1)=((k+1:Nat):Int):=w64n (by omega)
   have p2:IntKind.u32.wrap ((y:Int).tdiv 2)=((y / 2:Nat):Int):=by rw [IntWalk.u32_quo _ _ (by omega)];omega
   rw [decide_eq_true (show (0:Int)<(y:Nat)by omega),cond_true,p1,p2]
   exact .inr ⟨_,rfl,⟨y / 2,k+1,by omega,by omega,rfl⟩,by show ((y / 2:Nat):Int).toNat<(y:Int).toNat;omega⟩
theorem d1mul (a b:List Nat) (ha:Dig a) (hb:Dig b) (hlab:a.length+b.length<1000000000000):DF fuel (n+2) 108 [vN a,vN b] [.c .nat]=some (limbs (val a*val b),()):=by
 have w0:IntKind.i64.wrap ((a.length:Int)+(b.length:Int))=((a.length+b.length:Nat):Int):=by rw [w64 (by omega) (by omega)];omega
 refine (d1Mul_m (n+1) a b).trans ?_
 rw [w0]
 generalize hN:a.length+b.length=N at *
 rw [mkN (by omega),cond_true,Int.toNat_natCast,frow_start (show b.length≤N by omega)]
 refine congrArg (a₂:=some (Ans.ret (limbs (val a*val b),()))) unwrapA ?_
 refine loopA_inv (ts:=[tI,tN]) (fun x=>∃(i:Nat) (p:List Nat),i≤a.length∧p.length=i+b.length∧Dig p∧val p=val (a.take i)*val b∧x=((i:Int),frow N p,())) (fun (x:Int × List Nat × Unit)=>a.length-x.1.toNat) (fun x hx=>?_) _ ⟨0,List.replicate b.length 0,by simp,by simp,dig_replicate _,by simp [val,val_replicate],rfl⟩ (fuel_lt (by omega))
 obtain ⟨i,p,hi,hp,hdp,hv,rfl⟩:=hx
 dsimp only
 by_cases hlt:i<a.length
 ·have p1:IntKind.i64.wrap ((i:Int)+1)=((i+1:Nat):Int):=w64n (by omega)
  have dA:=dig_getD ha i
  have hA:=ix_get (getD_some hlt)
  have hTA:=take_getD a i
  generalize a.getD i 0=A at *
  have nA:IntKind.u64.wrap (A:Int)=(A:Int):=u64w (by omega) (by omega)
  rw [dlt hlt,cond_true]
  refine .inr (loopA_nest (ts:=[tI,tU,tN]) (fun x=>∃(k c:Nat) (r:List Nat),k≤b.length∧r.length=i+b.length∧Dig r∧c<4294967296∧val r+pw (i+k)*c=val (a.take i)*val b+pw i*(A*val (b.take k))∧x=((k:Int),(c:Int),frow N r,())) (fun (x:Int × Int × List Nat × Unit)=>b.length-x.1.toNat) (fun x hx=>?_) rfl _ ⟨0,0,p,by simp,hp,hdp,by simp,by simp [val,hv],rfl⟩ (fuel_lt (by omega)))
  obtain ⟨k,c,r,hk,hr,hdr,hc,hw,rfl⟩:=hx
  dsimp only
  rw [frow_len (show r.length≤N by omega)]
  by_cases hkl:k<b.length
  ·have q1:IntKind.i64.wrap ((k:Int)+1)=((k+1:Nat):Int):=w64n (by omega)
   have q2:IntKind.i64.wrap ((i:Int)+(k:Int))=((i+k:Nat):Int):=by rw [w64 (by omega) (by omega)];omega
   obtain ⟨y,hy⟩:∃y,b.getD k 0=y:=⟨_,rfl⟩
   obtain ⟨z,hz⟩:∃z,r.getD (i+k) 0=z:=⟨_,rfl⟩
   have dy:=dig_getD hb k
   have dz:=dig_getD hdr (i+k)
   have hgy:=ix_get (getD_some hkl)
   have hgz:=frow_get (N:=N) (show i+k<r.length by omega)
   rw [hy]at dy hgy
   rw [hz]at dz hgz
   have hb3:=prod_lt dA dy dz hc
   have ny:IntKind.u64.wrap (y:Int)=(y:Int):=u64w (by omega) (by omega)
   have nz:IntKind.u64.wrap (z:Int)=(z:Int):=u64w (by omega) (by omega)
   have hin:=fun u v ht=>mul_in (A:=A) (u:=u) (v:=v) (show i+k<r.length by omega) hz hy ht hw
   have n1:IntKind.u64.wrap ((A:Int)*(y:Int))=((A*y:Nat):Int):=by rw [←Int.natCast_mul,wr64 hb3.2.1]
   have n2:IntKind.u64.wrap ((z:Int)+((A*y:Nat):Int))=((z+A*y:Nat):Int):=by rw [←Int.natCast_add,wr64 hb3.2.2]
   have n3:IntKind.u64.wrap (((z+A*y:Nat):Int)+(c:Int))=((z+A*y+c:Nat):Int):=by rw [←Int.natCast_add,wr64 hb3.1]
   obtain ⟨t,ht⟩:∃t,z+A*y+c=t:=⟨_,rfl⟩
   rw [ht]at n3 hb3 hin
   have dj:decide (i+k<N)=true:=decide_eq_true (by omega)
   have hu:u32B ((t % 4294967296:Nat):Int)=true:=u32n (by omega)
   rw [dlt hkl,cond_true]
   simp -implicitDefEqProofs only [q1,q2,nA,ny,nz,n1,n2,n3,hA,hgy,hgz,two32,shr32,w32,Int.toNat_natCast,Option.bind_some,c0,b11,b00,dj,hu,Bool.true_and,cond_true,frow_set (show i+k<r.length by omega)]
   exact .inr ⟨_,rfl,⟨k+1,t / 4294967296,r.set (i+k) (t % 4294967296),hkl,by simp [hr],dig_set hdr _ (by omega),by omega,hin _ _ (by omega),rfl⟩,by show b.length-((k+1:Nat):Int).toNat<b.length-(k:Int).toNat;omega⟩
  ·obtain rfl:k=b.length:=by omega
   have q2:IntKind.i64.wrap ((i:Int)+(b.length:Int))=((i+b.length:Nat):Int):=by rw [w64 (by omega) (by omega)];omega
   have hm:c % 4294967296=c:=Nat.mod_eq_of_lt hc
   have h32:u32B (c:Int)=true:=u32n hc
   have dj:decide (i+b.length<N)=true:=decide_eq_true (by omega)
   rw [dge (Nat.le_refl _),cond_false]
   simp -implicitDefEqProofs only [q2,w32,hm,p1,Int.toNat_natCast,c0,b11,b00,dj,h32,Bool.true_and,cond_true,frow_put hr.symm (show r.length<N by omega)]
   refine .inl ⟨_,rfl,⟨i+1,r ++ [c],hlt,by simp [hr];omega,dig_snoc hdr hc,?_,rfl⟩,by show a.length-((i+1:Nat):Int).toNat<a.length-(i:Int).toNat;omega⟩
   rw [val_snoc,hr,hw,List.take_length,hTA]
   grind
 ·obtain rfl:i=a.length:=by omega
  rw [List.take_length]at hv
  rw [dge (Nat.le_refl _),cond_false,frow_full (show p.length=N by omega),bind_go (d1norm n p hdp (by omega)),hv]
  exact .inl ⟨emp_self _ _,rfl⟩
theorem d1shift (a:List Nat) (m:Nat) (ha:Dig a) (hla:a.length<100000000000) (hm:m<10000000000000):DF fuel (n+2) 221 [vN a,vI (m:Int)] [.c .nat]=some (limbs (val a*2 ^ m),()):=by
 obtain ⟨w,hw⟩:∃w,m / 32=w:=⟨_,rfl⟩
 obtain ⟨sh,hsh⟩:∃sh,m % 32=sh:=⟨_,rfl⟩
 have hn2:m=32*w+sh:=by omega
 have d1:IntKind.i64.wrap ((m:Int).tdiv 32)=(w:Int):=by rw [Int.tdiv_eq_ediv_of_nonneg (by omega),w64 (by omega) (by omega)];omega
 have d2:(m:Int).tmod 32=(sh:Int):=by rw [Int.tmod_eq_emod_of_nonneg (by omega)];omega
 have d3:IntKind.u64.wrap (sh:Int)=(sh:Int):=u64w (by omega) (by omega)
 have d4:min sh IntKind.u64.bits=sh:=by show min sh 64=sh;omega
 have w0:IntKind.i64.wrap ((a.length:Int)+(w:Int))=((a.length+w:Nat):Int):=by rw [w64 (by omega) (by omega)];omega
 have w1:IntKind.i64.wrap (((a.length+w:Nat):Int)+1)=((a.length+w+1:Nat):Int):=w64n (by omega)
 have hpow:2 ^ m=2 ^ sh*pw w:=by rw [hn2,Nat.pow_add,pw_two,Nat.mul_comm]
 have hT:2 ^ sh≤2147483648:=by
  have:2 ^ sh≤2 ^ 31:=Nat.pow_le_pow_right (by omega) (by omega)
  omega
 have hB:4294967296=2 ^ sh*2 ^ (32-sh):=by rw [←Nat.pow_add,show sh+(32-sh)=32 by omega]
 refine (d1Shift_m (n+1) a m).trans ?_
 rw [d1,d2,d3,w0,w1]
 generalize hN:a.length+w+1=N at *
 rw [mkN (by omega),cond_true,Int.toNat_natCast,Int.toNat_natCast,d4,frow_start (show w+1≤N by omega)]
 refine congrArg (a₂:=some (Ans.ret (limbs (val a*2 ^ m),()))) unwrapA ?_
 refine loopA_inv (ts:=[tI,tN]) (fun x=>∃(i:Nat) (p:List Nat),i≤a.length∧p.length=i+w+1∧Dig p∧val p=val (a.take i)*2 ^ sh*pw w∧p.getD (i+w) 0<2 ^ sh∧x=((i:Int),frow N p,())) (fun (x:Int × List Nat × Unit)=>a.length-x.1.toNat) (fun x hx=>?_) _ ⟨0,List.replicate (w+1) 0,by simp,by simp,dig_replicate _,by simp [val,val_replicate],by simp [Nat.two_pow_pos],rfl⟩ (fuel_lt (by omega))
 obtain ⟨i,p,hi,hp,hdp,hv,htop,rfl⟩:=hx
 dsimp only
 by_cases hlt:i<a.length
 ·have p1:IntKind.i64.wrap ((i:Int)+1)=((i+1:Nat):Int):=w64n (by omega)
  have q2:IntKind.i64.wrap ((i:Int)+(w:Int))=((i+w:Nat):Int):=by rw [w64 (by omega) (by omega)];omega
  have q3:IntKind.i64.wrap (((i+w:Nat):Int)+1)=((i+w+1:Nat):Int):=w64n (by omega)
  obtain ⟨x,hx⟩:∃x,a.getD i 0=x:=⟨_,rfl⟩
  obtain ⟨z,hz⟩:∃z,p.getD (i+w) 0=z:=⟨_,rfl⟩
  have dx:=dig_getD ha i
  have hgx:=ix_get (getD_some hlt)
  have hgz:=frow_get (N:=N) (show i+w<p.length by omega)
  rw [hx]at dx hgx
  rw [hz]at htop hgz
  have hnext:=shift_next hx hp hz hv
  have hxT:x*2 ^ sh<4294967296*2 ^ sh:=Nat.mul_lt_mul_of_pos_right dx (Nat.two_pow_pos _)
  have nx:IntKind.u64.wrap (x:Int)=(x:Int):=u64w (by omega) (by omega)
  have n1:IntKind.u64.wrap ((x:Int)*2 ^ sh)=((x*2 ^ sh:Nat):Int):=by
   rw [show (x:Int)*2 ^ sh=((x*2 ^ sh:Nat):Int)by simp,wr64 (by omega)]
  have hmod:∃mm,x*2 ^ sh % 4294967296=2 ^ sh*mm:=by
   refine ⟨x % 2 ^ (32-sh),?_⟩
   rw [hB,Nat.mul_comm x,Nat.mul_mod_mul_left]
  have hdivT:x*2 ^ sh / 4294967296<2 ^ sh:=Nat.div_lt_of_lt_mul hxT
  obtain ⟨mm,hmm⟩:=hmod
  have hsum:z+2 ^ sh*mm<4294967296:=by
   have h1:2 ^ sh*mm<2 ^ sh*2 ^ (32-sh):=by rw [←hmm,←hB];omega
   have h2:mm<2 ^ (32-sh):=Nat.lt_of_mul_lt_mul_left h1
   have h3:2 ^ sh*(mm+1)≤2 ^ sh*2 ^ (32-sh):=Nat.mul_le_mul_left _ h2
   rw [Nat.mul_add,Nat.mul_one,←hB]at h3
   omega
  rw [←hmm]at hsum
  have hor:=or32 htop hmm hsum
  generalize x*2 ^ sh=X at *
  have n6:IntKind.u32.wrap (X:Int)=((X % 4294967296:Nat):Int):=w32 X
  have n7:IntKind.u32.wrap ((z % 4294967296 ||| X % 4294967296 % 4294967296:Nat):Int)=((z+X % 4294967296:Nat):Int):=by rw [w32,hor]
  have n5:X / 4294967296 % 4294967296=X / 4294967296:=Nat.mod_eq_of_lt (by omega)
  have n8:IntKind.u32.wrap ((X / 4294967296:Nat):Int)=((X / 4294967296:Nat):Int):=by rw [w32,n5]
  have h1:u32B ((z+X % 4294967296:Nat):Int)=true:=u32n hsum
  have h2:u32B ((X / 4294967296:Nat):Int)=true:=u32n (by omega)
  have j1:decide (i+w<N)=true:=decide_eq_true (by omega)
  have j2:decide (i+w+1<N)=true:=decide_eq_true (by omega)
  have l1:(p.set (i+w) (z+X % 4294967296)).length=i+w+1:=by simp [hp]
  rw [dlt hlt,cond_true]
  simp -implicitDefEqProofs only [p1,q2,q3,nx,n1,hgx,hgz,or_bv,n6,n7,n8,two32,shr32,Int.toNat_natCast,Option.bind_some,c0,b11,b00,j1,j2,h1,h2,Bool.true_and,cond_true,frow_len (show p.length≤N by omega),frow_set (show i+w<p.length by omega),frow_len (show (p.set (i+w) (z+X % 4294967296)).length≤N by omega),frow_put l1.symm (show (p.set (i+w) (z+X % 4294967296)).length<N by omega)]
  refine .inr ⟨_,rfl,⟨i+1,p.set (i+w) (z+X % 4294967296) ++ [X / 4294967296],hlt,by simp [hp];omega,dig_snoc (dig_set hdp _ (by omega)) (by omega),hnext,?_,rfl⟩,by show a.length-((i+1:Nat):Int).toNat<a.length-(i:Int).toNat;omega⟩
  rw [List.getD_eq_getElem?_getD,List.getElem?_append_right (by omega),l1,show i+1+w-(i+w+1)=0 by omega]
  simpa using hdivT
 ·obtain rfl:i=a.length:=by omega
  rw [List.take_length,Nat.mul_assoc,←hpow]at hv
  rw [dge (Nat.le_refl _),cond_false,frow_full (show p.length=N by omega),bind_go (d1norm n p hdp (by omega)),hv]
  exact .inl ⟨emp_self _ _,rfl⟩
end
end Go.Proofs.YtcggnmddcbhchaaGreatDoor
set_option linter.unusedSimpArgs false
set_option linter.unusedVariables false
namespace Go.Proofs.YtcggnmddcbhchaaGreatDoor
open Go.RowKit Lim
theorem sg_natAbs (t:Bool) (n:Nat):(sg t n).natAbs=n:=by unfold sg;cases t <;> simp
theorem sg_neg (t:Bool) (n:Nat):decide (sg t n<0)=(t && decide (0<n)):=by unfold sg;cases t <;> simp <;> omega
theorem limbs_len_pos (n:Nat):decide ((0:Int)<((limbs n).length:Nat))=decide (0<n):=by
 by_cases h:n=0
 ·subst h;rw [limbs_zero];rfl
 ·have:0<(limbs n).length:=by
   cases he:limbs n with
   | nil=>have:=limbs_eq_nil.1 he;omega
   | cons=>simp
  have h1:0<n:=by omega
  simp [h1];omega
theorem nlen_div (n k:Nat):nlen (n / k)≤nlen n:=nlen_mono (Nat.div_le_self n k)
theorem bits_zero {n:Nat} (h:n=0):(((bitsN n:Nat):Int) == 0)=true:=by rw [h,bitsN_zero];rfl
theorem bits_pos {n:Nat} (h:n≠0):(((bitsN n:Nat):Int) == 0)=false:=by
 have:=bitsN_pos (show 0<n by omega)
 rw [beq_eq_false_iff_ne]
 omega
def gcdM (u v:Nat):Nat:=bitsN u+bitsN v+if u<v then 1 else 0
theorem gcdM_lt (u:Nat) {v:Nat} (hv:0<v):gcdM v (u % v)<gcdM u v:=by
 have h1:=Nat.mod_lt u hv
 unfold gcdM
 rw [if_neg (show ¬v<u % v by omega)]
 by_cases h:u<v
 ·rw [if_pos h,Nat.mod_eq_of_lt h];omega
 ·rw [if_neg h]
  have h2:=Nat.div_add_mod u v
  have h3:1≤u / v:=(Nat.le_div_iff_mul_le hv).2 (by omega)
  have h4:v*1≤v*(u / v):=Nat.mul_le_mul_left _ h3
  have h5:=bitsN_pos (show 0<u by omega)
  have h6:bitsN (u % v)≤bitsN (u / 2):=bitsN_small (Nat.lt_of_le_of_lt (show u % v≤u / 2 by omega) (bitsN_lt _))
  omega
section
variable (n:Nat)
theorem d1div_one (a b:List Nat) (ha:Dig a) (hb:Dig b) (hla:a.length<10000000000) (hlb:b.length<10000000000) (h:nlen (val b)=1):DF fuel (n+4) 185 [vN a,vN b] [.c .nat,.c .nat,.c .bool]=some (limbs (val a / val b),limbs (val a % val b),true,()):=by
 obtain ⟨h0,h1⟩:=nlen_single h
 have hL:=limbs_single h0 h1
 have hna:=nlen_val ha
 have hlt:=Nat.mod_lt (val a) h0
 refine (d1DivMod_m (n+3) a b).trans ?_
 rw [bind_go (d1norm (n+2) a ha (by omega)),bind_go (d1norm (n+2) b hb (by omega)),hL]
 generalize val b=d at *
 have f1:((([d].length:Nat):Int) == 0)=false:=rfl
 have f2:((([d].length:Nat):Int) == 1)=true:=rfl
 have n1:IntKind.u64.wrap (d:Int)=(d:Int):=u64w (by omega) (by omega)
 dsimp only
 rw [f1,f2,cond_false,cond_true,ix_zero]
 simp -implicitDefEqProofs only [Option.bind_some]
 rw [n1,bind_go (d1short (n+1) _ d (dig_limbs _) (by show nlen _<_;omega) h0 h1),val_limbs]
 dsimp only
 rw [bind_go (d1of (n+1) _ (by omega))]
 rfl
set_option maxHeartbeats 1000000 in
theorem d1div_long (a b:List Nat) (ha:Dig a) (hb:Dig b) (hla:a.length<10000000000) (hlb:b.length<10000000000) (h:2≤nlen (val b)):DF fuel (n+4) 185 [vN a,vN b] [.c .nat,.c .nat,.c .bool]=some (limbs (val a / val b),limbs (val a % val b),true,()):=by
 have hna:=nlen_val ha
 have hnb:=nlen_val hb
 refine (d1DivMod_m (n+3) a b).trans ?_
 rw [bind_go (d1norm (n+2) a ha (by omega)),bind_go (d1norm (n+2) b hb (by omega))]
 dsimp only
 generalize val a=A at *
 generalize val b=B at *
 have f1:(((limbs B).length:Int) == 0)=false:=by rw [beq_eq_false_iff_ne];show ((nlen B:Nat):Int)≠0;omega
 have f2:(((limbs B).length:Int) == 1)=false:=by rw [beq_eq_false_iff_ne];show ((nlen B:Nat):Int)≠1;omega
 have hB0:0<B:=by
  rcases Nat.eq_zero_or_pos B with h0|h0
  ·subst h0;rw [nlen_zero]at h;omega
  ·exact h0
 have bA:bitsN A≤32*nlen A:=bitsN_small (by rw [←pw_two];exact lt_nlen A)
 have bB:bitsN B≤32*nlen B:=bitsN_small (by rw [←pw_two];exact lt_nlen B)
 have w0:IntKind.i64.wrap ((bitsN A:Int)-(bitsN B:Int))=(bitsN A:Int)-(bitsN B:Int):=w64 (by omega) (by omega)
 rw [f1,f2,cond_false,cond_false,bind_go (d1bits (n+1) _ (dig_limbs A) (by show nlen _<_;omega)),bind_go (d1bits (n+1) _ (dig_limbs B) (by show nlen _<_;omega))]
 simp only [val_limbs]
 rw [w0]
 by_cases hlt:bitsN A<bitsN B
 ·have hAB:A<B:=by
   have h1:=bitsN_lt A
   have h2:=bitsN_le hB0
   have h3:2 ^ bitsN A≤2 ^ (bitsN B-1):=Nat.pow_le_pow_right (by omega) (by omega)
   omega
  rw [decide_eq_true (show (bitsN A:Int)-(bitsN B:Int)<0 by omega),cond_true,Nat.div_eq_of_lt hAB,Nat.mod_eq_of_lt hAB,limbs_zero]
  rfl
 ·obtain ⟨m,hm⟩:∃m,bitsN A=bitsN B+m:=⟨bitsN A-bitsN B,by omega⟩
  have e0:(bitsN A:Int)-(bitsN B:Int)=(m:Int):=by omega
  have d1:∀i:Nat,i≤m→IntKind.i64.wrap ((i:Int).tdiv 32)=((i / 32:Nat):Int):=fun i hi=>by rw [Int.tdiv_eq_ediv_of_nonneg (by omega),w64 (by omega) (by omega)];omega
  have d2:∀i:Nat,(i:Int).tmod 32=((i % 32:Nat):Int):=fun i=>by rw [Int.tmod_eq_emod_of_nonneg (by omega)];omega
  have d3:∀i:Nat,IntKind.u64.wrap ((i % 32:Nat):Int)=((i % 32:Nat):Int):=fun i=>u64w (by omega) (by omega)
  have w1:IntKind.i64.wrap (((m / 32:Nat):Int)+1)=((m / 32+1:Nat):Int):=w64n (by omega)
  rw [e0,decide_eq_false (show ¬(m:Int)<0 by omega),cond_false,d1 m (Nat.le_refl _),w1,mkN (by omega),cond_true,bind_go (d1shift (n+1) _ m (dig_limbs B) (by show nlen _<_;omega) (by omega)),val_limbs,Int.toNat_natCast]
  dsimp only
  have hA2:A<B*2 ^ (m+1):=by
   have h1:=bitsN_lt A
   have h2:=bitsN_le hB0
   have h4:=bitsN_pos hB0
   have h3:2 ^ bitsN A=2 ^ (bitsN B-1)*2 ^ (m+1):=by rw [←Nat.pow_add];congr 1;omega
   have h5:=Nat.mul_le_mul_right (2 ^ (m+1)) h2
   omega
  have hDn:∀k,k≤m+1→nlen (B*2 ^ k / 2)≤nlen A:=fun k hk=>by
   refine nlen_le ?_
   have h1:=bitsN_lt B
   have h2:B*2 ^ k≤B*2 ^ (m+1):=Nat.mul_le_mul_left _ (Nat.pow_le_pow_right (by omega) hk)
   have h3:B*2 ^ (m+1)<2 ^ bitsN B*2 ^ (m+1):=Nat.mul_lt_mul_of_pos_right h1 (Nat.two_pow_pos _)
   have h4:2 ^ bitsN B*2 ^ (m+1)=2*2 ^ bitsN A:=by rw [←Nat.pow_add,hm,←Nat.add_assoc,Nat.pow_succ];omega
   have h5:2 ^ bitsN A≤pw (nlen A):=by rw [pw_two];exact Nat.pow_le_pow_right (by omega) bA
   omega
  have e3:B*2 ^ m=B*2 ^ (m+1) / 2:=by rw [Nat.pow_succ,←Nat.mul_assoc,Nat.mul_div_cancel _ (by omega)]
  refine congrArg (a₂:=some (Ans.ret (limbs (A / B),limbs (A % B),true,()))) unwrapA ?_
  refine loopA_inv (ts:=[tI,tN,tN,tN]) (fun x=>∃(k:Nat) (r:List Nat) (R:Nat),k≤m+1∧r.length=m / 32+1∧Dig r∧A=val r*B+R∧R<B*2 ^ k∧(∃m,val r=2 ^ k*m)∧x=((k:Int)-1,limbs (B*2 ^ k / 2),r,limbs R,())) (fun (x:Int × List Nat × List Nat × List Nat × Unit)=>(x.1+1).toNat) (fun x hx=>?_) _ ⟨m+1,List.replicate (m / 32+1) 0,A,Nat.le_refl _,by simp,dig_replicate _,by simp [val_replicate],hA2,⟨0,by simp [val_replicate]⟩,by rw [e3,show ((m+1:Nat):Int)-1=(m:Int)by omega]⟩ (fuel_lt (by show ((m:Int)+1).toNat<_;omega))
  obtain ⟨k,r,R,hk,hr,hdr,hAe,hR,⟨q,hq⟩,rfl⟩:=hx
  cases k with
  | zero =>
   rw [Nat.pow_zero,Nat.mul_one]at hR
   have hqq:val r=A / B:=by rw [hAe,Nat.mul_comm,Nat.mul_add_div hB0,Nat.div_eq_of_lt hR];omega
   have hrem:R=A % B:=by rw [hAe,Nat.mul_comm,Nat.mul_add_mod,Nat.mod_eq_of_lt hR]
   dsimp only
   rw [decide_eq_false (show ¬(0:Int)≤((0:Nat):Int)-1 by omega),cond_false,bind_go (d1norm (n+2) r hdr (by omega)),hqq,←hrem]
   exact .inl ⟨emp_self _ _,rfl⟩
  | succ i =>
   have e2:((i+1:Nat):Int)-1=(i:Int):=by omega
   have hD:B*2 ^ (i+1) / 2=B*2 ^ i:=by rw [Nat.pow_succ,←Nat.mul_assoc,Nat.mul_div_cancel _ (by omega)]
   have hDl:=hDn (i+1) hk
   have q1:IntKind.i64.wrap ((i:Int)-1)=(i:Int)-1:=w64 (by omega) (by omega)
   have hRA:R≤A:=by omega
   have hRl:=nlen_mono hRA
   rw [hD]at hDl
   rw [e2,hD]
   dsimp only
   rw [c0,cond_true,bind_go (d1cmp (n+1) _ _ (dig_limbs R) (dig_limbs (B*2 ^ i)) (by show nlen _<_;omega) (by show nlen _<_;omega)),val_limbs,val_limbs]
   dsimp only
   have hh:=d1half (n+1) _ (dig_limbs (B*2 ^ i)) (by show nlen _<_;omega)
   rw [val_limbs]at hh
   rw [Nat.pow_succ,show B*(2 ^ i*2)=2*(B*2 ^ i)by grind]at hR
   have hμ:((i:Int)-1+1).toNat<((i:Int)+1).toNat:=by omega
   by_cases hge:B*2 ^ i≤R
   ·have c1:decide ((0:Int)≤cmpI R (B*2 ^ i))=true:=by
     rcases Nat.lt_or_eq_of_le hge with h1|h1
     ·rw [cmpI_gt h1];rfl
     ·rw [←h1,cmpI_eq];rfl
    have hil:i / 32<r.length:=by omega
    obtain ⟨bq,hb1,hb2⟩:=bit_put hdr hq
    have hgr:=getD_some hil
    have hset:=val_set r (i / 32) (2 ^ (i % 32)+r.getD (i / 32) 0) hil
    have hrl:r[i / 32]=r.getD (i / 32) 0:=by rw [List.getD_eq_getElem?_getD,List.getElem?_eq_getElem hil];rfl
    rw [hrl,Nat.mul_add,pw_bit]at hset
    obtain ⟨L,hL⟩:∃L,r.getD (i / 32) 0=L:=⟨_,rfl⟩
    rw [hL]at hb1 hgr hset
    rw [←hb1]at hb2
    have hor:=or32' (sh:=i % 32+1) (show 2 ^ (i % 32)<2 ^ (i % 32+1)from Nat.pow_lt_pow_right (by omega) (by omega)) hb1 hb2
    have hmin:min (i % 32) IntKind.u32.bits=i % 32:=by show min (i % 32) 32=i % 32;omega
    have s1:IntKind.u32.wrap (1*2 ^ (i % 32))=((2 ^ (i % 32):Nat):Int):=by
     rw [show (1:Int)*2 ^ (i % 32)=((2 ^ (i % 32):Nat):Int)by simp,w32,Nat.mod_eq_of_lt (by omega)]
    have s2:IntKind.u32.wrap ((L % 4294967296 ||| 2 ^ (i % 32) % 4294967296:Nat):Int)=((2 ^ (i % 32)+L:Nat):Int):=by rw [w32,hor]
    have h32:u32B ((2 ^ (i % 32)+L:Nat):Int)=true:=u32n hb2
    have dj:decide (i / 32<r.length)=true:=decide_eq_true hil
    rw [c1,cond_true,bind_go (d1sub n _ _ (dig_limbs R) (dig_limbs (B*2 ^ i)) (by show nlen _<_;omega) (by show nlen _<_;omega) (by rw [val_limbs,val_limbs];exact hge)),val_limbs,val_limbs]
    simp -implicitDefEqProofs only [d1 i (by omega),d2,d3,hmin,s1,or_bv,s2,hgr,Int.toNat_natCast,Option.bind_some,c0,b11,b00,dj,h32,Bool.true_and,cond_true]
    rw [bind_go hh]
    dsimp only
    rw [q1]
    have e5:val (r.set (i / 32) (2 ^ (i % 32)+L))=val r+2 ^ i:=by omega
    refine .inr ⟨_,rfl,⟨i,r.set (i / 32) (2 ^ (i % 32)+L),R-B*2 ^ i,by omega,by simp [hr],dig_set hdr _ hb2,?_,by omega,⟨2*q+1,?_⟩,rfl⟩,hμ⟩
    ·rw [e5,Nat.add_mul,Nat.mul_comm (2 ^ i) B]
     omega
    ·rw [e5,hq,Nat.pow_succ]
     grind
   ·have c1:decide ((0:Int)≤cmpI R (B*2 ^ i))=false:=by rw [cmpI_lt (by omega)];rfl
    rw [c1,cond_false,bind_go hh,q1]
    exact .inr ⟨_,rfl,⟨i,r,R,by omega,hr,hdr,hAe,by omega,⟨2*q,by rw [hq,Nat.pow_succ];grind⟩,rfl⟩,hμ⟩
theorem d1div (a b:List Nat) (ha:Dig a) (hb:Dig b) (hla:a.length<10000000000) (hlb:b.length<10000000000) (h:0<val b):DF fuel (n+4) 185 [vN a,vN b] [.c .nat,.c .nat,.c .bool]=some (limbs (val a / val b),limbs (val a % val b),true,()):=by
 have h1:nlen (val b)≠0:=fun h2=>by have:=nlen_eq_zero.1 h2;omega
 by_cases h2:nlen (val b)=1
 ·exact d1div_one n a b ha hb hla hlb h2
 ·exact d1div_long n a b ha hb hla hlb (by omega)
theorem d1gcd (a b:List Nat) (ha:Dig a) (hb:Dig b) (hla:a.length<10000000000) (hlb:b.length<10000000000):DF fuel (n+5) 184 [vN a,vN b] [.c .nat]=some (limbs (Nat.gcd (val a) (val b)),()):=by
 have hna:=nlen_val ha
 have hnb:=nlen_val hb
 refine (d1Gcd_m (n+4) a b).trans ?_
 rw [bind_go (d1norm (n+3) a ha (by omega)),bind_go (d1norm (n+3) b hb (by omega))]
 refine congrArg (a₂:=some (Ans.ret (limbs (Nat.gcd (val a) (val b)),()))) unwrapA ?_
 refine loopA_inv (ts:=[tN,tN]) (fun x=>∃u v:Nat,nlen u<10000000000∧nlen v<10000000000∧Nat.gcd u v=Nat.gcd (val a) (val b)∧x=(limbs v,limbs u,())) (fun (x:List Nat × List Nat × Unit)=>gcdM (val x.2.1) (val x.1)) (fun x hx=>?_) _ ⟨val a,val b,by omega,by omega,rfl,rfl⟩ ?_
 ·obtain ⟨u,v,hu,hv,hg,rfl⟩:=hx
  dsimp only
  rw [limbs_len_pos]
  by_cases h0:v=0
  ·subst h0
   rw [Nat.gcd_zero_right]at hg
   rw [decide_eq_false (Nat.lt_irrefl 0),cond_false,hg]
   exact .inl ⟨rfl,rfl⟩
  ·have hlt:=Nat.mod_lt u (show 0<v by omega)
   rw [decide_eq_true (show 0<v by omega),cond_true,bind_go (d1div n _ _ (dig_limbs u) (dig_limbs v) hu hv (by rw [val_limbs];omega)),val_limbs,val_limbs]
   exact .inr ⟨_,rfl,⟨v,u % v,hv,by have:=nlen_mono (Nat.le_of_lt hlt);omega,by rw [←hg,Nat.gcd_comm u v,Nat.gcd_rec v u,Nat.gcd_comm],rfl⟩,by show gcdM (val (limbs v)) (val (limbs (u % v)))<gcdM u v;rw [val_limbs,val_limbs];exact gcdM_lt u (by omega)⟩
 ·show gcdM (val (limbs (val a))) (val (limbs (val b)))<fuel
  rw [val_limbs,val_limbs]
  have h1:bitsN (val a)≤32*nlen (val a):=bitsN_small (by rw [←pw_two];exact lt_nlen _)
  have h2:bitsN (val b)≤32*nlen (val b):=bitsN_small (by rw [←pw_two];exact lt_nlen _)
  unfold gcdM
  exact fuel_lt (by split <;> omega)
theorem d2norm (t:Bool) (l:List Nat) (hd:Dig l) (hl:l.length<1000000000000):DF fuel (n+2) 115 [.o (.agg [⟨.bool,t⟩,⟨.nat,l⟩])] [.agg [.bool,.nat]]=some (decide (sg t (val l)<0),limbs (sg t (val l)).natAbs,()):=by
 refine (d2Norm_m (n+1) t l).trans ?_
 rw [bind_go (d1norm n l hd (by omega)),sg_natAbs,sg_neg]
 dsimp only
 rw [limbs_len_pos]
 cases t <;> rfl
theorem d2make (t:Bool) (l:List Nat) (hd:Dig l) (hl:l.length<1000000000000):DF fuel (n+3) 135 [vB t,vN l] [.agg [.bool,.nat]]=some (decide (sg t (val l)<0),limbs (sg t (val l)).natAbs,()):=by
 refine (d2Make_m (n+2) t l).trans ?_
 rw [bind_go (d2norm n t l hd hl)]
 rfl
theorem d2of (z:Int) (h1:-9223372036854775808≤z) (h2:z≤9223372036854775807):DF fuel (n+4) 70 [vI z] [.agg [.bool,.nat]]=some (decide (z<0),limbs z.natAbs,()):=by
 have hl:(limbs z.natAbs).length<1000000000000:=by
  have:nlen z.natAbs≤2:=nlen_le (by rw [show pw 2=18446744073709551616 from rfl];omega)
  show nlen _<_
  omega
 refine (d2Of_m (n+3) z).trans ?_
 by_cases h:z<0
 ·have n1:IntKind.i64.wrap (z+1)=z+1:=w64 (by omega) (by omega)
  have n2:IntKind.i64.wrap (0-(z+1))=0-(z+1):=w64 (by omega) (by omega)
  have n3:IntKind.u64.wrap (0-(z+1))=0-(z+1):=u64w (by omega) (by omega)
  have n4:IntKind.u64.wrap (0-(z+1)+1)=((z.natAbs:Nat):Int):=by rw [u64w (by omega) (by omega)];omega
  have e:sg true z.natAbs=z:=by unfold sg;simp;omega
  rw [decide_eq_true h,cond_true,n1,n2,n3,n4,bind_go (d1of (n+1) z.natAbs (by omega))]
  dsimp only
  rw [bind_go (d2make n true _ (dig_limbs _) hl),val_limbs,e,decide_eq_true h]
  rfl
 ·have n1:IntKind.u64.wrap z=((z.natAbs:Nat):Int):=by rw [u64w (by omega) (by omega)];omega
  have e:sg false z.natAbs=z:=by unfold sg;simp;omega
  rw [decide_eq_false h,cond_false,n1,bind_go (d1of (n+1) z.natAbs (by omega))]
  dsimp only
  rw [bind_go (d2make n false _ (dig_limbs _) hl),val_limbs,e,decide_eq_false h]
  rfl
theorem d2sign (t:Bool) (l:List Nat) (hd:Dig l) (hl:l.length<1000000000000):DF fuel (n+3) 75 [.o (.agg [⟨.bool,t⟩,⟨.nat,l⟩])] [.c (.int .i64)]=some (sgnI (sg t (val l)),()):=by
 refine (d2Sign_m (n+2) t l).trans ?_
 rw [bind_go (d2norm n t l hd hl)]
 generalize sg t (val l)=z
 dsimp only
 by_cases h0:z=0
 ·subst h0
  rw [show (0:Int).natAbs=0 from rfl,limbs_zero]
  rfl
 ·have f1:(((limbs z.natAbs).length:Int) == 0)=false:=by
   rw [beq_eq_false_iff_ne]
   intro hc
   have h1:nlen z.natAbs=0:=by have:((nlen z.natAbs:Nat):Int)=0:=hc;omega
   have:=nlen_eq_zero.1 h1
   omega
  rw [f1,cond_false]
  unfold sgnI
  by_cases h1:z<0
  ·rw [decide_eq_true h1,if_pos h1];rfl
  ·rw [decide_eq_false h1,if_neg h1,if_pos (by omega)];rfl
theorem one_of:DF fuel (n+2) 72 [vU 1] [.c .nat]=some (limbs 1,()):=d1of n 1 (by omega)
theorem d3zero:DF fuel (n+3) 183 [] [.agg [.bool,.nat,.nat]]=some (false,[],limbs 1,()):=by
 refine (d3zero_m (n+2)).trans ?_
 rw [bind_go (one_of n)]
 rfl
theorem d3top (t:Bool) (l m:List Nat) (hl:Dig l) (hm:Dig m) (h1:l.length<1000000000) (h2:m.length<1000000000):DF fuel (n+5) 76 [.o (.agg [⟨.bool,t⟩,⟨.nat,l⟩,⟨.nat,m⟩])] [.agg [.bool,.nat]]=some (decide (pz (sg t (val l)) (val m)<0),limbs (pz (sg t (val l)) (val m)).natAbs,()):=by
 refine (d3top_m (n+4) t l m).trans ?_
 rw [bind_go (d1bits (n+2) m hm (by omega))]
 dsimp only
 by_cases h0:val m=0
 ·have e:pz (sg t (val l)) (val m)=0:=by unfold pz;rw [if_pos h0]
  rw [bits_zero h0,cond_true,e,bind_go (d2of n 0 (by omega) (by omega))]
  rfl
 ·have e:pz (sg t (val l)) (val m)=sg t (val l):=by unfold pz;rw [if_neg h0]
  rw [bits_pos h0,cond_false,e,bind_go (d2norm (n+2) t l hl (by omega))]
  rfl
theorem d3low (t:Bool) (l m:List Nat) (hm:Dig m) (h2:m.length<1000000000):DF fuel (n+3) 132 [.o (.agg [⟨.bool,t⟩,⟨.nat,l⟩,⟨.nat,m⟩])] [.c .nat]=some (limbs (pd (val m)),()):=by
 refine (d3low_m (n+2) t l m).trans ?_
 rw [bind_go (d1bits n m hm (by omega))]
 dsimp only
 by_cases h0:val m=0
 ·have e:pd (val m)=1:=by unfold pd;rw [if_pos h0]
  rw [bits_zero h0,cond_true,e,bind_go (one_of n)]
  rfl
 ·have e:pd (val m)=val m:=by unfold pd;rw [if_neg h0]
  rw [bits_pos h0,cond_false,e,bind_go (d1norm (n+1) m hm (by omega))]
  rfl
theorem d3sign (t:Bool) (l m:List Nat) (hl:Dig l) (hm:Dig m) (h1:l.length<1000000000) (h2:m.length<1000000000):DF fuel (n+6) 34 [.o (.agg [⟨.bool,t⟩,⟨.nat,l⟩,⟨.nat,m⟩])] [.c (.int .i64)]=some (sgnI (pz (sg t (val l)) (val m)),()):=by
 have n1:=nlen_val hl
 have n2:=nlen_pz' (sg t (val l)) (val m)
 rw [sg_natAbs]at n2
 refine (d3Sign_m (n+5) t l m).trans ?_
 rw [bind_go (d3top n t l m hl hm h1 h2)]
 generalize pz (sg t (val l)) (val m)=z at *
 dsimp only
 rw [bind_go (d2sign (n+2) _ _ (dig_limbs z.natAbs) (by show nlen _<_;omega)),val_limbs,sg_norm]
 rfl
theorem d3reduce (t:Bool) (l m:List Nat) (hl:Dig l) (hm:Dig m) (h1:l.length<1000000000) (h2:m.length<1000000000) (hd0:0<val m):DF fuel (n+6) 131 [.o (.agg [⟨.bool,t⟩,⟨.nat,l⟩]),vN m] [.agg [.bool,.nat,.nat]]=some (decide (rn (sg t (val l)) (val m)<0),limbs (rn (sg t (val l)) (val m)).natAbs,limbs (rd (sg t (val l)) (val m)),()):=by
 have n1:=nlen_val hl
 have n2:=nlen_val hm
 rw [←sg_natAbs t (val l)]at n1
 refine (d3reduce_m (n+5) t l m).trans ?_
 rw [bind_go (d2norm (n+3) t l hl (by omega))]
 generalize sg t (val l)=z at *
 dsimp only
 rw [bind_go (d1bits (n+3) _ (dig_limbs z.natAbs) (by show nlen _<_;omega)),val_limbs]
 dsimp only
 by_cases h0:z.natAbs=0
 ·have z0:z=0:=by omega
  have e1:rn z (val m)=0:=by rw [z0];simp [rn,sg]
  have e2:rd z (val m)=1:=by rw [z0];simp only [rd,Int.natAbs_zero,Nat.gcd_zero_left];exact Nat.div_self hd0
  rw [bits_zero h0,cond_true,bind_go (d3zero (n+2)),e1,e2,show (0:Int).natAbs=0 from rfl,limbs_zero]
  rfl
 ·have hg:0<Nat.gcd z.natAbs (val m):=Nat.gcd_pos_of_pos_right _ hd0
  have ng:nlen (Nat.gcd z.natAbs (val m))≤nlen (val m):=nlen_mono (Nat.le_of_dvd hd0 (Nat.gcd_dvd_right _ _))
  have nq:=nlen_div z.natAbs (Nat.gcd z.natAbs (val m))
  rw [bits_pos h0,cond_false,bind_go (d1gcd n _ m (dig_limbs z.natAbs) hm (by show nlen _<_;omega) (by omega)),val_limbs]
  dsimp only
  rw [bind_go (d1div (n+1) _ _ (dig_limbs z.natAbs) (dig_limbs (Nat.gcd z.natAbs (val m))) (by show nlen _<_;omega) (by show nlen _<_;omega) (by rw [val_limbs];exact hg)),val_limbs,val_limbs]
  dsimp only
  rw [bind_go (d1div (n+1) m _ hm (dig_limbs (Nat.gcd z.natAbs (val m))) (by omega) (by show nlen _<_;omega) (by rw [val_limbs];exact hg)),val_limbs]
  dsimp only
  rw [bind_go (d2make (n+2) _ _ (dig_limbs (z.natAbs / Nat.gcd z.natAbs (val m))) (by show nlen _<_;omega)),val_limbs]
  rfl
end
end Go.Proofs.YtcggnmddcbhchaaGreatDoor
set_option linter.unusedSimpArgs false
set_option linter.unusedVariables false
namespace Go.Proofs.YtcggnmddcbhchaaGreatDoor
open Go.RowKit Lim
theorem divz_pos {z:Int} {d:Nat} (hd:0<d) (h:¬z<0):sg false (z.natAbs / d)=z / (d:Int):=by
 obtain ⟨n,rfl⟩:=Int.eq_ofNat_of_zero_le (show 0≤z by omega)
 simp [sg]
theorem divz_uni {z q r:Int} {d:Nat} (hd:0<d) (h1:r+(d:Int)*q=z) (h2:0≤r) (h3:r<d):z / (d:Int)=q :=
 ((Int.ediv_emod_unique (by omega)).2 ⟨h1,h2,h3⟩).1
theorem divz_neg {z:Int} {d:Nat} (hd:0<d) (h:z<0):sg true (z.natAbs / d)=(if z.natAbs % d=0 then z / (d:Int) else z / (d:Int)+1):=by
 have h1:=Nat.div_add_mod z.natAbs d
 have h2:=Nat.mod_lt z.natAbs hd
 have hz:z = -((z.natAbs:Nat):Int):=by omega
 have e1:((d*(z.natAbs / d):Nat):Int)=(d:Int)*((z.natAbs / d:Nat):Int):=by simp
 generalize z.natAbs / d=q at *
 generalize z.natAbs % d=r at *
 split
 ·rw [divz_uni (q:=-(q:Int)) (r:=0) hd (by rw [Int.mul_neg];omega) (by omega) (by omega)];simp [sg]
 ·rw [divz_uni (q:=-(q:Int)-1) (r:=(d:Int)-r) hd (by rw [Int.mul_sub,Int.mul_neg];omega) (by omega) (by omega)];simp [sg]
theorem nlen_pow' (n k:Nat):nlen (n ^ k)≤k*nlen n+1:=by
 induction k with
 | zero=>simp [nlen_one]
 | succ k ih =>
  rw [Nat.pow_succ,Nat.succ_mul]
  have:=nlen_mul (n ^ k) n
  omega
abbrev vD (z:Int):V:=.o (.agg [⟨.bool,decide (z<0)⟩,⟨.nat,limbs z.natAbs⟩])
abbrev gD:Sig:=[.agg [.bool,.nat]]
abbrev gR:Sig:=[.agg [.bool,.nat,.nat]]
abbrev vI2 (t:Bool) (l:List Nat):V:=.o (.agg [⟨.bool,t⟩,⟨.nat,l⟩])
abbrev vR3 (t:Bool) (l m:List Nat):V:=.o (.agg [⟨.bool,t⟩,⟨.nat,l⟩,⟨.nat,m⟩])
theorem nlen_mulD (x y:Int):nlen (x*y).natAbs≤nlen x.natAbs+nlen y.natAbs:=by rw [Int.natAbs_mul];exact nlen_mul _ _
theorem nlen_addD (x y:Int):nlen (x+y).natAbs≤max (nlen x.natAbs) (nlen y.natAbs)+1:=Nat.le_trans (nlen_mono (Int.natAbs_add_le _ _)) (nlen_add _ _)
theorem pzD {z:Int} {d:Nat} (h:0<d):pz z d=z:=by unfold pz;rw [if_neg (by omega)]
theorem pdD {d:Nat} (h:0<d):pd d=d:=by unfold pd;rw [if_neg (by omega)]
theorem dq_len (t:Bool) {l m:List Nat} (hl:Dig l) (hm:Dig m):nlen (pz (sg t (val l)) (val m)).natAbs≤l.length∧nlen (pd (val m))≤m.length+1:=by
 have h1:=nlen_pz' (sg t (val l)) (val m)
 have h2:=nlen_pd' (val m)
 rw [sg_natAbs]at h1
 have h3:=nlen_val hl
 have h4:=nlen_val hm
 omega
section
variable (n:Nat)
theorem d2neg (t:Bool) (l:List Nat) (hd:Dig l) (hl:l.length<1000000000):DF fuel (n+4) 210 [vI2 t l] gD=some (decide (-(sg t (val l))<0),limbs (-(sg t (val l))).natAbs,()):=by
 have e:sg (!t) (val l) = -(sg t (val l)):=by unfold sg;cases t <;> simp
 refine (d2Neg_m (n+3) t l).trans ?_
 rw [bind_go (d2make n (!t) l hd (by omega)),e]
 rfl
theorem d2mul (t s:Bool) (l m:List Nat) (hd:Dig l) (hd2:Dig m) (hl:l.length<1000000000) (hm:m.length<1000000000):DF fuel (n+4) 165 [vI2 t l,vI2 s m] gD=some (decide (sg t (val l)*sg s (val m)<0),limbs (sg t (val l)*sg s (val m)).natAbs,()):=by
 have e:sg (!(t == s)) (val l*val m)=sg t (val l)*sg s (val m):=by unfold sg;cases t <;> cases s <;> simp [Int.neg_mul,Int.mul_neg]
 have h1:=nlen_mul (val l) (val m)
 have h2:=nlen_val hd
 have h3:=nlen_val hd2
 refine (d2Mul_m (n+3) t l s m).trans ?_
 rw [bind_go (d1mul (n+1) l m hd hd2 (by omega))]
 dsimp only
 rw [bind_go (d2make n (!(t == s)) _ (dig_limbs _) (by show nlen _<_;omega)),val_limbs,e]
 rfl
theorem d2add (t s:Bool) (l m:List Nat) (hd:Dig l) (hd2:Dig m) (hl:l.length<1000000000) (hm:m.length<1000000000):DF fuel (n+4) 119 [vI2 t l,vI2 s m] gD=some (decide (sg t (val l)+sg s (val m)<0),limbs (sg t (val l)+sg s (val m)).natAbs,()):=by
 have h1:=nlen_add (val l) (val m)
 have h2:=nlen_val hd
 have h3:=nlen_val hd2
 refine (d2Add_m (n+3) t l s m).trans ?_
 by_cases hts:t=s
 ·subst hts
  have e:sg t (val l+val m)=sg t (val l)+sg t (val m):=by unfold sg;cases t <;> simp <;> omega
  rw [beq_self_eq_true,cond_true,bind_go (d1add (n+1) l m hd hd2 (by omega) (by omega))]
  dsimp only
  rw [bind_go (d2make n t _ (dig_limbs _) (by show nlen _<_;omega)),val_limbs,e]
  rfl
 ·rw [show (t == s)=false by simpa using hts,cond_false]
  by_cases hle:val m≤val l
  ·have e:sg t (val l-val m)=sg t (val l)+sg s (val m):=by unfold sg;cases t <;> cases s <;> simp at hts ⊢ <;> omega
   have h4:=nlen_mono (Nat.sub_le (val l) (val m))
   rw [bind_go (d1sub n l m hd hd2 (by omega) (by omega) hle)]
   dsimp only
   rw [cond_true,bind_go (d2make n t _ (dig_limbs _) (by show nlen _<_;omega)),val_limbs,e]
   rfl
  ·have e:sg s (val m-val l)=sg t (val l)+sg s (val m):=by unfold sg;cases t <;> cases s <;> simp at hts ⊢ <;> omega
   have h4:=nlen_mono (Nat.sub_le (val m) (val l))
   rw [bind_go (d1sub_no n l m hd hd2 (by omega) (by omega) (by omega))]
   dsimp only
   rw [cond_false,bind_go (d1sub n m l hd2 hd (by omega) (by omega) (by omega))]
   dsimp only
   rw [bind_go (d2make n s _ (dig_limbs _) (by show nlen _<_;omega)),val_limbs,e]
   rfl
theorem d2normZ (z:Int) (h:nlen z.natAbs<1000000000):DF fuel (n+2) 115 [vD z] gD=some (decide (z<0),limbs z.natAbs,()):=by
 have:=d2norm n (decide (z<0)) (limbs z.natAbs) (dig_limbs _) (by show nlen _<_;omega)
 simp only [val_limbs,sg_norm]at this
 exact this
theorem d2makeN (d:Nat) (h:nlen d<1000000000):DF fuel (n+3) 135 [vB false,vN (limbs d)] gD=some (decide ((d:Int)<0),limbs (d:Int).natAbs,()):=by
 have:=d2make n false (limbs d) (dig_limbs _) (by show nlen _<_;omega)
 simp only [val_limbs]at this
 exact this
theorem d2negZ (z:Int) (h:nlen z.natAbs<1000000000):DF fuel (n+4) 210 [vD z] gD=some (decide (-z<0),limbs (-z).natAbs,()):=by
 have:=d2neg n (decide (z<0)) (limbs z.natAbs) (dig_limbs _) h
 simp only [val_limbs,sg_norm]at this
 exact this
theorem d2mulZ (z y:Int) (h:nlen z.natAbs<1000000000) (h2:nlen y.natAbs<1000000000):DF fuel (n+4) 165 [vD z,vD y] gD=some (decide (z*y<0),limbs (z*y).natAbs,()):=by
 have:=d2mul n (decide (z<0)) (decide (y<0)) (limbs z.natAbs) (limbs y.natAbs) (dig_limbs _) (dig_limbs _) h h2
 simp only [val_limbs,sg_norm]at this
 exact this
theorem d2addZ (z y:Int) (h:nlen z.natAbs<1000000000) (h2:nlen y.natAbs<1000000000):DF fuel (n+4) 119 [vD z,vD y] gD=some (decide (z+y<0),limbs (z+y).natAbs,()):=by
 have:=d2add n (decide (z<0)) (decide (y<0)) (limbs z.natAbs) (limbs y.natAbs) (dig_limbs _) (dig_limbs _) h h2
 simp only [val_limbs,sg_norm]at this
 exact this
theorem d2sub (t s:Bool) (l m:List Nat) (hd:Dig l) (hd2:Dig m) (hl:l.length<1000000000) (hm:m.length<1000000000):DF fuel (n+5) 208 [vI2 t l,vI2 s m] gD=some (decide (sg t (val l)-sg s (val m)<0),limbs (sg t (val l)-sg s (val m)).natAbs,()):=by
 have h3:=nlen_val hd2
 have hA:=d2add n t (decide (-(sg s (val m))<0)) l (limbs (-(sg s (val m))).natAbs) hd (dig_limbs _) hl (by show nlen _<_;rw [Int.natAbs_neg,sg_natAbs];omega)
 simp only [val_limbs,sg_norm]at hA
 refine (d2Sub_m (n+4) t l s m).trans ?_
 rw [bind_go (d2neg n s m hd2 hm)]
 dsimp only
 rw [bind_go hA,Int.sub_eq_add_neg]
 rfl
theorem d2subZ (z y:Int) (h:nlen z.natAbs<1000000000) (h2:nlen y.natAbs<1000000000):DF fuel (n+5) 208 [vD z,vD y] gD=some (decide (z-y<0),limbs (z-y).natAbs,()):=by
 have:=d2sub n (decide (z<0)) (decide (y<0)) (limbs z.natAbs) (limbs y.natAbs) (dig_limbs _) (dig_limbs _) h h2
 simp only [val_limbs,sg_norm]at this
 exact this
theorem d2cmp (t s:Bool) (l m:List Nat) (hd:Dig l) (hd2:Dig m) (hl:l.length<1000000000) (hm:m.length<1000000000):DF fuel (n+4) 209 [vI2 t l,vI2 s m] [.c (.int .i64)]=some (cmpZ (sg t (val l)) (sg s (val m)),()):=by
 have az:=sg_natAbs t (val l)
 have ay:=sg_natAbs s (val m)
 refine (d2Cmp_m (n+3) t l s m).trans ?_
 rw [bind_go (d2sign n t l hd (by omega)),bind_go (d2sign n s m hd2 (by omega))]
 generalize sg t (val l)=z at *
 generalize sg s (val m)=y at *
 dsimp only
 rcases Int.lt_trichotomy (sgnI z) (sgnI y)with h|h|h
 ·rw [decide_eq_true h,cmpZ_lt h];rfl
 ·have hc:=cmpZ_eq h
  rw [az,ay]at hc
  rw [decide_eq_false (show ¬sgnI z<sgnI y by omega),decide_eq_false (show ¬sgnI y<sgnI z by omega),cond_false,cond_false]
  by_cases h0:sgnI z<0
  ·have e:cmpI (val m) (val l)=cmpZ z y:=by
    have h1:sgnI z = -1:=by unfold sgnI at h0 ⊢;split at h0 <;> (try split at h0) <;> simp_all
    rw [←hc,h1]
    unfold cmpI
    split <;> split <;> (try split) <;> omega
   rw [decide_eq_true h0,cond_true,bind_go (d1cmp (n+1) m l hd2 hd (by omega) (by omega)),e];rfl
  ·have e:cmpI (val l) (val m)=cmpZ z y:=by
    by_cases h1:sgnI z=0
    ·have hz0:z=0:=by unfold sgnI at h1;split at h1 <;> (try split at h1) <;> omega
     have hy0:y=0:=by rw [h]at h1;unfold sgnI at h1;split at h1 <;> (try split at h1) <;> omega
     rw [←az,←ay,hz0,hy0];rfl
    ·have h2:sgnI z=1:=by unfold sgnI at h0 h1 ⊢;split at h0 <;> (try split at h0) <;> simp_all
     rw [←hc,h2,Int.one_mul]
   rw [decide_eq_false h0,cond_false,bind_go (d1cmp (n+1) l m hd hd2 (by omega) (by omega)),e];rfl
 ·rw [decide_eq_false (show ¬sgnI z<sgnI y by omega),decide_eq_true h,cmpZ_gt h];rfl
theorem d2cmpZ (z y:Int) (h:nlen z.natAbs<1000000000) (h2:nlen y.natAbs<1000000000):DF fuel (n+4) 209 [vD z,vD y] [.c (.int .i64)]=some (cmpZ z y,()):=by
 have:=d2cmp n (decide (z<0)) (decide (y<0)) (limbs z.natAbs) (limbs y.natAbs) (dig_limbs _) (dig_limbs _) h h2
 simp only [val_limbs,sg_norm]at this
 exact this
theorem div_len {z:Int} {d:Nat} (hd0:0<d):nlen (z / (d:Int)).natAbs≤nlen z.natAbs:=nlen_mono (Int.natAbs_ediv_le_natAbs _ _)
theorem d2divZ (z:Int) (d:Nat) (hd0:0<d) (hz:nlen z.natAbs<400000000) (hd:nlen d<400000000):DF fuel (n+6) 167 [vD z,vD (d:Int)] [.agg [.bool,.nat],.agg [.bool,.nat],.c .bool]=some (decide (z / (d:Int)<0),limbs (z / (d:Int)).natAbs,decide (z % (d:Int)<0),limbs (z % (d:Int)).natAbs,true,()):=by
 have hda:nlen (d:Int).natAbs=nlen d:=by rw [Int.natAbs_natCast]
 have hq:=nlen_div z.natAbs d
 have hm:=nlen_mono (Nat.le_of_lt (Nat.mod_lt z.natAbs hd0))
 have hqd:=div_len (z:=z) hd0
 have hmul:=nlen_mulD (d:Int) (z / (d:Int))
 have hrest:z-(d:Int)*(z / (d:Int))=z % (d:Int):=by have:=Int.mul_ediv_add_emod z (d:Int);omega
 have hD:DF fuel (n+5) 185 [vN (limbs z.natAbs),vN (limbs (d:Int).natAbs)] [.c .nat,.c .nat,.c .bool]=some (limbs (z.natAbs / d),limbs (z.natAbs % d),true,()):=by
  have:=d1div (n+1) (limbs z.natAbs) (limbs (d:Int).natAbs) (dig_limbs _) (dig_limbs _) (by show nlen _<_;omega) (by show nlen _<_;omega) (by rw [val_limbs];exact hd0)
  simp only [val_limbs]at this
  exact this
 have hdn:decide ((d:Int)<0)=false:=decide_eq_false (by omega)
 refine (d2DivMod_m (n+5) (decide (z<0)) (limbs z.natAbs) (decide ((d:Int)<0)) (limbs (d:Int).natAbs)).trans ?_
 rw [bind_go (d2normZ (n+3) z (by omega)),bind_go (d2normZ (n+3) (d:Int) (by omega)),bind_go hD]
 dsimp only
 rw [Bool.not_true,cond_false]
 have M:=d2mulZ (n+1) (d:Int) (z / (d:Int)) (by omega) (by omega)
 have S:=d2subZ n z ((d:Int)*(z / (d:Int))) (by omega) (by omega)
 rw [hrest]at S
 by_cases hneg:z<0
 ·have e1:=divz_neg hd0 hneg
  have f:(!(decide (z<0) == decide ((d:Int)<0)))=true:=by rw [decide_eq_true hneg,hdn];rfl
  have K:=d2make (n+2) true (limbs (z.natAbs / d)) (dig_limbs _) (by show nlen _<_;omega)
  rw [val_limbs]at K
  rw [f,bind_go K,cond_true,bind_go (d1norm (n+4) (limbs (z.natAbs % d)) (dig_limbs _) (by show nlen _<_;omega)),val_limbs,limbs_len_pos,e1]
  dsimp only
  by_cases hr:z.natAbs % d=0
  ·rw [decide_eq_false (show ¬0<z.natAbs % d by omega),cond_false,if_pos hr,bind_go M]
   dsimp only
   rw [bind_go S]
   rfl
  ·have hq1:nlen (z / (d:Int)+1).natAbs<400000000:=by rw [if_neg hr]at e1;rw [←e1,sg_natAbs];omega
   have S1:=d2subZ n (z / (d:Int)+1) 1 (by omega) (by rw [show (1:Int).natAbs=1 from rfl,nlen_one];omega)
   rw [show z / (d:Int)+1-1=z / (d:Int)by omega]at S1
   rw [decide_eq_true (show 0<z.natAbs % d by omega),cond_true,if_neg hr,bind_go (d2of (n+1) 1 (by omega) (by omega))]
   dsimp only
   rw [bind_go S1]
   dsimp only
   rw [bind_go M]
   dsimp only
   rw [bind_go S]
   rfl
 ·have e1:=divz_pos hd0 hneg
  have f:(!(decide (z<0) == decide ((d:Int)<0)))=false:=by rw [decide_eq_false hneg,hdn];rfl
  have K:=d2make (n+2) false (limbs (z.natAbs / d)) (dig_limbs _) (by show nlen _<_;omega)
  rw [val_limbs,e1]at K
  rw [f,bind_go K,cond_false]
  dsimp only
  rw [bind_go M]
  dsimp only
  rw [bind_go S]
  rfl
theorem d1pow (a:List Nat) (ha:Dig a) (k:Nat) (hk:k≤512) (hl:a.length<10000000):DF fuel (n+3) 166 [vN a,vI (k:Int)] [.c .nat,.c .bool]=some (limbs (val a ^ k),true,()):=by
 have h2:=nlen_val ha
 refine (d1Pow_m (n+2) a (k:Int)).trans ?_
 rw [decide_eq_false (show ¬(k:Int)<0 by omega),cond_false,decide_eq_false (show ¬(512:Int)<(k:Int)by omega),cond_false,bind_go (one_of n)]
 refine congrArg (a₂:=some (Ans.ret ((limbs (val a ^ k),true,()):denL [tN,tB]))) unwrapA ?_
 refine loopA_range (R:=denL [tN,tB]) (ts:=[tI,tN]) (N:=k) (fun j=>((j:Int),limbs (val a ^ j),())) (fun j hj=>?_) ?_ rfl (fuel_lt (by omega))
 ·have h1:=nlen_pow' (val a) j
  have h3:j*nlen (val a)≤512*a.length:=Nat.mul_le_mul (by omega) h2
  dsimp only
  rw [dlt hj,cond_true,bind_go (d1mul n _ a (dig_limbs _) ha (by show nlen _+_<_;omega)),val_limbs,←Nat.pow_succ,w64n (by omega)]
 ·dsimp only
  rw [dge (Nat.le_refl _),cond_false]
theorem d3redZ (z:Int) (d:Nat) (hd0:0<d) (hz:nlen z.natAbs<1000000000) (hd:nlen d<1000000000):DF fuel (n+6) 131 [vD z,vN (limbs d)] gR=some (decide (rn z d<0),limbs (rn z d).natAbs,limbs (rd z d),()):=by
 have:=d3reduce n (decide (z<0)) (limbs z.natAbs) (limbs d) (dig_limbs _) (dig_limbs _) hz hd (by rw [val_limbs];exact hd0)
 simp only [val_limbs,sg_norm]at this
 exact this
section
variable (t s:Bool) (l m a b:List Nat) (hl:Dig l) (hm:Dig m) (h1:l.length<100000000) (h2:m.length<100000000) (ha:Dig a) (hb:Dig b) (h3:a.length<100000000) (h4:b.length<100000000)
include hl hm h1 h2
theorem d3neg:DF fuel (n+7) 170 [vR3 t l m] gR=some (decide (rn (-(pz (sg t (val l)) (val m))) (pd (val m))<0),limbs (rn (-(pz (sg t (val l)) (val m))) (pd (val m))).natAbs,limbs (rd (-(pz (sg t (val l)) (val m))) (pd (val m))),()):=by
 have T1:=d3top (n+1) t l m hl hm (by omega) (by omega)
 have L1:=d3low (n+3) t l m hm (by omega)
 obtain ⟨p1,q1⟩:=dq_len t hl hm
 have D0:=pd_pos (val m)
 generalize pz (sg t (val l)) (val m)=X at *
 generalize pd (val m)=D at *
 refine (d3Neg_m (n+6) t l m).trans ?_
 rw [bind_go T1]
 dsimp only
 rw [bind_go (d2negZ (n+2) X (by omega)),bind_go L1]
 dsimp only
 rw [bind_go (d3redZ n (-X) D D0 (by rw [Int.natAbs_neg];omega) (by omega))]
 rfl
theorem d3floor:DF fuel (n+7) 116 [vR3 t l m] gD=some (decide (pz (sg t (val l)) (val m) / (pd (val m):Int)<0),limbs (pz (sg t (val l)) (val m) / (pd (val m):Int)).natAbs,()):=by
 have T1:=d3top (n+1) t l m hl hm (by omega) (by omega)
 have L1:=d3low (n+3) t l m hm (by omega)
 obtain ⟨p1,q1⟩:=dq_len t hl hm
 have D0:=pd_pos (val m)
 generalize pz (sg t (val l)) (val m)=X at *
 generalize pd (val m)=D at *
 refine (d3Floor_m (n+6) t l m).trans ?_
 rw [bind_go T1,bind_go L1]
 dsimp only
 rw [bind_go (d2makeN (n+3) D (by omega))]
 dsimp only
 rw [bind_go (d2divZ n X D D0 (by omega) (by omega))]
 rfl
include ha hb h3 h4
theorem d3cmp:DF fuel (n+6) 168 [vR3 t l m,vR3 s a b] [.c (.int .i64)]=some (cmpZ (pz (sg t (val l)) (val m)*(pd (val b):Int)) (pz (sg s (val a)) (val b)*(pd (val m):Int)),()):=by
 have T1:=d3top n t l m hl hm (by omega) (by omega)
 have L1:=d3low (n+2) t l m hm (by omega)
 have T2:=d3top n s a b ha hb (by omega) (by omega)
 have L2:=d3low (n+2) s a b hb (by omega)
 obtain ⟨p1,q1⟩:=dq_len t hl hm
 obtain ⟨p2,q2⟩:=dq_len s ha hb
 generalize pz (sg t (val l)) (val m)=X at *
 generalize pd (val m)=D at *
 generalize pz (sg s (val a)) (val b)=Y at *
 generalize pd (val b)=E at *
 have m1:=nlen_mulD X (E:Int)
 have m2:=nlen_mulD Y (D:Int)
 have aE:nlen (E:Int).natAbs=nlen E:=by rw [Int.natAbs_natCast]
 have aD:nlen (D:Int).natAbs=nlen D:=by rw [Int.natAbs_natCast]
 refine (d3Cmp_m (n+5) t l m s a b).trans ?_
 rw [bind_go T1,bind_go L2]
 dsimp only
 rw [bind_go (d2makeN (n+2) E (by omega))]
 dsimp only
 rw [bind_go (d2mulZ (n+1) X (E:Int) (by omega) (by omega)),bind_go T2,bind_go L1]
 dsimp only
 rw [bind_go (d2makeN (n+2) D (by omega))]
 dsimp only
 rw [bind_go (d2mulZ (n+1) Y (D:Int) (by omega) (by omega))]
 dsimp only
 rw [bind_go (d2cmpZ (n+1) _ _ (by omega) (by omega))]
 rfl
theorem d3mul:DF fuel (n+7) 112 [vR3 t l m,vR3 s a b] gR=some (decide (rn (pz (sg t (val l)) (val m)*pz (sg s (val a)) (val b)) (pd (val m)*pd (val b))<0),limbs (rn (pz (sg t (val l)) (val m)*pz (sg s (val a)) (val b)) (pd (val m)*pd (val b))).natAbs,limbs (rd (pz (sg t (val l)) (val m)*pz (sg s (val a)) (val b)) (pd (val m)*pd (val b))),()):=by
 have T1:=d3top (n+1) t l m hl hm (by omega) (by omega)
 have L1:=d3low (n+3) t l m hm (by omega)
 have T2:=d3top (n+1) s a b ha hb (by omega) (by omega)
 have L2:=d3low (n+3) s a b hb (by omega)
 obtain ⟨p1,q1⟩:=dq_len t hl hm
 obtain ⟨p2,q2⟩:=dq_len s ha hb
 have D0:=pd_pos (val m)
 have E0:=pd_pos (val b)
 generalize pz (sg t (val l)) (val m)=X at *
 generalize pd (val m)=D at *
 generalize pz (sg s (val a)) (val b)=Y at *
 generalize pd (val b)=E at *
 have m1:=nlen_mulD X Y
 have m2:=nlen_mul D E
 refine (d3Mul_m (n+6) t l m s a b).trans ?_
 rw [bind_go T1,bind_go T2]
 dsimp only
 rw [bind_go (d2mulZ (n+2) X Y (by omega) (by omega)),bind_go L1,bind_go L2]
 dsimp only
 rw [bind_go (d1mul (n+4) _ _ (dig_limbs D) (dig_limbs E) (by show nlen _+nlen _<_;omega)),val_limbs,val_limbs]
 dsimp only
 rw [bind_go (d3redZ n (X*Y) (D*E) (Nat.mul_pos D0 E0) (by omega) (by omega))]
 rfl
theorem d3add:DF fuel (n+7) 169 [vR3 t l m,vR3 s a b] gR=some (decide (rn (pz (sg t (val l)) (val m)*(pd (val b):Int)+pz (sg s (val a)) (val b)*(pd (val m):Int)) (pd (val m)*pd (val b))<0),limbs (rn (pz (sg t (val l)) (val m)*(pd (val b):Int)+pz (sg s (val a)) (val b)*(pd (val m):Int)) (pd (val m)*pd (val b))).natAbs,limbs (rd (pz (sg t (val l)) (val m)*(pd (val b):Int)+pz (sg s (val a)) (val b)*(pd (val m):Int)) (pd (val m)*pd (val b))),()):=by
 have T1:=d3top (n+1) t l m hl hm (by omega) (by omega)
 have L1:=d3low (n+3) t l m hm (by omega)
 have T2:=d3top (n+1) s a b ha hb (by omega) (by omega)
 have L2:=d3low (n+3) s a b hb (by omega)
 obtain ⟨p1,q1⟩:=dq_len t hl hm
 obtain ⟨p2,q2⟩:=dq_len s ha hb
 have D0:=pd_pos (val m)
 have E0:=pd_pos (val b)
 generalize pz (sg t (val l)) (val m)=X at *
 generalize pd (val m)=D at *
 generalize pz (sg s (val a)) (val b)=Y at *
 generalize pd (val b)=E at *
 have m1:=nlen_mulD X (E:Int)
 have m2:=nlen_mulD Y (D:Int)
 have m3:=nlen_mul D E
 have m4:=nlen_addD (X*(E:Int)) (Y*(D:Int))
 have aE:nlen (E:Int).natAbs=nlen E:=by rw [Int.natAbs_natCast]
 have aD:nlen (D:Int).natAbs=nlen D:=by rw [Int.natAbs_natCast]
 refine (d3Add_m (n+6) t l m s a b).trans ?_
 rw [bind_go T1,bind_go L2]
 dsimp only
 rw [bind_go (d2makeN (n+3) E (by omega))]
 dsimp only
 rw [bind_go (d2mulZ (n+2) X (E:Int) (by omega) (by omega)),bind_go T2,bind_go L1]
 dsimp only
 rw [bind_go (d2makeN (n+3) D (by omega))]
 dsimp only
 rw [bind_go (d2mulZ (n+2) Y (D:Int) (by omega) (by omega))]
 dsimp only
 rw [bind_go (d2addZ (n+2) _ _ (by omega) (by omega)),bind_go L1,bind_go L2]
 dsimp only
 rw [bind_go (d1mul (n+4) _ _ (dig_limbs D) (dig_limbs E) (by show nlen _+nlen _<_;omega)),val_limbs,val_limbs]
 dsimp only
 rw [bind_go (d3redZ n _ (D*E) (Nat.mul_pos D0 E0) (by omega) (by omega))]
 rfl
end
def subN (X:Int) (D:Nat) (Y:Int) (E:Nat):Int:=rn (X*(rd (-Y) E:Int)+rn (-Y) E*(D:Int)) (D*rd (-Y) E)
def subM (X:Int) (D:Nat) (Y:Int) (E:Nat):Nat:=rd (X*(rd (-Y) E:Int)+rn (-Y) E*(D:Int)) (D*rd (-Y) E)
theorem d3sub (t s:Bool) (l m a b:List Nat) (hl:Dig l) (hm:Dig m) (h1:l.length<100000000) (h2:m.length<100000000) (ha:Dig a) (hb:Dig b) (h3:a.length<10000000) (h4:b.length<10000000):DF fuel (n+8) 118 [vR3 t l m,vR3 s a b] gR=some (decide (subN (pz (sg t (val l)) (val m)) (pd (val m)) (pz (sg s (val a)) (val b)) (pd (val b))<0),limbs (subN (pz (sg t (val l)) (val m)) (pd (val m)) (pz (sg s (val a)) (val b)) (pd (val b))).natAbs,limbs (subM (pz (sg t (val l)) (val m)) (pd (val m)) (pz (sg s (val a)) (val b)) (pd (val b))),()):=by
 have N1:=d3neg n s a b ha hb (by omega) (by omega)
 obtain ⟨p2,q2⟩:=dq_len s ha hb
 have E0:=pd_pos (val b)
 generalize pz (sg s (val a)) (val b)=Y at *
 generalize pd (val b)=E at *
 have r1:nlen (rn (-Y) E).natAbs≤nlen Y.natAbs:=by rw [rn_abs,Int.natAbs_neg];exact nlen_mono (Nat.div_le_self _ _)
 have r2:nlen (rd (-Y) E)≤nlen E:=nlen_mono (Nat.div_le_self _ _)
 have r3:0<rd (-Y) E:=rd_pos _ E0
 have A1:=d3add n t (decide (rn (-Y) E<0)) l m (limbs (rn (-Y) E).natAbs) (limbs (rd (-Y) E)) hl hm h1 h2 (dig_limbs _) (dig_limbs _) (by show nlen _<_;omega) (by show nlen _<_;omega)
 simp only [val_limbs,sg_norm]at A1
 rw [pzD r3,pdD r3]at A1
 refine (d3Sub_m (n+7) t l m s a b).trans ?_
 rw [bind_go N1]
 dsimp only
 rw [bind_go A1]
 rfl
theorem d3make (t s:Bool) (l m:List Nat) (hl:Dig l) (hm:Dig m) (h1:l.length<100000000) (h2:m.length<100000000) (hs:0<sg s (val m)):DF fuel (n+7) 207 [vI2 t l,vI2 s m] [.agg [.bool,.nat,.nat],.c .bool]=some (decide (rn (sg t (val l)) (sg s (val m)).natAbs<0),limbs (rn (sg t (val l)) (sg s (val m)).natAbs).natAbs,limbs (rd (sg t (val l)) (sg s (val m)).natAbs),true,()):=by
 have p1:=nlen_val hl
 have p2:=nlen_val hm
 rw [←sg_natAbs t (val l)]at p1
 rw [←sg_natAbs s (val m)]at p2
 have N1:=d2norm (n+4) t l hl (by omega)
 have N2:=d2norm (n+4) s m hm (by omega)
 generalize sg t (val l)=z at *
 generalize sg s (val m)=y at *
 have B:=d1bits (n+4) (limbs y.natAbs) (dig_limbs _) (by show nlen _<_;omega)
 rw [val_limbs]at B
 refine (d3Make_m (n+6) t l s m).trans ?_
 rw [bind_go N2]
 dsimp only
 rw [bind_go B]
 dsimp only
 rw [bits_pos (show y.natAbs≠0 by omega),cond_false,bind_go N1,decide_eq_false (show ¬y<0 by omega),cond_false]
 dsimp only
 rw [bind_go (d3redZ n z y.natAbs (by omega) (by omega) (by omega))]
 rfl
end
end Go.Proofs.YtcggnmddcbhchaaGreatDoor
set_option linter.unusedSimpArgs false
set_option linter.unusedVariables false
namespace Go.Proofs.YtcggnmddcbhchaaGreatDoor
open Go.RowKit Lim
def capD (l:List Nat):Bool:=l.all (fun x=>Nat.blt x 4294967296) && Nat.ble l.length 1048600
theorem capD_of {l:List Nat} (h:capD l=true):Dig l∧l.length≤1048600:=by
 obtain ⟨h1,h2⟩:=band_of h
 exact ⟨fun x hx=>blt_of (List.all_eq_true.1 h1 x hx),ble_of h2⟩
theorem capD_ok {l:List Nat} (h1:Dig l) (h2:l.length≤1048600):capD l=true:=by
 unfold capD
 rw [Bool.and_eq_true]
 exact ⟨List.all_eq_true.2 fun x hx=>Nat.ble_eq_true_of_le (h1 x hx),Nat.ble_eq_true_of_le h2⟩
theorem p_cap {z:Int} (h1:decide (0≤z)=true) (h2:decide (z≤512)=true):∃k:Nat,z=(k:Int)∧k≤512:=by
 have h1:=of_decide_eq_true h1
 have h2:=of_decide_eq_true h2
 exact ⟨z.toNat,by omega,by omega⟩
theorem u_cap {z:Int} (h1:decide (0<z)=true) (h2:decide (z<4294967296)=true):∃k:Nat,z=(k:Int)∧0<k∧k<4294967296:=by
 have h1:=of_decide_eq_true h1
 have h2:=of_decide_eq_true h2
 exact ⟨z.toNat,by omega,by omega,by omega⟩
def pd1Norm_o:List V→Bool
 | [.o (.c ⟨.nat,a0⟩)]=>capD a0
 | _=>false
def pd1Norm_r:List V→Option (List V0)
 | [.o (.c ⟨.nat,a0⟩)]=>some [.c ⟨.nat,limbsK (val a0)⟩]
 | _=>none
theorem pd1Norm_p:Prim.OK 133 ⟨true,pd1Norm_o,pd1Norm_r⟩:=by
 intro args l h h2
 simp only [pd1Norm_r]at h2
 split at h2
 ·rename_i a0
  cases h2
  simp only [pd1Norm_o,Bool.and_eq_true]at h
  refine ⟨fun _=>?_,fun ht=>by cases ht⟩
  (try simp only [limbsK_eq])
  obtain ⟨d0,l0⟩:=capD_of h
  exact D_calls (d1norm 0 a0 d0 (by omega)) rfl
 ·cases h2
def pd1Of_o:List V→Bool
 | [.o (.c ⟨.int .u64,z0⟩)]=>capU z0
 | _=>false
def pd1Of_r:List V→Option (List V0)
 | [.o (.c ⟨.int .u64,z0⟩)]=>some [.c ⟨.nat,limbsK (z0.toNat)⟩]
 | _=>none
theorem pd1Of_p:Prim.OK 72 ⟨true,pd1Of_o,pd1Of_r⟩:=by
 intro args l h h2
 simp only [pd1Of_r]at h2
 split at h2
 ·rename_i z0
  cases h2
  simp only [pd1Of_o,Bool.and_eq_true]at h
  refine ⟨fun _=>?_,fun ht=>by cases ht⟩
  (try simp only [limbsK_eq])
  obtain ⟨k,rfl,hk⟩:=capU_of h
  exact D_calls (d1of 0 k hk) rfl
 ·cases h2
def pd1Short_o:List V→Bool
 | [.o (.c ⟨.nat,a0⟩),.o (.c ⟨.int .u64,z1⟩)]=>capD a0 && (decide (0<z1) && decide (z1<4294967296))
 | _=>false
def pd1Short_r:List V→Option (List V0)
 | [.o (.c ⟨.nat,a0⟩),.o (.c ⟨.int .u64,z1⟩)]=>some [.c ⟨.nat,limbsK (val a0 / z1.toNat)⟩,.c ⟨.int .u64,((val a0 % z1.toNat:Nat):Int)⟩]
 | _=>none
theorem pd1Short_p:Prim.OK 134 ⟨true,pd1Short_o,pd1Short_r⟩:=by
 intro args l h h2
 simp only [pd1Short_r]at h2
 split at h2
 ·rename_i a0 z1
  cases h2
  simp only [pd1Short_o,Bool.and_eq_true]at h
  refine ⟨fun _=>?_,fun ht=>by cases ht⟩
  (try simp only [limbsK_eq])
  obtain ⟨d0,l0⟩:=capD_of h.1
  obtain ⟨k,rfl,h5,h6⟩:=u_cap h.2.1 h.2.2
  exact D_calls (d1short 0 a0 k d0 (by omega) h5 h6) rfl
 ·cases h2
def pd1Mul_o:List V→Bool
 | [.o (.c ⟨.nat,a0⟩),.o (.c ⟨.nat,a1⟩)]=>capD a0 && capD a1
 | _=>false
def pd1Mul_r:List V→Option (List V0)
 | [.o (.c ⟨.nat,a0⟩),.o (.c ⟨.nat,a1⟩)]=>some [.c ⟨.nat,limbsK (val a0*val a1)⟩]
 | _=>none
theorem pd1Mul_p:Prim.OK 108 ⟨true,pd1Mul_o,pd1Mul_r⟩:=by
 intro args l h h2
 simp only [pd1Mul_r]at h2
 split at h2
 ·rename_i a0 a1
  cases h2
  simp only [pd1Mul_o,Bool.and_eq_true]at h
  refine ⟨fun _=>?_,fun ht=>by cases ht⟩
  (try simp only [limbsK_eq])
  obtain ⟨d0,l0⟩:=capD_of h.1
  obtain ⟨d1,l1⟩:=capD_of h.2
  exact D_calls (d1mul 0 a0 a1 d0 d1 (by omega)) rfl
 ·cases h2
def pd1Add_o:List V→Bool
 | [.o (.c ⟨.nat,a0⟩),.o (.c ⟨.nat,a1⟩)]=>capD a0 && capD a1
 | _=>false
def pd1Add_r:List V→Option (List V0)
 | [.o (.c ⟨.nat,a0⟩),.o (.c ⟨.nat,a1⟩)]=>some [.c ⟨.nat,limbsK (val a0+val a1)⟩]
 | _=>none
theorem pd1Add_p:Prim.OK 171 ⟨true,pd1Add_o,pd1Add_r⟩:=by
 intro args l h h2
 simp only [pd1Add_r]at h2
 split at h2
 ·rename_i a0 a1
  cases h2
  simp only [pd1Add_o,Bool.and_eq_true]at h
  refine ⟨fun _=>?_,fun ht=>by cases ht⟩
  (try simp only [limbsK_eq])
  obtain ⟨d0,l0⟩:=capD_of h.1
  obtain ⟨d1,l1⟩:=capD_of h.2
  exact D_calls (d1add 0 a0 a1 d0 d1 (by omega) (by omega)) rfl
 ·cases h2
def pd1Bits_o:List V→Bool
 | [.o (.c ⟨.nat,a0⟩)]=>capD a0
 | _=>false
def pd1Bits_r:List V→Option (List V0)
 | [.o (.c ⟨.nat,a0⟩)]=>some [.c ⟨.int .i64,((bitsN (val a0):Nat):Int)⟩]
 | _=>none
theorem pd1Bits_p:Prim.OK 137 ⟨true,pd1Bits_o,pd1Bits_r⟩:=by
 intro args l h h2
 simp only [pd1Bits_r]at h2
 split at h2
 ·rename_i a0
  cases h2
  simp only [pd1Bits_o,Bool.and_eq_true]at h
  refine ⟨fun _=>?_,fun ht=>by cases ht⟩
  (try simp only [limbsK_eq])
  obtain ⟨d0,l0⟩:=capD_of h
  exact D_calls (d1bits 0 a0 d0 (by omega)) rfl
 ·cases h2
def pd2Make_o:List V→Bool
 | [.o (.c ⟨.bool,t0⟩),.o (.c ⟨.nat,a1⟩)]=>capD a1
 | _=>false
def pd2Make_r:List V→Option (List V0)
 | [.o (.c ⟨.bool,t0⟩),.o (.c ⟨.nat,a1⟩)]=>some [.agg [⟨.bool,decide ((sg t0 (val a1))<0)⟩,⟨.nat,limbsK (sg t0 (val a1)).natAbs⟩]]
 | _=>none
theorem pd2Make_p:Prim.OK 135 ⟨true,pd2Make_o,pd2Make_r⟩:=by
 intro args l h h2
 simp only [pd2Make_r]at h2
 split at h2
 ·rename_i t0 a1
  cases h2
  simp only [pd2Make_o,Bool.and_eq_true]at h
  refine ⟨fun _=>?_,fun ht=>by cases ht⟩
  (try simp only [limbsK_eq])
  obtain ⟨d0,l0⟩:=capD_of h
  exact D_calls (d2make 0 t0 a1 d0 (by omega)) rfl
 ·cases h2
def pd2Norm_o:List V→Bool
 | [.o (.agg [⟨.bool,t0⟩,⟨.nat,a0⟩])]=>capD a0
 | _=>false
def pd2Norm_r:List V→Option (List V0)
 | [.o (.agg [⟨.bool,t0⟩,⟨.nat,a0⟩])]=>some [.agg [⟨.bool,decide ((sg t0 (val a0))<0)⟩,⟨.nat,limbsK (sg t0 (val a0)).natAbs⟩]]
 | _=>none
theorem pd2Norm_p:Prim.OK 115 ⟨true,pd2Norm_o,pd2Norm_r⟩:=by
 intro args l h h2
 simp only [pd2Norm_r]at h2
 split at h2
 ·rename_i t0 a0
  cases h2
  simp only [pd2Norm_o,Bool.and_eq_true]at h
  refine ⟨fun _=>?_,fun ht=>by cases ht⟩
  (try simp only [limbsK_eq])
  obtain ⟨d0,l0⟩:=capD_of h
  exact D_calls (d2norm 0 t0 a0 d0 (by omega)) rfl
 ·cases h2
def pd2Of_o:List V→Bool
 | [.o (.c ⟨.int .i64,z0⟩)]=>capI z0
 | _=>false
def pd2Of_r:List V→Option (List V0)
 | [.o (.c ⟨.int .i64,z0⟩)]=>some [.agg [⟨.bool,decide ((z0)<0)⟩,⟨.nat,limbsK (z0).natAbs⟩]]
 | _=>none
theorem pd2Of_p:Prim.OK 70 ⟨true,pd2Of_o,pd2Of_r⟩:=by
 intro args l h h2
 simp only [pd2Of_r]at h2
 split at h2
 ·rename_i z0
  cases h2
  simp only [pd2Of_o,Bool.and_eq_true]at h
  refine ⟨fun _=>?_,fun ht=>by cases ht⟩
  (try simp only [limbsK_eq])
  obtain ⟨h1,h2⟩:=capI_of h
  exact D_calls (d2of 0 z0 h1 h2) rfl
 ·cases h2
def pd3Sign_o:List V→Bool
 | [.o (.agg [⟨.bool,t0⟩,⟨.nat,a0⟩,⟨.nat,b0⟩])]=>capD a0 && capD b0
 | _=>false
def pd3Sign_r:List V→Option (List V0)
 | [.o (.agg [⟨.bool,t0⟩,⟨.nat,a0⟩,⟨.nat,b0⟩])]=>some [.c ⟨.int .i64,sgnI (pz (sg t0 (val a0)) (val b0))⟩]
 | _=>none
theorem pd3Sign_p:Prim.OK 34 ⟨true,pd3Sign_o,pd3Sign_r⟩:=by
 intro args l h h2
 simp only [pd3Sign_r]at h2
 split at h2
 ·rename_i t0 a0 b0
  cases h2
  simp only [pd3Sign_o,Bool.and_eq_true]at h
  refine ⟨fun _=>?_,fun ht=>by cases ht⟩
  (try simp only [limbsK_eq])
  obtain ⟨d0,l0⟩:=capD_of h.1
  obtain ⟨d1,l1⟩:=capD_of h.2
  exact D_calls (d3sign 0 t0 a0 b0 d0 d1 (by omega) (by omega)) rfl
 ·cases h2
def pd1Pow_o:List V→Bool
 | [.o (.c ⟨.nat,a0⟩),.o (.c ⟨.int .i64,z1⟩)]=>capD a0 && (decide (0≤z1) && decide (z1≤512))
 | _=>false
def pd1Pow_r:List V→Option (List V0)
 | [.o (.c ⟨.nat,a0⟩),.o (.c ⟨.int .i64,z1⟩)]=>some [.c ⟨.nat,limbsK (val a0 ^ z1.toNat)⟩,.c ⟨.bool,true⟩]
 | _=>none
theorem pd1Pow_p:Prim.OK 166 ⟨true,pd1Pow_o,pd1Pow_r⟩:=by
 intro args l h h2
 simp only [pd1Pow_r]at h2
 split at h2
 ·rename_i a0 z1
  cases h2
  simp only [pd1Pow_o,Bool.and_eq_true]at h
  refine ⟨fun _=>?_,fun ht=>by cases ht⟩
  (try simp only [limbsK_eq])
  obtain ⟨d0,l0⟩:=capD_of h.1
  obtain ⟨k,rfl,hk⟩:=p_cap h.2.1 h.2.2
  exact D_calls (d1pow 0 a0 d0 k hk (by omega)) rfl
 ·cases h2
def pd2Mul_o:List V→Bool
 | [.o (.agg [⟨.bool,t0⟩,⟨.nat,a0⟩]),.o (.agg [⟨.bool,t1⟩,⟨.nat,a1⟩])]=>capD a0 && capD a1
 | _=>false
def pd2Mul_r:List V→Option (List V0)
 | [.o (.agg [⟨.bool,t0⟩,⟨.nat,a0⟩]),.o (.agg [⟨.bool,t1⟩,⟨.nat,a1⟩])]=>some [.agg [⟨.bool,decide ((sg t0 (val a0)*sg t1 (val a1))<0)⟩,⟨.nat,limbsK (sg t0 (val a0)*sg t1 (val a1)).natAbs⟩]]
 | _=>none
theorem pd2Mul_p:Prim.OK 165 ⟨true,pd2Mul_o,pd2Mul_r⟩:=by
 intro args l h h2
 simp only [pd2Mul_r]at h2
 split at h2
 ·rename_i t0 a0 t1 a1
  cases h2
  simp only [pd2Mul_o,Bool.and_eq_true]at h
  refine ⟨fun _=>?_,fun ht=>by cases ht⟩
  (try simp only [limbsK_eq])
  obtain ⟨d0,l0⟩:=capD_of h.1
  obtain ⟨d1,l1⟩:=capD_of h.2
  exact D_calls (d2mul 0 t0 t1 a0 a1 d0 d1 (by omega) (by omega)) rfl
 ·cases h2
def pd2Add_o:List V→Bool
 | [.o (.agg [⟨.bool,t0⟩,⟨.nat,a0⟩]),.o (.agg [⟨.bool,t1⟩,⟨.nat,a1⟩])]=>capD a0 && capD a1
 | _=>false
def pd2Add_r:List V→Option (List V0)
 | [.o (.agg [⟨.bool,t0⟩,⟨.nat,a0⟩]),.o (.agg [⟨.bool,t1⟩,⟨.nat,a1⟩])]=>some [.agg [⟨.bool,decide ((sg t0 (val a0)+sg t1 (val a1))<0)⟩,⟨.nat,limbsK (sg t0 (val a0)+sg t1 (val a1)).natAbs⟩]]
 | _=>none
theorem pd2Add_p:Prim.OK 119 ⟨true,pd2Add_o,pd2Add_r⟩:=by
 intro args l h h2
 simp only [pd2Add_r]at h2
 split at h2
 ·rename_i t0 a0 t1 a1
  cases h2
  simp only [pd2Add_o,Bool.and_eq_true]at h
  refine ⟨fun _=>?_,fun ht=>by cases ht⟩
  (try simp only [limbsK_eq])
  obtain ⟨d0,l0⟩:=capD_of h.1
  obtain ⟨d1,l1⟩:=capD_of h.2
  exact D_calls (d2add 0 t0 t1 a0 a1 d0 d1 (by omega) (by omega)) rfl
 ·cases h2
def pd3Cmp_o:List V→Bool
 | [.o (.agg [⟨.bool,t0⟩,⟨.nat,a0⟩,⟨.nat,b0⟩]),.o (.agg [⟨.bool,t1⟩,⟨.nat,a1⟩,⟨.nat,b1⟩])]=>capD a0 && capD b0 && capD a1 && capD b1
 | _=>false
def pd3Cmp_r:List V→Option (List V0)
 | [.o (.agg [⟨.bool,t0⟩,⟨.nat,a0⟩,⟨.nat,b0⟩]),.o (.agg [⟨.bool,t1⟩,⟨.nat,a1⟩,⟨.nat,b1⟩])]=>some [.c ⟨.int .i64,cmpZ (pz (sg t0 (val a0)) (val b0)*(pd (val b1):Int)) (pz (sg t1 (val a1)) (val b1)*(pd (val b0):Int))⟩]
 | _=>none
theorem pd3Cmp_p:Prim.OK 168 ⟨true,pd3Cmp_o,pd3Cmp_r⟩:=by
 intro args l h h2
 simp only [pd3Cmp_r]at h2
 split at h2
 ·rename_i t0 a0 b0 t1 a1 b1
  cases h2
  simp only [pd3Cmp_o,Bool.and_eq_true]at h
  refine ⟨fun _=>?_,fun ht=>by cases ht⟩
  (try simp only [limbsK_eq])
  obtain ⟨d0,l0⟩:=capD_of h.1.1.1
  obtain ⟨d1,l1⟩:=capD_of h.1.1.2
  obtain ⟨d2,l2⟩:=capD_of h.1.2
  obtain ⟨d3,l3⟩:=capD_of h.2
  exact D_calls (d3cmp 0 t0 t1 a0 b0 a1 b1 d0 d1 (by omega) (by omega) d2 d3 (by omega) (by omega)) rfl
 ·cases h2
def pd3Mul_o:List V→Bool
 | [.o (.agg [⟨.bool,t0⟩,⟨.nat,a0⟩,⟨.nat,b0⟩]),.o (.agg [⟨.bool,t1⟩,⟨.nat,a1⟩,⟨.nat,b1⟩])]=>capD a0 && capD b0 && capD a1 && capD b1
 | _=>false
def pd3Mul_r:List V→Option (List V0)
 | [.o (.agg [⟨.bool,t0⟩,⟨.nat,a0⟩,⟨.nat,b0⟩]),.o (.agg [⟨.bool,t1⟩,⟨.nat,a1⟩,⟨.nat,b1⟩])]=>some [.agg [⟨.bool,decide ((rn (pz (sg t0 (val a0)) (val b0)*pz (sg t1 (val a1)) (val b1)) (pd (val b0)*pd (val b1)))<0)⟩,⟨.nat,limbsK (rn (pz (sg t0 (val a0)) (val b0)*pz (sg t1 (val a1)) (val b1)) (pd (val b0)*pd (val b1))).natAbs⟩,⟨.nat,limbsK (rd (pz (sg t0 (val a0)) (val b0)*pz (sg t1 (val a1)) (val b1)) (pd (val b0)*pd (val b1)))⟩]]
 | _=>none
theorem pd3Mul_p:Prim.OK 112 ⟨true,pd3Mul_o,pd3Mul_r⟩:=by
 intro args l h h2
 simp only [pd3Mul_r]at h2
 split at h2
 ·rename_i t0 a0 b0 t1 a1 b1
  cases h2
  simp only [pd3Mul_o,Bool.and_eq_true]at h
  refine ⟨fun _=>?_,fun ht=>by cases ht⟩
  (try simp only [limbsK_eq])
  obtain ⟨d0,l0⟩:=capD_of h.1.1.1
  obtain ⟨d1,l1⟩:=capD_of h.1.1.2
  obtain ⟨d2,l2⟩:=capD_of h.1.2
  obtain ⟨d3,l3⟩:=capD_of h.2
  exact D_calls (d3mul 0 t0 t1 a0 b0 a1 b1 d0 d1 (by omega) (by omega) d2 d3 (by omega) (by omega)) rfl
 ·cases h2
def pd3Sub_o:List V→Bool
 | [.o (.agg [⟨.bool,t0⟩,⟨.nat,a0⟩,⟨.nat,b0⟩]),.o (.agg [⟨.bool,t1⟩,⟨.nat,a1⟩,⟨.nat,b1⟩])]=>capD a0 && capD b0 && capD a1 && capD b1
 | _=>false
def pd3Sub_r:List V→Option (List V0)
 | [.o (.agg [⟨.bool,t0⟩,⟨.nat,a0⟩,⟨.nat,b0⟩]),.o (.agg [⟨.bool,t1⟩,⟨.nat,a1⟩,⟨.nat,b1⟩])]=>some [.agg [⟨.bool,decide ((subN (pz (sg t0 (val a0)) (val b0)) (pd (val b0)) (pz (sg t1 (val a1)) (val b1)) (pd (val b1)))<0)⟩,⟨.nat,limbsK (subN (pz (sg t0 (val a0)) (val b0)) (pd (val b0)) (pz (sg t1 (val a1)) (val b1)) (pd (val b1))).natAbs⟩,⟨.nat,limbsK (subM (pz (sg t0 (val a0)) (val b0)) (pd (val b0)) (pz (sg t1 (val a1)) (val b1)) (pd (val b1)))⟩]]
 | _=>none
theorem pd3Sub_p:Prim.OK 118 ⟨true,pd3Sub_o,pd3Sub_r⟩:=by
 intro args l h h2
 simp only [pd3Sub_r]at h2
 split at h2
 ·rename_i t0 a0 b0 t1 a1 b1
  cases h2
  simp only [pd3Sub_o,Bool.and_eq_true]at h
  refine ⟨fun _=>?_,fun ht=>by cases ht⟩
  (try simp only [limbsK_eq])
  obtain ⟨d0,l0⟩:=capD_of h.1.1.1
  obtain ⟨d1,l1⟩:=capD_of h.1.1.2
  obtain ⟨d2,l2⟩:=capD_of h.1.2
  obtain ⟨d3,l3⟩:=capD_of h.2
  exact D_calls (d3sub 0 t0 t1 a0 b0 a1 b1 d0 d1 (by omega) (by omega) d2 d3 (by omega) (by omega)) rfl
 ·cases h2
def pd3Floor_o:List V→Bool
 | [.o (.agg [⟨.bool,t0⟩,⟨.nat,a0⟩,⟨.nat,b0⟩])]=>capD a0 && capD b0
 | _=>false
def pd3Floor_r:List V→Option (List V0)
 | [.o (.agg [⟨.bool,t0⟩,⟨.nat,a0⟩,⟨.nat,b0⟩])]=>some [.agg [⟨.bool,decide ((pz (sg t0 (val a0)) (val b0) / (pd (val b0):Int))<0)⟩,⟨.nat,limbsK (pz (sg t0 (val a0)) (val b0) / (pd (val b0):Int)).natAbs⟩]]
 | _=>none
theorem pd3Floor_p:Prim.OK 116 ⟨true,pd3Floor_o,pd3Floor_r⟩:=by
 intro args l h h2
 simp only [pd3Floor_r]at h2
 split at h2
 ·rename_i t0 a0 b0
  cases h2
  simp only [pd3Floor_o,Bool.and_eq_true]at h
  refine ⟨fun _=>?_,fun ht=>by cases ht⟩
  (try simp only [limbsK_eq])
  obtain ⟨d0,l0⟩:=capD_of h.1
  obtain ⟨d1,l1⟩:=capD_of h.2
  exact D_calls (d3floor 0 t0 a0 b0 d0 d1 (by omega) (by omega)) rfl
 ·cases h2
def pd3Make_o:List V→Bool
 | [.o (.agg [⟨.bool,t0⟩,⟨.nat,a0⟩]),.o (.agg [⟨.bool,t1⟩,⟨.nat,a1⟩])]=>capD a0 && capD a1 && decide (0<sg t1 (val a1))
 | _=>false
def pd3Make_r:List V→Option (List V0)
 | [.o (.agg [⟨.bool,t0⟩,⟨.nat,a0⟩]),.o (.agg [⟨.bool,t1⟩,⟨.nat,a1⟩])]=>some [.agg [⟨.bool,decide ((rn (sg t0 (val a0)) (sg t1 (val a1)).natAbs)<0)⟩,⟨.nat,limbsK (rn (sg t0 (val a0)) (sg t1 (val a1)).natAbs).natAbs⟩,⟨.nat,limbsK (rd (sg t0 (val a0)) (sg t1 (val a1)).natAbs)⟩],.c ⟨.bool,true⟩]
 | _=>none
theorem pd3Make_p:Prim.OK 207 ⟨true,pd3Make_o,pd3Make_r⟩:=by
 intro args l h h2
 simp only [pd3Make_r]at h2
 split at h2
 ·rename_i t0 a0 t1 a1
  cases h2
  simp only [pd3Make_o,Bool.and_eq_true]at h
  refine ⟨fun _=>?_,fun ht=>by cases ht⟩
  (try simp only [limbsK_eq])
  obtain ⟨d0,l0⟩:=capD_of h.1.1
  obtain ⟨d1,l1⟩:=capD_of h.1.2
  exact D_calls (d3make 0 t0 t1 a0 a1 d0 d1 (by omega) (by omega) (of_decide_eq_true h.2)) rfl
 ·cases h2
end Go.Proofs.YtcggnmddcbhchaaGreatDoor
