import Derived.Test.YtcggnmddcbhchaaGreatDoorEXI
/- Text XM. -/
set_option linter.unusedSimpArgs false
set_option linter.unusedVariables false
namespace Go.Proofs.YtcggnmddcbhchaaGreatDoor
open Go.RowKit Lim
theorem pNOf_k (n0:Nat) (z0:Int):EF fuel (n0+1) 63 [.o (.c ⟨.int .u64,z0⟩)] [.c .nat]=bif true && capU z0 then some (limbsK (z0.toNat),()) else none:=by kernel_rfl
theorem pNOf_e (n0:Nat) (z0:Int) (h:(capU z0)=true):EF fuel (n0+1) 63 [.o (.c ⟨.int .u64,z0⟩)] [.c .nat]=some (limbsK (z0.toNat),()):=by
 rw [pNOf_k]
 simp only [h,Bool.and_self,Bool.and_true,cond_true]
 try rfl
theorem pNNorm_k (n0:Nat) (a0:List Nat):EF fuel (n0+1) 96 [.o (.c ⟨.nat,a0⟩)] [.c .nat]=bif capN a0 && true then some (limbsK (val a0),()) else none:=by kernel_rfl
theorem pNNorm_e (n0:Nat) (a0:List Nat) (c0:capN a0=true):EF fuel (n0+1) 96 [.o (.c ⟨.nat,a0⟩)] [.c .nat]=some (limbsK (val a0),()):=by
 rw [pNNorm_k]
 simp only [c0,Bool.and_self,Bool.and_true,cond_true]
 try rfl
theorem pNMul_k (n0:Nat) (a0:List Nat) (a1:List Nat):EF fuel (n0+1) 95 [.o (.c ⟨.nat,a0⟩),.o (.c ⟨.nat,a1⟩)] [.c .nat]=bif capN a0 && capN a1 && true then some (limbsK (val a0*val a1),()) else none:=by kernel_rfl
theorem pNMul_e (n0:Nat) (a0:List Nat) (a1:List Nat) (c0:capN a0=true) (c1:capN a1=true):EF fuel (n0+1) 95 [.o (.c ⟨.nat,a0⟩),.o (.c ⟨.nat,a1⟩)] [.c .nat]=some (limbsK (val a0*val a1),()):=by
 rw [pNMul_k]
 simp only [c0,c1,Bool.and_self,Bool.and_true,cond_true]
 try rfl
theorem pIMake_k (n0:Nat) (t0:Bool) (a1:List Nat):EF fuel (n0+1) 130 [.o (.c ⟨.bool,t0⟩),.o (.c ⟨.nat,a1⟩)] [.agg [.bool,.nat]]=bif true && capN a1 && true then some (decide (sg t0 (val a1)<0),limbsK (sg t0 (val a1)).natAbs,()) else none:=by kernel_rfl
theorem pIMake_e (n0:Nat) (t0:Bool) (a1:List Nat) (c1:capN a1=true):EF fuel (n0+1) 130 [.o (.c ⟨.bool,t0⟩),.o (.c ⟨.nat,a1⟩)] [.agg [.bool,.nat]]=some (decide (sg t0 (val a1)<0),limbsK (sg t0 (val a1)).natAbs,()):=by
 rw [pIMake_k]
 simp only [c1,Bool.and_self,Bool.and_true,cond_true]
 try rfl
theorem pISign_k (n0:Nat) (t0:Bool) (a0:List Nat):EF fuel (n0+1) 74 [.o (.agg [⟨.bool,t0⟩,⟨.nat,a0⟩])] [.c (.int .i64)]=bif capN a0 && true then some (sgnI (sg t0 (val a0)),()) else none:=by kernel_rfl
theorem pISign_e (n0:Nat) (t0:Bool) (a0:List Nat) (c0:capN a0=true):EF fuel (n0+1) 74 [.o (.agg [⟨.bool,t0⟩,⟨.nat,a0⟩])] [.c (.int .i64)]=some (sgnI (sg t0 (val a0)),()):=by
 rw [pISign_k]
 simp only [c0,Bool.and_self,Bool.and_true,cond_true]
 try rfl
theorem pIOf_k (n0:Nat) (z0:Int):EF fuel (n0+1) 61 [.o (.c ⟨.int .i64,z0⟩)] [.agg [.bool,.nat]]=bif capI z0 && true then some (decide (z0<0),limbsK (z0).natAbs,()) else none:=by kernel_rfl
theorem pIOf_e (n0:Nat) (z0:Int) (c0:capI z0=true):EF fuel (n0+1) 61 [.o (.c ⟨.int .i64,z0⟩)] [.agg [.bool,.nat]]=some (decide (z0<0),limbsK (z0).natAbs,()):=by
 rw [pIOf_k]
 simp only [c0,Bool.and_self,Bool.and_true,cond_true]
 try rfl
theorem pIAdd_k (n0:Nat) (t0:Bool) (a0:List Nat) (t1:Bool) (a1:List Nat):EF fuel (n0+1) 157 [.o (.agg [⟨.bool,t0⟩,⟨.nat,a0⟩]),.o (.agg [⟨.bool,t1⟩,⟨.nat,a1⟩])] [.agg [.bool,.nat]]=bif capN a0 && capN a1 && true then some (decide ((sg t0 (val a0)+sg t1 (val a1))<0),limbsK ((sg t0 (val a0)+sg t1 (val a1))).natAbs,()) else none:=by kernel_rfl
theorem pIAdd_e (n0:Nat) (t0:Bool) (a0:List Nat) (t1:Bool) (a1:List Nat) (c0:capN a0=true) (c1:capN a1=true):EF fuel (n0+1) 157 [.o (.agg [⟨.bool,t0⟩,⟨.nat,a0⟩]),.o (.agg [⟨.bool,t1⟩,⟨.nat,a1⟩])] [.agg [.bool,.nat]]=some (decide ((sg t0 (val a0)+sg t1 (val a1))<0),limbsK ((sg t0 (val a0)+sg t1 (val a1))).natAbs,()):=by
 rw [pIAdd_k]
 simp only [c0,c1,Bool.and_self,Bool.and_true,cond_true]
 try rfl
theorem pIMul_k (n0:Nat) (t0:Bool) (a0:List Nat) (t1:Bool) (a1:List Nat):EF fuel (n0+1) 121 [.o (.agg [⟨.bool,t0⟩,⟨.nat,a0⟩]),.o (.agg [⟨.bool,t1⟩,⟨.nat,a1⟩])] [.agg [.bool,.nat]]=bif capN a0 && capN a1 && true then some (decide ((sg t0 (val a0)*sg t1 (val a1))<0),limbsK ((sg t0 (val a0)*sg t1 (val a1))).natAbs,()) else none:=by kernel_rfl
theorem pIMul_e (n0:Nat) (t0:Bool) (a0:List Nat) (t1:Bool) (a1:List Nat) (c0:capN a0=true) (c1:capN a1=true):EF fuel (n0+1) 121 [.o (.agg [⟨.bool,t0⟩,⟨.nat,a0⟩]),.o (.agg [⟨.bool,t1⟩,⟨.nat,a1⟩])] [.agg [.bool,.nat]]=some (decide ((sg t0 (val a0)*sg t1 (val a1))<0),limbsK ((sg t0 (val a0)*sg t1 (val a1))).natAbs,()):=by
 rw [pIMul_k]
 simp only [c0,c1,Bool.and_self,Bool.and_true,cond_true]
 try rfl
theorem pRMake_k (n0:Nat) (t0:Bool) (a0:List Nat) (t1:Bool) (a1:List Nat):EF fuel (n0+1) 138 [.o (.agg [⟨.bool,t0⟩,⟨.nat,a0⟩]),.o (.agg [⟨.bool,t1⟩,⟨.nat,a1⟩])] [.agg [.bool,.nat,.nat],.c .bool]=bif capN a0 && capN a1 && decide (sg t1 (val a1)≠0) then some (decide (rn (mz (sg t0 (val a0)) (sg t1 (val a1))) (sg t1 (val a1)).natAbs<0),limbsK (rn (mz (sg t0 (val a0)) (sg t1 (val a1))) (sg t1 (val a1)).natAbs).natAbs,limbsK (rd (mz (sg t0 (val a0)) (sg t1 (val a1))) (sg t1 (val a1)).natAbs),true,()) else none:=by kernel_rfl
theorem pRMake_e (n0:Nat) (t0:Bool) (a0:List Nat) (t1:Bool) (a1:List Nat) (c0:capN a0=true) (c1:capN a1=true) (h:(decide (sg t1 (val a1)≠0))=true):EF fuel (n0+1) 138 [.o (.agg [⟨.bool,t0⟩,⟨.nat,a0⟩]),.o (.agg [⟨.bool,t1⟩,⟨.nat,a1⟩])] [.agg [.bool,.nat,.nat],.c .bool]=some (decide (rn (mz (sg t0 (val a0)) (sg t1 (val a1))) (sg t1 (val a1)).natAbs<0),limbsK (rn (mz (sg t0 (val a0)) (sg t1 (val a1))) (sg t1 (val a1)).natAbs).natAbs,limbsK (rd (mz (sg t0 (val a0)) (sg t1 (val a1))) (sg t1 (val a1)).natAbs),true,()):=by
 rw [pRMake_k]
 simp only [c0,c1,h,Bool.and_self,Bool.and_true,cond_true]
 try rfl
theorem pDPrint_k (n0:Nat) (t0:Bool) (a0:List Nat) (p0:Int):EF fuel (n0+1) 99 [.o (.agg [⟨.bool,t0⟩,⟨.nat,a0⟩,⟨.int .i64,p0⟩])] [.c .str,.c (.int .i64)]=bif capN a0 && capP p0 then some (decTK (sg t0 (val a0)) p0.toNat,0,()) else none:=by kernel_rfl
theorem pDPrint_e (n0:Nat) (t0:Bool) (a0:List Nat) (p0:Int) (c0:capN a0=true) (h:(capP p0)=true):EF fuel (n0+1) 99 [.o (.agg [⟨.bool,t0⟩,⟨.nat,a0⟩,⟨.int .i64,p0⟩])] [.c .str,.c (.int .i64)]=some (decTK (sg t0 (val a0)) p0.toNat,0,()):=by
 rw [pDPrint_k]
 simp only [c0,h,Bool.and_self,Bool.and_true,cond_true]
 try rfl
theorem pDRound_k (n0:Nat) (t0:Bool) (a0 b0:List Nat) (z1:Int) (z2:Int):EF fuel (n0+1) 98 [.o (.agg [⟨.bool,t0⟩,⟨.nat,a0⟩,⟨.nat,b0⟩]),.o (.c ⟨.int .i64,z1⟩),.o (.c ⟨.int .i64,z2⟩)] [.agg [.bool,.nat,.int .i64],.c (.int .i64)]=bif (capN a0 && capN b0) && capI z1 && capI z2 && (capP z1 && (decide (1≤z2) && decide (z2≤7))) then some (decide (rndU (rn (pz (sg t0 (val a0)) (val b0)) (pd (val b0))) (rd (pz (sg t0 (val a0)) (val b0)) (pd (val b0))) z1.toNat z2<0),limbsK (rndU (rn (pz (sg t0 (val a0)) (val b0)) (pd (val b0))) (rd (pz (sg t0 (val a0)) (val b0)) (pd (val b0))) z1.toNat z2).natAbs,z1,0,()) else none:=by kernel_rfl
theorem pDRound_e (n0:Nat) (t0:Bool) (a0 b0:List Nat) (z1:Int) (z2:Int) (c0:capN a0=true) (d0:capN b0=true) (c1:capI z1=true) (c2:capI z2=true) (h:((capP z1 && (decide (1≤z2) && decide (z2≤7))))=true):EF fuel (n0+1) 98 [.o (.agg [⟨.bool,t0⟩,⟨.nat,a0⟩,⟨.nat,b0⟩]),.o (.c ⟨.int .i64,z1⟩),.o (.c ⟨.int .i64,z2⟩)] [.agg [.bool,.nat,.int .i64],.c (.int .i64)]=some (decide (rndU (rn (pz (sg t0 (val a0)) (val b0)) (pd (val b0))) (rd (pz (sg t0 (val a0)) (val b0)) (pd (val b0))) z1.toNat z2<0),limbsK (rndU (rn (pz (sg t0 (val a0)) (val b0)) (pd (val b0))) (rd (pz (sg t0 (val a0)) (val b0)) (pd (val b0))) z1.toNat z2).natAbs,z1,0,()):=by
 rw [pDRound_k]
 simp only [c0,d0,c1,c2,h,Bool.and_self,Bool.and_true,cond_true]
 try rfl
end Go.Proofs.YtcggnmddcbhchaaGreatDoor
