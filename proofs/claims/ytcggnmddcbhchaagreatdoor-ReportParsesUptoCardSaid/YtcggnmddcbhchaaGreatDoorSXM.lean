import Derived.Test.YtcggnmddcbhchaaGreatDoorSXI
/- Text XM. -/
set_option linter.unusedSimpArgs false
set_option linter.unusedVariables false
namespace Go.Proofs.YtcggnmddcbhchaaGreatDoor
open Go.RowKit Lim
theorem pNOf_k (n0 : Nat) (z0 : Int) : EF fuel (n0 + 1) 63 [.o (.c ⟨.int .u64, z0⟩)] [.c .nat] = bif true && capU z0 then some (limbsK (z0.toNat), ()) else none := by kernel_rfl
theorem pNOf_e (n0 : Nat) (z0 : Int) (h : (capU z0) = true) : EF fuel (n0 + 1) 63 [.o (.c ⟨.int .u64, z0⟩)] [.c .nat] = some (limbsK (z0.toNat), ()) := by
 rw [pNOf_k]
 simp only [h, Bool.and_self, Bool.and_true, cond_true]
 try rfl
theorem pNCmp_k (n0 : Nat) (a0 : List Nat) (a1 : List Nat) : EF fuel (n0 + 1) 62 [.o (.c ⟨.nat, a0⟩), .o (.c ⟨.nat, a1⟩)] [.c (.int .i64)] = bif capN a0 && capN a1 && true then some (cmpI (val a0) (val a1), ()) else none := by kernel_rfl
theorem pNCmp_e (n0 : Nat) (a0 : List Nat) (a1 : List Nat) (c0 : capN a0 = true) (c1 : capN a1 = true) : EF fuel (n0 + 1) 62 [.o (.c ⟨.nat, a0⟩), .o (.c ⟨.nat, a1⟩)] [.c (.int .i64)] = some (cmpI (val a0) (val a1), ()) := by
 rw [pNCmp_k]
 simp only [c0, c1, Bool.and_self, Bool.and_true, cond_true]
 try rfl
theorem pNAdd_k (n0 : Nat) (a0 : List Nat) (a1 : List Nat) : EF fuel (n0 + 1) 202 [.o (.c ⟨.nat, a0⟩), .o (.c ⟨.nat, a1⟩)] [.c .nat] = bif capN a0 && capN a1 && true then some (limbsK (val a0 + val a1), ()) else none := by kernel_rfl
theorem pNAdd_e (n0 : Nat) (a0 : List Nat) (a1 : List Nat) (c0 : capN a0 = true) (c1 : capN a1 = true) : EF fuel (n0 + 1) 202 [.o (.c ⟨.nat, a0⟩), .o (.c ⟨.nat, a1⟩)] [.c .nat] = some (limbsK (val a0 + val a1), ()) := by
 rw [pNAdd_k]
 simp only [c0, c1, Bool.and_self, Bool.and_true, cond_true]
 try rfl
theorem pNMul_k (n0 : Nat) (a0 : List Nat) (a1 : List Nat) : EF fuel (n0 + 1) 95 [.o (.c ⟨.nat, a0⟩), .o (.c ⟨.nat, a1⟩)] [.c .nat] = bif capN a0 && capN a1 && true then some (limbsK (val a0 * val a1), ()) else none := by kernel_rfl
theorem pNMul_e (n0 : Nat) (a0 : List Nat) (a1 : List Nat) (c0 : capN a0 = true) (c1 : capN a1 = true) : EF fuel (n0 + 1) 95 [.o (.c ⟨.nat, a0⟩), .o (.c ⟨.nat, a1⟩)] [.c .nat] = some (limbsK (val a0 * val a1), ()) := by
 rw [pNMul_k]
 simp only [c0, c1, Bool.and_self, Bool.and_true, cond_true]
 try rfl
theorem pIMake_k (n0 : Nat) (t0 : Bool) (a1 : List Nat) : EF fuel (n0 + 1) 130 [.o (.c ⟨.bool, t0⟩), .o (.c ⟨.nat, a1⟩)] [.agg [.bool, .nat]] = bif true && capN a1 && true then some (decide (sg t0 (val a1) < 0), limbsK (sg t0 (val a1)).natAbs, ()) else none := by kernel_rfl
theorem pIMake_e (n0 : Nat) (t0 : Bool) (a1 : List Nat) (c1 : capN a1 = true) : EF fuel (n0 + 1) 130 [.o (.c ⟨.bool, t0⟩), .o (.c ⟨.nat, a1⟩)] [.agg [.bool, .nat]] = some (decide (sg t0 (val a1) < 0), limbsK (sg t0 (val a1)).natAbs, ()) := by
 rw [pIMake_k]
 simp only [c1, Bool.and_self, Bool.and_true, cond_true]
 try rfl
theorem pISign_k (n0 : Nat) (t0 : Bool) (a0 : List Nat) : EF fuel (n0 + 1) 74 [.o (.agg [⟨.bool, t0⟩, ⟨.nat, a0⟩])] [.c (.int .i64)] = bif capN a0 && true then some (sgnI (sg t0 (val a0)), ()) else none := by kernel_rfl
theorem pISign_e (n0 : Nat) (t0 : Bool) (a0 : List Nat) (c0 : capN a0 = true) : EF fuel (n0 + 1) 74 [.o (.agg [⟨.bool, t0⟩, ⟨.nat, a0⟩])] [.c (.int .i64)] = some (sgnI (sg t0 (val a0)), ()) := by
 rw [pISign_k]
 simp only [c0, Bool.and_self, Bool.and_true, cond_true]
 try rfl
theorem pRRed_k (n0 : Nat) (t0 : Bool) (a0 : List Nat) (a1 : List Nat) : EF fuel (n0 + 1) 123 [.o (.agg [⟨.bool, t0⟩, ⟨.nat, a0⟩]), .o (.c ⟨.nat, a1⟩)] [.agg [.bool, .nat, .nat]] = bif capN a0 && capN a1 && Nat.blt 0 (val a1) then some (decide (rn (sg t0 (val a0)) (val a1) < 0), limbsK (rn (sg t0 (val a0)) (val a1)).natAbs, limbsK (rd (sg t0 (val a0)) (val a1)), ()) else none := by kernel_rfl
theorem pRRed_e (n0 : Nat) (t0 : Bool) (a0 : List Nat) (a1 : List Nat) (c0 : capN a0 = true) (c1 : capN a1 = true) (h : (Nat.blt 0 (val a1)) = true) : EF fuel (n0 + 1) 123 [.o (.agg [⟨.bool, t0⟩, ⟨.nat, a0⟩]), .o (.c ⟨.nat, a1⟩)] [.agg [.bool, .nat, .nat]] = some (decide (rn (sg t0 (val a0)) (val a1) < 0), limbsK (rn (sg t0 (val a0)) (val a1)).natAbs, limbsK (rd (sg t0 (val a0)) (val a1)), ()) := by
 rw [pRRed_k]
 simp only [c0, c1, h, Bool.and_self, Bool.and_true, cond_true]
 try rfl
theorem pRPrint_k (n0 : Nat) (t0 : Bool) (a0 b0 : List Nat) : EF fuel (n0 + 1) 27 [.o (.agg [⟨.bool, t0⟩, ⟨.nat, a0⟩, ⟨.nat, b0⟩])] [.c .str] = bif (capN a0 && capN b0) && true then some (ratK (rn (pz (sg t0 (val a0)) (val b0)) (pd (val b0))) (rd (pz (sg t0 (val a0)) (val b0)) (pd (val b0))), ()) else none := by kernel_rfl
theorem pRPrint_e (n0 : Nat) (t0 : Bool) (a0 b0 : List Nat) (c0 : capN a0 = true) (d0 : capN b0 = true) : EF fuel (n0 + 1) 27 [.o (.agg [⟨.bool, t0⟩, ⟨.nat, a0⟩, ⟨.nat, b0⟩])] [.c .str] = some (ratK (rn (pz (sg t0 (val a0)) (val b0)) (pd (val b0))) (rd (pz (sg t0 (val a0)) (val b0)) (pd (val b0))), ()) := by
 rw [pRPrint_k]
 simp only [c0, d0, Bool.and_self, Bool.and_true, cond_true]
 try rfl
end Go.Proofs.YtcggnmddcbhchaaGreatDoor
