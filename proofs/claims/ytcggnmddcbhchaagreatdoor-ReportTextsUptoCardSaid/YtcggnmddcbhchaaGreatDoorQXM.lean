import Derived.Test.YtcggnmddcbhchaaGreatDoorQXI
/- Text XM. -/
set_option linter.unusedSimpArgs false
set_option linter.unusedVariables false
namespace Go.Proofs.YtcggnmddcbhchaaGreatDoor
open Go.RowKit Lim
theorem pNOf_k (n0 : Nat) (z0 : Int) : EF fuel (n0 + 1) 63 [.o (.c ⟨.int .u64, z0⟩)] [.c .nat] = bif true && capU z0 then some (limbsK (z0.toNat), ()) else none := by kernel_rfl
theorem pNOf_e (n0 : Nat) (z0 : Int) (h : (capU z0) = true) : EF fuel (n0 + 1) 63 [.o (.c ⟨.int .u64, z0⟩)] [.c .nat] = some (limbsK (z0.toNat), ()) := by
  rw [pNOf_k]
  simp only [h, Bool.and_self, Bool.and_true, cond_true]
  try rfl
theorem pNCmp_k (n0 : Nat) (a0 : List Nat) (a1 : List Nat) : EF fuel (n0 + 1) 62 [.o (.c ⟨.nat, a0⟩), .o (.c ⟨.nat, a1⟩)] [.c (.int .i64)] = bif capN a0 && capN a1 && true then some (cmpI (val a0) (val a1), ()) else none := by kernel_rfl
theorem pNCmp_e (n0 : Nat) (a0 : List Nat) (a1 : List Nat) (c0 : capN a0 = true) (c1 : capN a1 = true) : EF fuel (n0 + 1) 62 [.o (.c ⟨.nat, a0⟩), .o (.c ⟨.nat, a1⟩)] [.c (.int .i64)] = some (cmpI (val a0) (val a1), ()) := by
  rw [pNCmp_k]
  simp only [c0, c1, Bool.and_self, Bool.and_true, cond_true]
  try rfl
theorem pNPrint_k (n0 : Nat) (a0 : List Nat) : EF fuel (n0 + 1) 57 [.o (.c ⟨.nat, a0⟩)] [.c .str] = bif capN a0 && true then some (decK (val a0), ()) else none := by kernel_rfl
theorem pNPrint_e (n0 : Nat) (a0 : List Nat) (c0 : capN a0 = true) : EF fuel (n0 + 1) 57 [.o (.c ⟨.nat, a0⟩)] [.c .str] = some (decK (val a0), ()) := by
  rw [pNPrint_k]
  simp only [c0, Bool.and_self, Bool.and_true, cond_true]
  try rfl
theorem pISign_k (n0 : Nat) (t0 : Bool) (a0 : List Nat) : EF fuel (n0 + 1) 74 [.o (.agg [⟨.bool, t0⟩, ⟨.nat, a0⟩])] [.c (.int .i64)] = bif capN a0 && true then some (sgnI (sg t0 (val a0)), ()) else none := by kernel_rfl
theorem pISign_e (n0 : Nat) (t0 : Bool) (a0 : List Nat) (c0 : capN a0 = true) : EF fuel (n0 + 1) 74 [.o (.agg [⟨.bool, t0⟩, ⟨.nat, a0⟩])] [.c (.int .i64)] = some (sgnI (sg t0 (val a0)), ()) := by
  rw [pISign_k]
  simp only [c0, Bool.and_self, Bool.and_true, cond_true]
  try rfl
theorem pIOf_k (n0 : Nat) (z0 : Int) : EF fuel (n0 + 1) 61 [.o (.c ⟨.int .i64, z0⟩)] [.agg [.bool, .nat]] = bif capI z0 && true then some (decide (z0 < 0), limbsK (z0).natAbs, ()) else none := by kernel_rfl
theorem pIOf_e (n0 : Nat) (z0 : Int) (c0 : capI z0 = true) : EF fuel (n0 + 1) 61 [.o (.c ⟨.int .i64, z0⟩)] [.agg [.bool, .nat]] = some (decide (z0 < 0), limbsK (z0).natAbs, ()) := by
  rw [pIOf_k]
  simp only [c0, Bool.and_self, Bool.and_true, cond_true]
  try rfl
theorem pIPrint_k (n0 : Nat) (t0 : Bool) (a0 : List Nat) : EF fuel (n0 + 1) 60 [.o (.agg [⟨.bool, t0⟩, ⟨.nat, a0⟩])] [.c .str] = bif capN a0 && true then some (itoaK (sg t0 (val a0)), ()) else none := by kernel_rfl
theorem pIPrint_e (n0 : Nat) (t0 : Bool) (a0 : List Nat) (c0 : capN a0 = true) : EF fuel (n0 + 1) 60 [.o (.agg [⟨.bool, t0⟩, ⟨.nat, a0⟩])] [.c .str] = some (itoaK (sg t0 (val a0)), ()) := by
  rw [pIPrint_k]
  simp only [c0, Bool.and_self, Bool.and_true, cond_true]
  try rfl
theorem pRNorm_k (n0 : Nat) (t0 : Bool) (a0 b0 : List Nat) : EF fuel (n0 + 1) 56 [.o (.agg [⟨.bool, t0⟩, ⟨.nat, a0⟩, ⟨.nat, b0⟩])] [.agg [.bool, .nat, .nat]] = bif (capN a0 && capN b0) && true then some (decide (rn (pz (sg t0 (val a0)) (val b0)) (pd (val b0)) < 0), limbsK (rn (pz (sg t0 (val a0)) (val b0)) (pd (val b0))).natAbs, limbsK (rd (pz (sg t0 (val a0)) (val b0)) (pd (val b0))), ()) else none := by kernel_rfl
theorem pRNorm_e (n0 : Nat) (t0 : Bool) (a0 b0 : List Nat) (c0 : capN a0 = true) (d0 : capN b0 = true) : EF fuel (n0 + 1) 56 [.o (.agg [⟨.bool, t0⟩, ⟨.nat, a0⟩, ⟨.nat, b0⟩])] [.agg [.bool, .nat, .nat]] = some (decide (rn (pz (sg t0 (val a0)) (val b0)) (pd (val b0)) < 0), limbsK (rn (pz (sg t0 (val a0)) (val b0)) (pd (val b0))).natAbs, limbsK (rd (pz (sg t0 (val a0)) (val b0)) (pd (val b0))), ()) := by
  rw [pRNorm_k]
  simp only [c0, d0, Bool.and_self, Bool.and_true, cond_true]
  try rfl
theorem pRPrint_k (n0 : Nat) (t0 : Bool) (a0 b0 : List Nat) : EF fuel (n0 + 1) 27 [.o (.agg [⟨.bool, t0⟩, ⟨.nat, a0⟩, ⟨.nat, b0⟩])] [.c .str] = bif (capN a0 && capN b0) && true then some (ratK (rn (pz (sg t0 (val a0)) (val b0)) (pd (val b0))) (rd (pz (sg t0 (val a0)) (val b0)) (pd (val b0))), ()) else none := by kernel_rfl
theorem pRPrint_e (n0 : Nat) (t0 : Bool) (a0 b0 : List Nat) (c0 : capN a0 = true) (d0 : capN b0 = true) : EF fuel (n0 + 1) 27 [.o (.agg [⟨.bool, t0⟩, ⟨.nat, a0⟩, ⟨.nat, b0⟩])] [.c .str] = some (ratK (rn (pz (sg t0 (val a0)) (val b0)) (pd (val b0))) (rd (pz (sg t0 (val a0)) (val b0)) (pd (val b0))), ()) := by
  rw [pRPrint_k]
  simp only [c0, d0, Bool.and_self, Bool.and_true, cond_true]
  try rfl
end Go.Proofs.YtcggnmddcbhchaaGreatDoor
