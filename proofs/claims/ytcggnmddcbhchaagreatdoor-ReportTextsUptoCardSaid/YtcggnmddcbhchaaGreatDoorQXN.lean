import Derived.Test.YtcggnmddcbhchaaGreatDoorQXL
import Derived.Test.YtcggnmddcbhchaaGreatDoorQWz
/- Text XN. -/
set_option linter.unusedSimpArgs false
set_option linter.unusedVariables false
namespace Go.Proofs.YtcggnmddcbhchaaGreatDoor
open Go.RowKit Lim
def capD (l : List Nat) : Bool := l.all (fun x => Nat.blt x 4294967296) && Nat.ble l.length 1048600
theorem capD_of {l : List Nat} (h : capD l = true) : Dig l ∧ l.length ≤ 1048600 := by
  obtain ⟨h1, h2⟩ := band_of h
  exact ⟨fun x hx => blt_of (List.all_eq_true.1 h1 x hx), ble_of h2⟩
theorem capD_ok {l : List Nat} (h1 : Dig l) (h2 : l.length ≤ 1048600) : capD l = true := by
  unfold capD
  rw [Bool.and_eq_true]
  exact ⟨List.all_eq_true.2 fun x hx => Nat.ble_eq_true_of_le (h1 x hx), Nat.ble_eq_true_of_le h2⟩
theorem u_cap {z : Int} (h1 : decide (0 < z) = true) (h2 : decide (z < 4294967296) = true) : ∃ k : Nat, z = (k : Int) ∧ 0 < k ∧ k < 4294967296 := by
  have h1 := of_decide_eq_true h1
  have h2 := of_decide_eq_true h2
  exact ⟨z.toNat, by omega, by omega, by omega⟩
theorem dn_cap {l : List Nat} (h : capD l = true) : DN (.nat l) (val l) := by
  obtain ⟨h1, h2⟩ := capD_of h
  exact ⟨l, rfl, h1, rfl, by omega⟩
theorem di_cap {t : Bool} {l : List Nat} (h : capD l = true) : DI (.agg [boo t, .nat l]) (sg t (val l)) := by
  obtain ⟨h1, h2⟩ := capD_of h
  exact ⟨t, l, rfl, h1, rfl, by omega⟩
theorem dr_cap {t : Bool} {l m : List Nat} (h : capD l = true) (h' : capD m = true) : DR (.agg [boo t, .nat l, .nat m]) (sg t (val l)) (val m) := by
  obtain ⟨h1, h2⟩ := capD_of h
  obtain ⟨h3, h4⟩ := capD_of h'
  exact ⟨t, l, m, rfl, h1, h3, rfl, rfl, by omega, by omega⟩
def pd1Norm_o : List V → Bool
  | [.o (.c ⟨.nat, a0⟩)] => capD a0
  | _ => false
def pd1Norm_r : List V → Option (List V0)
  | [.o (.c ⟨.nat, a0⟩)] => some [.c ⟨.nat, limbsK (val a0)⟩]
  | _ => none
theorem pd1Norm_p : Prim.OK 133 ⟨true, pd1Norm_o, pd1Norm_r⟩ := by
  intro args l h h2
  simp only [pd1Norm_r] at h2
  split at h2
  · rename_i a0
    cases h2
    simp only [pd1Norm_o, Bool.and_eq_true] at h
    refine ⟨fun _ => ?_, fun ht => by cases ht⟩
    (try simp only [limbsK_eq])
    obtain ⟨d0, l0⟩ := capD_of h
    exact r1norm_c a0 d0 (by omega)
  · cases h2
def pd1Of_o : List V → Bool
  | [.o (.c ⟨.int .u64, z0⟩)] => capU z0
  | _ => false
def pd1Of_r : List V → Option (List V0)
  | [.o (.c ⟨.int .u64, z0⟩)] => some [.c ⟨.nat, limbsK (z0.toNat)⟩]
  | _ => none
theorem pd1Of_p : Prim.OK 72 ⟨true, pd1Of_o, pd1Of_r⟩ := by
  intro args l h h2
  simp only [pd1Of_r] at h2
  split at h2
  · rename_i z0
    cases h2
    simp only [pd1Of_o, Bool.and_eq_true] at h
    refine ⟨fun _ => ?_, fun ht => by cases ht⟩
    (try simp only [limbsK_eq])
    obtain ⟨k, rfl, hk⟩ := capU_of h
    exact r1of_c k hk
  · cases h2
def pd1Cmp_o : List V → Bool
  | [.o (.c ⟨.nat, a0⟩), .o (.c ⟨.nat, a1⟩)] => capD a0 && capD a1
  | _ => false
def pd1Cmp_r : List V → Option (List V0)
  | [.o (.c ⟨.nat, a0⟩), .o (.c ⟨.nat, a1⟩)] => some [.c ⟨.int .i64, cmpI (val a0) (val a1)⟩]
  | _ => none
theorem pd1Cmp_p : Prim.OK 71 ⟨true, pd1Cmp_o, pd1Cmp_r⟩ := by
  intro args l h h2
  simp only [pd1Cmp_r] at h2
  split at h2
  · rename_i a0 a1
    cases h2
    simp only [pd1Cmp_o, Bool.and_eq_true] at h
    refine ⟨fun _ => ?_, fun ht => by cases ht⟩
    (try simp only [limbsK_eq])
    obtain ⟨d0, l0⟩ := capD_of h.1
    obtain ⟨d1, l1⟩ := capD_of h.2
    exact r1cmp_c a0 a1 d0 d1 (by omega) (by omega)
  · cases h2
def pd1Short_o : List V → Bool
  | [.o (.c ⟨.nat, a0⟩), .o (.c ⟨.int .u64, z1⟩)] => capD a0 && (decide (0 < z1) && decide (z1 < 4294967296))
  | _ => false
def pd1Short_r : List V → Option (List V0)
  | [.o (.c ⟨.nat, a0⟩), .o (.c ⟨.int .u64, z1⟩)] => some [.c ⟨.nat, limbsK (val a0 / z1.toNat)⟩, .c ⟨.int .u64, ((val a0 % z1.toNat : Nat) : Int)⟩]
  | _ => none
theorem pd1Short_p : Prim.OK 134 ⟨true, pd1Short_o, pd1Short_r⟩ := by
  intro args l h h2
  simp only [pd1Short_r] at h2
  split at h2
  · rename_i a0 z1
    cases h2
    simp only [pd1Short_o, Bool.and_eq_true] at h
    refine ⟨fun _ => ?_, fun ht => by cases ht⟩
    (try simp only [limbsK_eq])
    obtain ⟨d0, l0⟩ := capD_of h.1
    obtain ⟨k, rfl, h5, h6⟩ := u_cap h.2.1 h.2.2
    exact r1short_c a0 k d0 (by omega) h5 h6
  · cases h2
def pd2Make_o : List V → Bool
  | [.o (.c ⟨.bool, t0⟩), .o (.c ⟨.nat, a1⟩)] => capD a1
  | _ => false
def pd2Norm_o : List V → Bool
  | [.o (.agg [⟨.bool, t0⟩, ⟨.nat, a0⟩])] => capD a0
  | _ => false
def pd2Norm_r : List V → Option (List V0)
  | [.o (.agg [⟨.bool, t0⟩, ⟨.nat, a0⟩])] => some [.agg [⟨.bool, decide ((sg t0 (val a0)) < 0)⟩, ⟨.nat, limbsK (sg t0 (val a0)).natAbs⟩]]
  | _ => none
theorem pd2Norm_p : Prim.OK 115 ⟨true, pd2Norm_o, pd2Norm_r⟩ := by
  intro args l h h2
  simp only [pd2Norm_r] at h2
  split at h2
  · rename_i t0 a0
    cases h2
    simp only [pd2Norm_o, Bool.and_eq_true] at h
    refine ⟨fun _ => ?_, fun ht => by cases ht⟩
    (try simp only [limbsK_eq])
    exact r2norm_c (di_cap h)
  · cases h2
def pd2Of_o : List V → Bool
  | [.o (.c ⟨.int .i64, z0⟩)] => capI z0
  | _ => false
def pd2Of_r : List V → Option (List V0)
  | [.o (.c ⟨.int .i64, z0⟩)] => some [.agg [⟨.bool, decide ((z0) < 0)⟩, ⟨.nat, limbsK (z0).natAbs⟩]]
  | _ => none
theorem pd2Of_p : Prim.OK 70 ⟨true, pd2Of_o, pd2Of_r⟩ := by
  intro args l h h2
  simp only [pd2Of_r] at h2
  split at h2
  · rename_i z0
    cases h2
    simp only [pd2Of_o, Bool.and_eq_true] at h
    refine ⟨fun _ => ?_, fun ht => by cases ht⟩
    (try simp only [limbsK_eq])
    obtain ⟨h1, h2⟩ := capI_of h
    exact r2of_c z0 h1 h2
  · cases h2
def pd3Top_o : List V → Bool
  | [.o (.agg [⟨.bool, t0⟩, ⟨.nat, a0⟩, ⟨.nat, b0⟩])] => capD a0 && capD b0
  | _ => false
def pd3Top_r : List V → Option (List V0)
  | [.o (.agg [⟨.bool, t0⟩, ⟨.nat, a0⟩, ⟨.nat, b0⟩])] => some [.agg [⟨.bool, decide ((pz (sg t0 (val a0)) (val b0)) < 0)⟩, ⟨.nat, limbsK (pz (sg t0 (val a0)) (val b0)).natAbs⟩]]
  | _ => none
theorem pd3Top_p : Prim.OK 76 ⟨true, pd3Top_o, pd3Top_r⟩ := by
  intro args l h h2
  simp only [pd3Top_r] at h2
  split at h2
  · rename_i t0 a0 b0
    cases h2
    simp only [pd3Top_o, Bool.and_eq_true] at h
    refine ⟨fun _ => ?_, fun ht => by cases ht⟩
    (try simp only [limbsK_eq])
    exact r3top_c (dr_cap h.1 h.2)
  · cases h2
def pd3Low_o : List V → Bool
  | [.o (.agg [⟨.bool, t0⟩, ⟨.nat, a0⟩, ⟨.nat, b0⟩])] => capD a0 && capD b0
  | _ => false
def pd3Low_r : List V → Option (List V0)
  | [.o (.agg [⟨.bool, t0⟩, ⟨.nat, a0⟩, ⟨.nat, b0⟩])] => some [.c ⟨.nat, limbsK (pd (val b0))⟩]
  | _ => none
theorem pd3Low_p : Prim.OK 132 ⟨true, pd3Low_o, pd3Low_r⟩ := by
  intro args l h h2
  simp only [pd3Low_r] at h2
  split at h2
  · rename_i t0 a0 b0
    cases h2
    simp only [pd3Low_o, Bool.and_eq_true] at h
    refine ⟨fun _ => ?_, fun ht => by cases ht⟩
    (try simp only [limbsK_eq])
    exact r3low_c (dr_cap h.1 h.2)
  · cases h2
def pd3Red_o : List V → Bool
  | [.o (.agg [⟨.bool, t0⟩, ⟨.nat, a0⟩]), .o (.c ⟨.nat, a1⟩)] => capD a0 && capD a1 && Nat.blt 0 (val a1)
  | _ => false
def pd3Red_r : List V → Option (List V0)
  | [.o (.agg [⟨.bool, t0⟩, ⟨.nat, a0⟩]), .o (.c ⟨.nat, a1⟩)] => some [.agg [⟨.bool, decide ((rn (sg t0 (val a0)) (val a1)) < 0)⟩, ⟨.nat, limbsK (rn (sg t0 (val a0)) (val a1)).natAbs⟩, ⟨.nat, limbsK (rd (sg t0 (val a0)) (val a1))⟩]]
  | _ => none
theorem pd3Red_p : Prim.OK 131 ⟨true, pd3Red_o, pd3Red_r⟩ := by
  intro args l h h2
  simp only [pd3Red_r] at h2
  split at h2
  · rename_i t0 a0 a1
    cases h2
    simp only [pd3Red_o, Bool.and_eq_true] at h
    refine ⟨fun _ => ?_, fun ht => by cases ht⟩
    (try simp only [limbsK_eq])
    exact r3reduce_c (di_cap h.1.1) (dn_cap h.1.2) (blt_of h.2)
  · cases h2
def pd3Sign_o : List V → Bool
  | [.o (.agg [⟨.bool, t0⟩, ⟨.nat, a0⟩, ⟨.nat, b0⟩])] => capD a0 && capD b0
  | _ => false
def pd3Sign_r : List V → Option (List V0)
  | [.o (.agg [⟨.bool, t0⟩, ⟨.nat, a0⟩, ⟨.nat, b0⟩])] => some [.c ⟨.int .i64, sgnI (pz (sg t0 (val a0)) (val b0))⟩]
  | _ => none
theorem pd3Sign_p : Prim.OK 34 ⟨true, pd3Sign_o, pd3Sign_r⟩ := by
  intro args l h h2
  simp only [pd3Sign_r] at h2
  split at h2
  · rename_i t0 a0 b0
    cases h2
    simp only [pd3Sign_o, Bool.and_eq_true] at h
    refine ⟨fun _ => ?_, fun ht => by cases ht⟩
    (try simp only [limbsK_eq])
    exact r3sign_c (dr_cap h.1 h.2)
  · cases h2
end Go.Proofs.YtcggnmddcbhchaaGreatDoor
