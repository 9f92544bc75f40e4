import Derived.Test.YtcggnmddcbhchaaGreatDoorUXP
import Derived.Test.YtcggnmddcbhchaaGreatDoorUXL
/- Texts merged: XJ XQ XR XS XU XN. -/
set_option linter.unusedSimpArgs false
set_option linter.unusedVariables false
namespace Go.Proofs.YtcggnmddcbhchaaGreatDoor
open Go.RowKit Lim
theorem eqv_self : ∀ t : VT, VT.eqv t t = some ⟨rfl⟩
 | .int k => by simp [VT.eqv]
 | .bool => rfl
 | .str => rfl
 | .byte => rfl
 | .nat => rfl
 | .natz => rfl
 | .sl k e => by simp [VT.eqv, eqv_self e]
 | .slz k e => by simp [VT.eqv, eqv_self e]
 | .unit => rfl
 | .pair a b => by simp [VT.eqv, eqv_self a, eqv_self b]
 | .raw => rfl
theorem eqvL_self : ∀ ts : List VT, eqvL ts ts = some ⟨rfl⟩
 | [] => rfl
 | t :: ts => by simp [eqvL, eqv_self t, eqvL_self ts]
theorem castL_self (ts : List VT) (x : denL ts) : castL ts ts x = some x := by simp [castL, eqvL_self]
def Ans.out {R : Type} (dp : Nat) : Ans R → Bool
 | .ret _ => true
 | .cont d _ _ => !Nat.beq d dp
section
variable {R : Type} {dp : Nat} {ts : List VT} {step : denL ts → Option (Ans R)}
theorem loopA_go {n : Nat} {x y : denL ts} (h : step x = some (.cont dp ts y)) : loopA dp ts step (n + 1) x = loopA dp ts step n y := by
 rw [loopA_succ, h]
 simp only [Option.bind_some, Nat.beq_refl, cond_true, castL_self]
theorem loopA_end {n : Nat} {x : denL ts} {a : Ans R} (h : step x = some a) (ha : a.out dp = true) : loopA dp ts step (n + 1) x = some a := by
 rw [loopA_succ, h]
 cases a with
 | ret r => rfl
 | cont d us y =>
  simp only [Ans.out, Bool.not_eq_true'] at ha
  simp only [Option.bind_some, ha, cond_false]
theorem loopA_range {N n : Nat} {a : Ans R} (S : Nat → denL ts) (h1 : ∀ k, k < N → step (S k) = some (.cont dp ts (S (k + 1)))) (h2 : step (S N) = some a) (ha : a.out dp = true) (hn : N < n) : loopA dp ts step n (S 0) = some a := by
 have key : ∀ j k, k + j = N → ∀ m, j < m → loopA dp ts step m (S k) = some a := by
  intro j
  induction j with
  | zero =>
   intro k hk m hm
   obtain ⟨m, rfl⟩ := Nat.exists_eq_succ_of_ne_zero (show m ≠ 0 by omega)
   have : k = N := by omega
   subst this
   exact loopA_end h2 ha
  | succ j ih =>
   intro k hk m hm
   obtain ⟨m, rfl⟩ := Nat.exists_eq_succ_of_ne_zero (show m ≠ 0 by omega)
   rw [loopA_go (h1 k (by omega))]
   exact ih (k + 1) (by omega) m (by omega)
 exact key N 0 (by omega) n hn
end
theorem fuel_lt {k : Nat} (h : k < 18446744073709551616) : k < fuel := h
theorem ix_get {α : Type} {l : List α} {k : Nat} {x : α} (h : l[k]? = some x) : ix l (k : Int) = some x := by
 unfold ix
 simp [h]
theorem ix_lt {α : Type} {l : List α} {k : Nat} (h : k < l.length) : ix l (k : Int) = some l[k] := ix_get (List.getElem?_eq_getElem h)
theorem w64 {z : Int} (h1 : -9223372036854775808 ≤ z) (h2 : z ≤ 9223372036854775807) : IntKind.wrap .i64 z = z := IntWalk.i64_in _ ⟨by omega, by omega⟩
theorem w64n {k : Nat} (h : k < 9223372036854775807) : IntKind.wrap .i64 ((k : Int) + 1) = ((k + 1 : Nat) : Int) := by rw [w64 (by omega) (by omega)]; omega
theorem capB_le {n b : Nat} (h : n * b ≤ 140737488355328) : capB n b = true := Nat.ble_eq_true_of_le h
theorem strB_le {m n : Nat} (h : m + n ≤ 9223372036854775807) : strB m n = true := Nat.ble_eq_true_of_le h
theorem dlt {k n : Nat} (h : k < n) : decide ((k : Int) < (n : Nat)) = true := by simp; omega
theorem dge {k n : Nat} (h : n ≤ k) : decide ((k : Int) < (n : Nat)) = false := by simp; omega
theorem sub_le {α : Type} {l : List α} {a b : Nat} (h1 : a ≤ b) (h2 : b ≤ l.length) : sub l (a : Int) (b : Int) = some ((l.take b).drop a) := by
 unfold sub
 have : (decide ((0 : Int) ≤ (a : Nat)) && (decide ((a : Int) ≤ (b : Nat)) && decide ((b : Int) ≤ (l.length : Nat)))) = true := by simp; omega
 rw [this]
 rfl
theorem bind_go {α β : Type} {o : Option α} {x : α} {f : α → Option β} (h : o = some x) : o.bind f = f x := by rw [h]; rfl
theorem u64w {z : Int} (h1 : 0 ≤ z) (h2 : z < 18446744073709551616) : IntKind.wrap .u64 z = z := IntWalk.u64_in _ ⟨by omega, by omega⟩
end Go.Proofs.YtcggnmddcbhchaaGreatDoor
set_option linter.unusedSimpArgs false
set_option linter.unusedVariables false
namespace Go.Proofs.YtcggnmddcbhchaaGreatDoor
open Go.RowKit Lim
end Go.Proofs.YtcggnmddcbhchaaGreatDoor
set_option linter.unusedSimpArgs false
set_option linter.unusedVariables false
namespace Go.Proofs.YtcggnmddcbhchaaGreatDoor
open Go.RowKit Lim
theorem getD_some {l : List Nat} {i : Nat} (h : i < l.length) : l[i]? = some (l.getD i 0) := by rw [List.getElem?_eq_getElem h, List.getD_eq_getElem?_getD, List.getElem?_eq_getElem h]; rfl
theorem c0 (j : Nat) : decide (0 ≤ (j : Int)) = true := decide_eq_true (by omega)
section
variable (n : Nat)
end
end Go.Proofs.YtcggnmddcbhchaaGreatDoor
set_option linter.unusedSimpArgs false
set_option linter.unusedVariables false
namespace Go.Proofs.YtcggnmddcbhchaaGreatDoor
open Go.RowKit Lim
section
variable (n : Nat)
end
end Go.Proofs.YtcggnmddcbhchaaGreatDoor
set_option linter.unusedSimpArgs false
set_option linter.unusedVariables false
namespace Go.Proofs.YtcggnmddcbhchaaGreatDoor
open Go.RowKit Lim
section
variable (n : Nat)
end
end Go.Proofs.YtcggnmddcbhchaaGreatDoor
set_option linter.unusedSimpArgs false
set_option linter.unusedVariables false
namespace Go.Proofs.YtcggnmddcbhchaaGreatDoor
open Go.RowKit Lim
end Go.Proofs.YtcggnmddcbhchaaGreatDoor
