import Derived.Test.YtcggnmddcbhchaaGreatDoorQXM
import Derived.Test.YtcggnmddcbhchaaGreatDoorQXI
import Derived.Lib.ItoaLen
import Derived.Test.YtcggnmddcbhchaaGreatDoorQXL
import Derived.Lib.IndexMore
import Derived.Test.YtcggnmddcbhchaaGreatDoorQWa
import Derived.Test.YtcggnmddcbhchaaGreatDoorRows
import Derived.ProofKit
import Derived.OpenShut
import Derived.ChangeArms
import Derived.ChangeSlices
import Derived.Deep.DeepHandedRow
import Derived.Deep.Slices
import Derived.Below
import Derived.Carry
import Derived.ChangeSame
import Derived.Lay
import Derived.MakeChecks
import Derived.Shelf.Vars
import Derived.Lib.LaidTab
import Derived.ChangeBears2
/- Texts merged: XJ Ya Ym Yb Yc Yp Zm XO Zn Yd WSh WSi Ye Zo Yr. -/
set_option linter.unusedSimpArgs false
set_option linter.unusedVariables false
namespace Go.Proofs.YtcggnmddcbhchaaGreatDoor
open Go.RowKit Lim
abbrev cL (a : Bool) (b c : List Nat) (d : Bool) (e f : List Nat) (g h i j k l : Int) : List Ce := [⟨.bool, a⟩, ⟨.nat, b⟩, ⟨.nat, c⟩, ⟨.bool, d⟩, ⟨.nat, e⟩, ⟨.nat, f⟩, ⟨.int .i64, g⟩, ⟨.int .i64, h⟩, ⟨.int .i64, i⟩, ⟨.int .i64, j⟩, ⟨.int .i64, k⟩, ⟨.int .i64, l⟩]
theorem eqv_self : ∀ t : VT, VT.eqv t t = some ⟨rfl⟩
  | .int k => by simp [VT.eqv]
  | .bool => rfl
  | .str => rfl
  | .byte => rfl
  | .nat => rfl
  | .natz => rfl
  | .sl k e => by simp [VT.eqv, eqv_self e]
  | .slz k e => by simp [VT.eqv, eqv_self e]
  | .unit => rfl
  | .pair a b => by simp [VT.eqv, eqv_self a, eqv_self b]
  | .raw => rfl
theorem eqvL_self : ∀ ts : List VT, eqvL ts ts = some ⟨rfl⟩
  | [] => rfl
  | t :: ts => by simp [eqvL, eqv_self t, eqvL_self ts]
theorem castL_self (ts : List VT) (x : denL ts) : castL ts ts x = some x := by simp [castL, eqvL_self]
def Ans.out {R : Type} (dp : Nat) : Ans R → Bool
  | .ret _ => true
  | .cont d _ _ => !Nat.beq d dp
section
variable {R : Type} {dp : Nat} {ts : List VT} {step : denL ts → Option (Ans R)}
theorem loopA_go {n : Nat} {x y : denL ts} (h : step x = some (.cont dp ts y)) : loopA dp ts step (n + 1) x = loopA dp ts step n y := by
  rw [loopA_succ, h]
  simp only [Option.bind_some, Nat.beq_refl, cond_true, castL_self]
theorem loopA_end {n : Nat} {x : denL ts} {a : Ans R} (h : step x = some a) (ha : a.out dp = true) : loopA dp ts step (n + 1) x = some a := by
  rw [loopA_succ, h]
  cases a with
  | ret r => rfl
  | cont d us y =>
    simp only [Ans.out, Bool.not_eq_true'] at ha
    simp only [Option.bind_some, ha, cond_false]
theorem loopA_range {N n : Nat} {a : Ans R} (S : Nat → denL ts) (h1 : ∀ k, k < N → step (S k) = some (.cont dp ts (S (k + 1)))) (h2 : step (S N) = some a) (ha : a.out dp = true) (hn : N < n) : loopA dp ts step n (S 0) = some a := by
  have key : ∀ j k, k + j = N → ∀ m, j < m → loopA dp ts step m (S k) = some a := by
    intro j
    induction j with
    | zero =>
      intro k hk m hm
      obtain ⟨m, rfl⟩ := Nat.exists_eq_succ_of_ne_zero (show m ≠ 0 by omega)
      have : k = N := by omega
      subst this
      exact loopA_end h2 ha
    | succ j ih =>
      intro k hk m hm
      obtain ⟨m, rfl⟩ := Nat.exists_eq_succ_of_ne_zero (show m ≠ 0 by omega)
      rw [loopA_go (h1 k (by omega))]
      exact ih (k + 1) (by omega) m (by omega)
  exact key N 0 (by omega) n hn
theorem loopA_inv {n : Nat} {a : Ans R} (I : denL ts → Prop) (μ : denL ts → Nat) (h : ∀ x, I x → (step x = some a ∧ a.out dp = true) ∨ ∃ y, step x = some (.cont dp ts y) ∧ I y ∧ μ y < μ x) (x : denL ts) (hx : I x) (hn : μ x < n) : loopA dp ts step n x = some a := by
  induction n generalizing x with
  | zero => omega
  | succ n ih =>
    rcases h x hx with ⟨h1, h2⟩ | ⟨y, h1, h2, h3⟩
    · exact loopA_end h1 h2
    · rw [loopA_go h1]
      exact ih y h2 (by omega)
end
theorem fuel_lt {k : Nat} (h : k < 18446744073709551616) : k < fuel := h
theorem w64 {z : Int} (h1 : -9223372036854775808 ≤ z) (h2 : z ≤ 9223372036854775807) : IntKind.wrap .i64 z = z := IntWalk.i64_in _ ⟨by omega, by omega⟩
theorem w64n {k : Nat} (h : k < 9223372036854775807) : IntKind.wrap .i64 ((k : Int) + 1) = ((k + 1 : Nat) : Int) := by rw [w64 (by omega) (by omega)]; omega
theorem capB_le {n b : Nat} (h : n * b ≤ 140737488355328) : capB n b = true := Nat.ble_eq_true_of_le h
theorem strB_le {m n : Nat} (h : m + n ≤ 9223372036854775807) : strB m n = true := Nat.ble_eq_true_of_le h
theorem dlt {k n : Nat} (h : k < n) : decide ((k : Int) < (n : Nat)) = true := by simp; omega
theorem dge {k n : Nat} (h : n ≤ k) : decide ((k : Int) < (n : Nat)) = false := by simp; omega
end Go.Proofs.YtcggnmddcbhchaaGreatDoor
set_option linter.unusedSimpArgs false
set_option linter.unusedVariables false
namespace Go.Proofs.YtcggnmddcbhchaaGreatDoor
open Go.RowKit Lim
theorem bind_go {α β : Type} {o : Option α} {x : α} {f : α → Option β} (h : o = some x) : o.bind f = f x := by rw [h]; rfl
theorem log2_le {a b : Nat} (h : a ≤ b) : Nat.log2 a ≤ Nat.log2 b := by
  by_cases ha : a = 0
  · subst ha; simp
  · have hb : b ≠ 0 := by omega
    exact (Nat.le_log2 hb).2 (Nat.le_trans (Nat.log2_self_le ha) h)
theorem log2_val {l : List Nat} (h : Dig l) : Nat.log2 (val l) ≤ 32 * l.length := by
  by_cases hv : val l = 0
  · rw [hv]; simp
  · have h1 := val_lt h
    have h2 : pw l.length = 2 ^ (32 * l.length) := by unfold pw; rw [Nat.pow_mul]
    rw [h2] at h1
    exact Nat.le_of_lt ((Nat.log2_lt hv).2 h1)
theorem capN_ok {l : List Nat} (hd : Dig l) (hl : l.length ≤ 1073741824) : capN l = true := by
  have := log2_val hd
  unfold capN
  rw [Bool.and_eq_true]
  refine ⟨Nat.ble_eq_true_of_le ?_, Nat.ble_eq_true_of_le ?_⟩ <;> omega
theorem capN_K {n : Nat} (h : Nat.log2 n ≤ 34359738368) : capN (limbsK n) = true := by
  have := nlen_log n
  unfold capN
  rw [Bool.and_eq_true, limbsK_eq, val_limbs]
  refine ⟨Nat.ble_eq_true_of_le ?_, Nat.ble_eq_true_of_le ?_⟩
  · have : (limbs n).length = nlen n := rfl
    omega
  · omega
theorem capN_nil : capN [] = true := by
  unfold capN
  rw [Bool.and_eq_true]
  exact ⟨Nat.ble_eq_true_of_le (by simp), Nat.ble_eq_true_of_le (by rw [val_nil]; simp)⟩
theorem val_K (n : Nat) : val (limbsK n) = n := by rw [limbsK_eq, val_limbs]
theorem capI_ok {z : Int} (h1 : -9223372036854775808 ≤ z) (h2 : z ≤ 9223372036854775807) : capI z = true := by
  unfold capI
  rw [Bool.and_eq_true]
  exact ⟨decide_eq_true h1, decide_eq_true h2⟩
theorem capU_ok {z : Int} (h1 : 0 ≤ z) (h2 : z < 18446744073709551616) : capU z = true := by
  unfold capU
  rw [Bool.and_eq_true]
  exact ⟨decide_eq_true h1, decide_eq_true h2⟩
theorem capR_ok {z : Int} (h1 : 0 ≤ z) (h2 : z ≤ 1048576) : capR z = true := by
  unfold capR
  rw [Bool.and_eq_true]
  exact ⟨decide_eq_true h1, decide_eq_true h2⟩
theorem u64w {z : Int} (h1 : 0 ≤ z) (h2 : z < 18446744073709551616) : IntKind.wrap .u64 z = z := IntWalk.u64_in _ ⟨by omega, by omega⟩
theorem itoaK_len {z : Int} (h1 : -9223372036854775808 ≤ z) (h2 : z ≤ 9223372036854775807) : (itoaK z).length ≤ 21 := by
  rw [itoaK_eq]
  exact Lib.itoa_length_le z h1 h2
theorem strB_s {m n : Nat} (h : m + n ≤ 4294967296) : strB m n = true := strB_le (by omega)
theorem sg_own (z : Int) : sg (decide (z < 0)) z.natAbs = z := by
  unfold sg
  by_cases h : z < 0
  · rw [decide_eq_true h]; simp; omega
  · rw [decide_eq_false h]; simp; omega
structure Q3 where
  t : Bool
  a : List Nat
  b : List Nat
namespace Q3
def z (q : Q3) : Int := pz (sg q.t (val q.a)) (val q.b)
def d (q : Q3) : Nat := pd (val q.b)
structure OK (q : Q3) : Prop where
  da : Dig q.a
  db : Dig q.b
  la : q.a.length ≤ 1048577
  lb : q.b.length ≤ 1048577
theorem OK.ca {q : Q3} (h : q.OK) : capN q.a = true := capN_ok h.da (by have := h.la; omega)
theorem OK.cb {q : Q3} (h : q.OK) : capN q.b = true := capN_ok h.db (by have := h.lb; omega)
theorem d_pos (q : Q3) : 0 < q.d := by unfold d pd; split <;> omega
def eq (p q : Q3) : Bool := decide (p.z * (q.d : Int) = q.z * (p.d : Int))
def n (q : Q3) : Int := rn q.z q.d
def m (q : Q3) : Nat := rd q.z q.d
def tx (q : Q3) : List UInt8 := ratK q.n q.m
def long (q : Q3) : Bool := decide (400 < (decK q.n.natAbs).length) || decide (400 < (decK q.m).length)
theorem n_abs (q : Q3) : q.n.natAbs = q.z.natAbs / Nat.gcd q.z.natAbs q.d := by
  unfold n rn sg
  generalize q.z.natAbs / Nat.gcd q.z.natAbs q.d = k
  split
  · rw [Int.natAbs_neg, Int.natAbs_natCast]
  · rw [Int.natAbs_natCast]
theorem n_le (q : Q3) : q.n.natAbs ≤ val q.a := by
  rw [n_abs]
  refine Nat.le_trans (Nat.div_le_self _ _) ?_
  unfold z pz sg
  split
  · simp
  · split <;> omega
theorem m_le (q : Q3) : q.m ≤ val q.b + 1 := by
  unfold m rd
  refine Nat.le_trans (Nat.div_le_self _ _) ?_
  unfold d pd
  split <;> omega
theorem OK.cn {q : Q3} (h : q.OK) : capN (limbsK q.n.natAbs) = true := capN_K (by
  have h1 := log2_le q.n_le
  have h2 := log2_val h.da
  have h3 := h.la
  omega)
theorem log2_succ (a : Nat) : Nat.log2 (a + 1) ≤ Nat.log2 a + 1 := by
  have h1 : a < 2 ^ (Nat.log2 a + 1) := Nat.lt_log2_self
  by_cases h2 : a + 1 = 0
  · omega
  · have h3 : a + 1 < 2 ^ (Nat.log2 a + 1 + 1) := by rw [Nat.pow_succ]; omega
    have := (Nat.log2_lt h2).2 h3
    omega
theorem OK.cm {q : Q3} (h : q.OK) : capN (limbsK q.m) = true := capN_K (by
  have h1 := log2_le q.m_le
  have h4 := log2_succ (val q.b)
  have h2 := log2_val h.db
  have h3 := h.lb
  omega)
structure Sc (p q : Q3) : Prop where
  ex : ∃ k : Nat, 0 < k ∧ q.z = p.z * (k : Int) ∧ q.d = p.d * k
theorem tx_len {q : Q3} (h : q.long = false) : q.tx.length ≤ 802 := by
  unfold long at h
  rw [Bool.or_eq_false_iff] at h
  have h1 := of_decide_eq_false h.1
  have h2 := of_decide_eq_false h.2
  have h3 : (itoaK q.n).length ≤ 401 := by
    unfold itoaK
    by_cases hn : q.n < 0
    · rw [decide_eq_true hn, cond_true, List.length_cons]; omega
    · rw [decide_eq_false hn, cond_false]
      have : q.n.toNat = q.n.natAbs := by omega
      rw [this]; omega
  unfold tx ratK
  cases Nat.beq q.m 1 with
  | true => rw [cond_true]; omega
  | false => rw [cond_false]; simp only [List.length_append, List.length_cons, List.length_nil]; omega
end Q3
end Go.Proofs.YtcggnmddcbhchaaGreatDoor
set_option linter.unusedSimpArgs false
set_option linter.unusedVariables false
namespace Go.Proofs.YtcggnmddcbhchaaGreatDoor
open Go.RowKit Lim
theorem Print_m {F : Nat} (n0 : Nat) (x0 : Int) (x1_0 : Bool) (x1_1 x1_2 : List Nat) (x1_3 : Bool) (x1_4 x1_5 : List Nat) (x1_6 x1_7 x1_8 x1_9 x1_10 x1_11 : Int) : EF F (n0 + 1) 9 [.o (.c ⟨(.int .i64), x0⟩), .o (.agg (cL x1_0 x1_1 x1_2 x1_3 x1_4 x1_5 x1_6 x1_7 x1_8 x1_9 x1_10 x1_11))] [.c .str, .c (.int .i64)] = unwrapA (bif decide (x0 < 1) then some (.ret ([], 3, ())) else bif decide (9999999 < x0) then some (.ret ([], 3, ())) else (EF F n0 11 [.o (.agg (cL x1_0 x1_1 x1_2 x1_3 x1_4 x1_5 x1_6 x1_7 x1_8 x1_9 x1_10 x1_11))] [.c (tI)]).bind fun x => bif x.1 != 0 then some (.ret ([], x.1, ())) else (EF F n0 24 [.o (.agg [⟨tB, x1_0⟩, ⟨tN, x1_1⟩, ⟨tN, x1_2⟩])] [.c tB]).bind fun x => bif x.1 then some (.ret ([], 5, ())) else (EF F n0 24 [.o (.agg [⟨tB, x1_3⟩, ⟨tN, x1_4⟩, ⟨tN, x1_5⟩])] [.c tB]).bind fun x => bif x.1 then some (.ret ([], 5, ())) else (EF F n0 25 [vI 3, vI x0] [.c tS, .c (tI)]).bind fun x => bif x.2.1 != 0 then some (.ret ([], x.2.1, ())) else bif strB [99, 97, 110, 100, 105, 100, 97, 116, 101, 32].length (List.length x.1) then bif strB ([99, 97, 110, 100, 105, 100, 97, 116, 101, 32] ++ x.1).length [10].length then bif strB ([99, 97, 110, 100, 105, 100, 97, 116, 101, 32] ++ x.1 ++ [10]).length [115, 99, 111, 114, 101, 32].length then (EF F n0 26 [vI x1_8] [.c tS]).bind fun x_1 => bif strB ([99, 97, 110, 100, 105, 100, 97, 116, 101, 32] ++ x.1 ++ [10] ++ [115, 99, 111, 114, 101, 32]).length (List.length x_1.1) then bif strB ([99, 97, 110, 100, 105, 100, 97, 116, 101, 32] ++ x.1 ++ [10] ++ [115, 99, 111, 114, 101, 32] ++ x_1.1).length [10].length then bif strB ([99, 97, 110, 100, 105, 100, 97, 116, 101, 32] ++ x.1 ++ [10] ++ [115, 99, 111, 114, 101, 32] ++ x_1.1 ++ [10]).length [97, 98, 105, 108, 105, 116, 121, 32].length then (EF F n0 27 [.o (.agg [⟨tB, x1_0⟩, ⟨tN, x1_1⟩, ⟨tN, x1_2⟩])] [.c tS]).bind fun x_2 => bif strB ([99, 97, 110, 100, 105, 100, 97, 116, 101, 32] ++ x.1 ++ [10] ++ [115, 99, 111, 114, 101, 32] ++ x_1.1 ++ [10] ++ [97, 98, 105, 108, 105, 116, 121, 32]).length (List.length x_2.1) then bif strB ([99, 97, 110, 100, 105, 100, 97, 116, 101, 32] ++ x.1 ++ [10] ++ [115, 99, 111, 114, 101, 32] ++ x_1.1 ++ [10] ++ [97, 98, 105, 108, 105, 116, 121, 32] ++ x_2.1).length [32, 118, 97, 114, 105, 97, 110, 99, 101, 32].length then (EF F n0 27 [.o (.agg [⟨tB, x1_3⟩, ⟨tN, x1_4⟩, ⟨tN, x1_5⟩])] [.c tS]).bind fun x_3 => bif strB ([99, 97, 110, 100, 105, 100, 97, 116, 101, 32] ++ x.1 ++ [10] ++ [115, 99, 111, 114, 101, 32] ++ x_1.1 ++ [10] ++ [97, 98, 105, 108, 105, 116, 121, 32] ++ x_2.1 ++ [32, 118, 97, 114, 105, 97, 110, 99, 101, 32]).length (List.length x_3.1) then bif strB ([99, 97, 110, 100, 105, 100, 97, 116, 101, 32] ++ x.1 ++ [10] ++ [115, 99, 111, 114, 101, 32] ++ x_1.1 ++ [10] ++ [97, 98, 105, 108, 105, 116, 121, 32] ++ x_2.1 ++ [32, 118, 97, 114, 105, 97, 110, 99, 101, 32] ++ x_3.1).length [10].length then bif strB ([99, 97, 110, 100, 105, 100, 97, 116, 101, 32] ++ x.1 ++ [10] ++ [115, 99, 111, 114, 101, 32] ++ x_1.1 ++ [10] ++ [97, 98, 105, 108, 105, 116, 121, 32] ++ x_2.1 ++ [32, 118, 97, 114, 105, 97, 110, 99, 101, 32] ++ x_3.1 ++ [10]).length [105, 110, 116, 101, 114, 118, 97, 108, 32].length then (EF F n0 26 [vI x1_6] [.c tS]).bind fun x_4 => bif strB ([99, 97, 110, 100, 105, 100, 97, 116, 101, 32] ++ x.1 ++ [10] ++ [115, 99, 111, 114, 101, 32] ++ x_1.1 ++ [10] ++ [97, 98, 105, 108, 105, 116, 121, 32] ++ x_2.1 ++ [32, 118, 97, 114, 105, 97, 110, 99, 101, 32] ++ x_3.1 ++ [10] ++ [105, 110, 116, 101, 114, 118, 97, 108, 32]).length (List.length x_4.1) then bif strB ([99, 97, 110, 100, 105, 100, 97, 116, 101, 32] ++ x.1 ++ [10] ++ [115, 99, 111, 114, 101, 32] ++ x_1.1 ++ [10] ++ [97, 98, 105, 108, 105, 116, 121, 32] ++ x_2.1 ++ [32, 118, 97, 114, 105, 97, 110, 99, 101, 32] ++ x_3.1 ++ [10] ++ [105, 110, 116, 101, 114, 118, 97, 108, 32] ++ x_4.1).length [32].length then (EF F n0 26 [vI x1_7] [.c tS]).bind fun x_5 => bif strB ([99, 97, 110, 100, 105, 100, 97, 116, 101, 32] ++ x.1 ++ [10] ++ [115, 99, 111, 114, 101, 32] ++ x_1.1 ++ [10] ++ [97, 98, 105, 108, 105, 116, 121, 32] ++ x_2.1 ++ [32, 118, 97, 114, 105, 97, 110, 99, 101, 32] ++ x_3.1 ++ [10] ++ [105, 110, 116, 101, 114, 118, 97, 108, 32] ++ x_4.1 ++ [32]).length (List.length x_5.1) then bif strB ([99, 97, 110, 100, 105, 100, 97, 116, 101, 32] ++ x.1 ++ [10] ++ [115, 99, 111, 114, 101, 32] ++ x_1.1 ++ [10] ++ [97, 98, 105, 108, 105, 116, 121, 32] ++ x_2.1 ++ [32, 118, 97, 114, 105, 97, 110, 99, 101, 32] ++ x_3.1 ++ [10] ++ [105, 110, 116, 101, 114, 118, 97, 108, 32] ++ x_4.1 ++ [32] ++ x_5.1).length [10].length then bif strB ([99, 97, 110, 100, 105, 100, 97, 116, 101, 32] ++ x.1 ++ [10] ++ [115, 99, 111, 114, 101, 32] ++ x_1.1 ++ [10] ++ [97, 98, 105, 108, 105, 116, 121, 32] ++ x_2.1 ++ [32, 118, 97, 114, 105, 97, 110, 99, 101, 32] ++ x_3.1 ++ [10] ++ [105, 110, 116, 101, 114, 118, 97, 108, 32] ++ x_4.1 ++ [32] ++ x_5.1 ++ [10]).length [105, 116, 101, 109, 115, 32].length then (EF F n0 26 [vI x1_11] [.c tS]).bind fun x_6 => bif strB ([99, 97, 110, 100, 105, 100, 97, 116, 101, 32] ++ x.1 ++ [10] ++ [115, 99, 111, 114, 101, 32] ++ x_1.1 ++ [10] ++ [97, 98, 105, 108, 105, 116, 121, 32] ++ x_2.1 ++ [32, 118, 97, 114, 105, 97, 110, 99, 101, 32] ++ x_3.1 ++ [10] ++ [105, 110, 116, 101, 114, 118, 97, 108, 32] ++ x_4.1 ++ [32] ++ x_5.1 ++ [10] ++ [105, 116, 101, 109, 115, 32]).length (List.length x_6.1) then bif strB ([99, 97, 110, 100, 105, 100, 97, 116, 101, 32] ++ x.1 ++ [10] ++ [115, 99, 111, 114, 101, 32] ++ x_1.1 ++ [10] ++ [97, 98, 105, 108, 105, 116, 121, 32] ++ x_2.1 ++ [32, 118, 97, 114, 105, 97, 110, 99, 101, 32] ++ x_3.1 ++ [10] ++ [105, 110, 116, 101, 114, 118, 97, 108, 32] ++ x_4.1 ++ [32] ++ x_5.1 ++ [10] ++ [105, 116, 101, 109, 115, 32] ++ x_6.1).length [32].length then (EF F n0 13 [vI x1_10] [.c tS]).bind fun x_7 => bif strB ([99, 97, 110, 100, 105, 100, 97, 116, 101, 32] ++ x.1 ++ [10] ++ [115, 99, 111, 114, 101, 32] ++ x_1.1 ++ [10] ++ [97, 98, 105, 108, 105, 116, 121, 32] ++ x_2.1 ++ [32, 118, 97, 114, 105, 97, 110, 99, 101, 32] ++ x_3.1 ++ [10] ++ [105, 110, 116, 101, 114, 118, 97, 108, 32] ++ x_4.1 ++ [32] ++ x_5.1 ++ [10] ++ [105, 116, 101, 109, 115, 32] ++ x_6.1 ++ [32]).length (List.length x_7.1) then bif strB ([99, 97, 110, 100, 105, 100, 97, 116, 101, 32] ++ x.1 ++ [10] ++ [115, 99, 111, 114, 101, 32] ++ x_1.1 ++ [10] ++ [97, 98, 105, 108, 105, 116, 121, 32] ++ x_2.1 ++ [32, 118, 97, 114, 105, 97, 110, 99, 101, 32] ++ x_3.1 ++ [10] ++ [105, 110, 116, 101, 114, 118, 97, 108, 32] ++ x_4.1 ++ [32] ++ x_5.1 ++ [10] ++ [105, 116, 101, 109, 115, 32] ++ x_6.1 ++ [32] ++ x_7.1).length [10].length then bif strB ([99, 97, 110, 100, 105, 100, 97, 116, 101, 32] ++ x.1 ++ [10] ++ [115, 99, 111, 114, 101, 32] ++ x_1.1 ++ [10] ++ [97, 98, 105, 108, 105, 116, 121, 32] ++ x_2.1 ++ [32, 118, 97, 114, 105, 97, 110, 99, 101, 32] ++ x_3.1 ++ [10] ++ [105, 110, 116, 101, 114, 118, 97, 108, 32] ++ x_4.1 ++ [32] ++ x_5.1 ++ [10] ++ [105, 116, 101, 109, 115, 32] ++ x_6.1 ++ [32] ++ x_7.1 ++ [10]).length [101, 115, 115, 97, 121, 32].length then (EF F n0 26 [vI x1_9] [.c tS]).bind fun x_8 => bif strB ([99, 97, 110, 100, 105, 100, 97, 116, 101, 32] ++ x.1 ++ [10] ++ [115, 99, 111, 114, 101, 32] ++ x_1.1 ++ [10] ++ [97, 98, 105, 108, 105, 116, 121, 32] ++ x_2.1 ++ [32, 118, 97, 114, 105, 97, 110, 99, 101, 32] ++ x_3.1 ++ [10] ++ [105, 110, 116, 101, 114, 118, 97, 108, 32] ++ x_4.1 ++ [32] ++ x_5.1 ++ [10] ++ [105, 116, 101, 109, 115, 32] ++ x_6.1 ++ [32] ++ x_7.1 ++ [10] ++ [101, 115, 115, 97, 121, 32]).length (List.length x_8.1) then bif strB ([99, 97, 110, 100, 105, 100, 97, 116, 101, 32] ++ x.1 ++ [10] ++ [115, 99, 111, 114, 101, 32] ++ x_1.1 ++ [10] ++ [97, 98, 105, 108, 105, 116, 121, 32] ++ x_2.1 ++ [32, 118, 97, 114, 105, 97, 110, 99, 101, 32] ++ x_3.1 ++ [10] ++ [105, 110, 116, 101, 114, 118, 97, 108, 32] ++ x_4.1 ++ [32] ++ x_5.1 ++ [10] ++ [105, 116, 101, 109, 115, 32] ++ x_6.1 ++ [32] ++ x_7.1 ++ [10] ++ [101, 115, 115, 97, 121, 32] ++ x_8.1).length [10].length then some (.ret ([99, 97, 110, 100, 105, 100, 97, 116, 101, 32] ++ x.1 ++ [10] ++ [115, 99, 111, 114, 101, 32] ++ x_1.1 ++ [10] ++ [97, 98, 105, 108, 105, 116, 121, 32] ++ x_2.1 ++ [32, 118, 97, 114, 105, 97, 110, 99, 101, 32] ++ x_3.1 ++ [10] ++ [105, 110, 116, 101, 114, 118, 97, 108, 32] ++ x_4.1 ++ [32] ++ x_5.1 ++ [10] ++ [105, 116, 101, 109, 115, 32] ++ x_6.1 ++ [32] ++ x_7.1 ++ [10] ++ [101, 115, 115, 97, 121, 32] ++ x_8.1 ++ [10], 0, ())) else none else none else none else none else none else none else none else none else none else none else none else none else none else none else none else none else none else none else none else none else none else none else none) := by kernel_rfl
theorem Valid_m {F : Nat} (n0 : Nat) (x0_0 : Bool) (x0_1 x0_2 : List Nat) (x0_3 : Bool) (x0_4 x0_5 : List Nat) (x0_6 x0_7 x0_8 x0_9 x0_10 x0_11 : Int) : EF F (n0 + 1) 11 [.o (.agg (cL x0_0 x0_1 x0_2 x0_3 x0_4 x0_5 x0_6 x0_7 x0_8 x0_9 x0_10 x0_11))] [.c (.int .i64)] = unwrapA ((EF F n0 32 [.o (.agg [⟨tB, x0_3⟩, ⟨tN, x0_4⟩, ⟨tN, x0_5⟩])] [.c (tI)]).bind fun x => bif decide (x.1 < 0) then some (.ret (3, ())) else (EF F n0 33 [vI x0_6, vI 1000] [.c tB]).bind fun x => bif x.1 then some (.ret (3, ())) else (EF F n0 33 [vI x0_7, vI 1000] [.c tB]).bind fun x => bif x.1 then some (.ret (3, ())) else (EF F n0 33 [vI x0_8, vI 1000000] [.c tB]).bind fun x => bif x.1 then some (.ret (3, ())) else bif decide (x0_9 < 0) then some (.ret (3, ())) else bif decide (1000000 < x0_9) then some (.ret (3, ())) else bif decide (x0_11 < 0) then some (.ret (3, ())) else bif decide (18 < x0_11) then some (.ret (3, ())) else bif decide (x0_7 < x0_6) then some (.ret (23, ())) else bif decide (x0_10 < 0) then some (.ret (1, ())) else bif decide (4 < x0_10) then some (.ret (1, ())) else some (.ret (0, ()))) := by kernel_rfl
theorem Reason_m {F : Nat} (n0 : Nat) (x0 : Int) : EF F (n0 + 1) 13 [.o (.c ⟨(.int .i64), x0⟩)] [.c .str] = unwrapA (bif x0 == 0 then some (.ret ([103, 111, 105, 110, 103], ())) else bif x0 == 1 then some (.ret ([108, 101, 110, 103, 116, 104], ())) else bif x0 == 2 then some (.ret ([112, 114, 101, 99, 105, 115, 105, 111, 110], ())) else bif x0 == 3 then some (.ret ([99, 108, 97, 115, 115], ())) else bif x0 == 4 then some (.ret ([101, 110, 100, 101, 100], ())) else some (.ret ([], ()))) := by kernel_rfl
theorem long_m {F : Nat} (n0 : Nat) (x0_0 : Bool) (x0_1 x0_2 : List Nat) : EF F (n0 + 1) 24 [.o (.agg [⟨.bool, x0_0⟩, ⟨.nat, x0_1⟩, ⟨.nat, x0_2⟩])] [.c .bool] = unwrapA ((EF F n0 56 [.o (.agg [⟨tB, x0_0⟩, ⟨tN, x0_1⟩, ⟨tN, x0_2⟩])] [.agg [tB, tN, tN]]).bind fun x => (EF F n0 57 [vN x.2.1] [.c tS]).bind fun x_1 => bif decide (400 < (Nat.cast (R := Int) (List.length x_1.1))) then some (.ret (true, ())) else (EF F n0 57 [vN x.2.2.1] [.c tS]).bind fun x => some (.ret (decide (400 < (Nat.cast (R := Int) (List.length x.1))), ()))) := by kernel_rfl
theorem identPrint_m {F : Nat} (n0 : Nat) (x0 x1 : Int) : EF F (n0 + 1) 25 [.o (.c ⟨(.int .i64), x0⟩), .o (.c ⟨(.int .i64), x1⟩)] [.c .str, .c (.int .i64)] = unwrapA ((EF F n0 58 [vI x0, vI x1] [.c (tI), .c (tI)]).bind fun x => bif x.2.1 != 0 then some (.ret ([], x.2.1, ())) else bif decide (0 ≤ IntKind.i64.wrap (x0 - 1)) && decide ((IntKind.i64.wrap (x0 - 1)).toNat < 6) then ([[73, 84, 77], [70, 82, 77], [67, 65, 78], [83, 69, 83], [82, 65, 84], [65, 83, 84]] : List (List UInt8))[0 + (IntKind.i64.wrap (x0 - 1)).toNat * 1]?.bind fun y => bif strB y.length [45].length then (EF F n0 59 [vI x1, vI 7] [.c tS]).bind fun x_1 => bif strB (y ++ [45]).length (List.length x_1.1) then bif strB (y ++ [45] ++ x_1.1).length [45].length then (EF F n0 59 [vI x.1, vI 2] [.c tS]).bind fun x => bif strB (y ++ [45] ++ x_1.1 ++ [45]).length (List.length x.1) then some (.ret (y ++ [45] ++ x_1.1 ++ [45] ++ x.1, 0, ())) else none else none else none else none else none) := by kernel_rfl
theorem number_m {F : Nat} (n0 : Nat) (x0 : Int) : EF F (n0 + 1) 26 [.o (.c ⟨(.int .i64), x0⟩)] [.c .str] = unwrapA ((EF F n0 61 [vI x0] [.agg [tB, tN]]).bind fun x => (EF F n0 60 [.o (.agg [⟨tB, x.1⟩, ⟨tN, x.2.1⟩])] [.c tS]).bind fun x => some (.ret (x.1, ()))) := by kernel_rfl
theorem Sign_m {F : Nat} (n0 : Nat) (x0_0 : Bool) (x0_1 x0_2 : List Nat) : EF F (n0 + 1) 32 [.o (.agg [⟨.bool, x0_0⟩, ⟨.nat, x0_1⟩, ⟨.nat, x0_2⟩])] [.c (.int .i64)] = unwrapA ((EF F n0 73 [.o (.agg [⟨tB, x0_0⟩, ⟨tN, x0_1⟩, ⟨tN, x0_2⟩])] [.agg [tB, tN], .c tN]).bind fun x => (EF F n0 74 [.o (.agg [⟨tB, x.1⟩, ⟨tN, x.2.1⟩])] [.c (tI)]).bind fun x => some (.ret (x.1, ()))) := by kernel_rfl
theorem beyond_m {F : Nat} (n0 : Nat) (x0 x1 : Int) : EF F (n0 + 1) 33 [.o (.c ⟨(.int .i64), x0⟩), .o (.c ⟨(.int .i64), x1⟩)] [.c .bool] = unwrapA (bif decide (x0 < IntKind.i64.wrap (0 - x1)) then some (.ret (true, ())) else some (.ret (decide (x1 < x0), ()))) := by kernel_rfl
theorem identCheck_m {F : Nat} (n0 : Nat) (x0 x1 : Int) : EF F (n0 + 1) 58 [.o (.c ⟨(.int .i64), x0⟩), .o (.c ⟨(.int .i64), x1⟩)] [.c (.int .i64), .c (.int .i64)] = unwrapA (bif decide (x0 < 1) then some (.ret (0, 1, ())) else bif decide (6 < x0) then some (.ret (0, 1, ())) else bif decide (x1 < 1) then some (.ret (0, 3, ())) else bif decide (9999999 < x1) then some (.ret (0, 3, ())) else (EF F n0 128 [vI x0, vI x1] [.c (tI)]).bind fun x => some (.ret (x.1, 0, ()))) := by kernel_rfl
theorem pad_m {F : Nat} (n0 : Nat) (x0 x1 : Int) : EF F (n0 + 1) 59 [.o (.c ⟨(.int .i64), x0⟩), .o (.c ⟨(.int .i64), x1⟩)] [.c .str] = unwrapA ((EF F n0 100 [vI x0] [.c tS]).bind fun x => (EF F n0 129 [vS [48], vI (maxI2 (IntKind.i64.wrap (x1 - (Nat.cast (R := Int) (List.length x.1)))) 0)] [.c tS]).bind fun x_1 => bif strB (List.length x_1.1) (List.length x.1) then some (.ret (x_1.1 ++ x.1, ())) else none) := by kernel_rfl
theorem parts_m {F : Nat} (n0 : Nat) (x0_0 : Bool) (x0_1 x0_2 : List Nat) : EF F (n0 + 1) 73 [.o (.agg [⟨.bool, x0_0⟩, ⟨.nat, x0_1⟩, ⟨.nat, x0_2⟩])] [.agg [.bool, .nat], .c .nat] = unwrapA ((EF F n0 62 [vN x0_2, vN ([])] [.c (tI)]).bind fun x => bif x.1 == 0 then (EF F n0 63 [.o (.c ⟨VT.int IntKind.u64, 1⟩)] [.c tN]).bind fun x => some (.ret (false, [], x.1, ())) else some (.ret (x0_0, x0_1, x0_2, ()))) := by kernel_rfl
theorem checkDigits_m {F : Nat} (n0 : Nat) (x0 x1 : Int) : EF F (n0 + 1) 128 [.o (.c ⟨(.int .i64), x0⟩), .o (.c ⟨(.int .i64), x1⟩)] [.c (.int .i64)] = unwrapA (some (.ret (IntKind.i64.wrap (98 - (IntKind.i64.wrap (IntKind.i64.wrap (IntKind.i64.wrap (x0 * 10000000) + x1) * 100)).tmod 97), ()))) := by kernel_rfl
end Go.Proofs.YtcggnmddcbhchaaGreatDoor
set_option linter.unusedSimpArgs false
set_option linter.unusedVariables false
namespace Go.Proofs.YtcggnmddcbhchaaGreatDoor
open Go.RowKit Lim
structure Res where
  m : Q3
  v : Q3
  lo : Int
  hi : Int
  sc : Int
  es : Int
  st : Int
  sp : Int
abbrev vQ (q : Q3) : V := .o (.agg [⟨.bool, q.t⟩, ⟨.nat, q.a⟩, ⟨.nat, q.b⟩])
abbrev vR (r : Res) : V := .o (.agg [⟨.bool, r.m.t⟩, ⟨.nat, r.m.a⟩, ⟨.nat, r.m.b⟩, ⟨.bool, r.v.t⟩, ⟨.nat, r.v.a⟩, ⟨.nat, r.v.b⟩, ⟨.int .i64, r.lo⟩, ⟨.int .i64, r.hi⟩, ⟨.int .i64, r.sc⟩, ⟨.int .i64, r.es⟩, ⟨.int .i64, r.st⟩, ⟨.int .i64, r.sp⟩])
abbrev gQ : Sig := [.agg [.bool, .nat, .nat]]
abbrev gP : Sig := [.c .str, .c (.int .i64)]
def in64 (z : Int) : Prop := -9223372036854775808 ≤ z ∧ z ≤ 9223372036854775807
theorem in64.cap {z : Int} (h : in64 z) : capI z = true := capI_ok h.1 h.2
structure Res.OK (r : Res) : Prop where
  m : r.m.OK
  v : r.v.OK
  lo : in64 r.lo
  hi : in64 r.hi
  sc : in64 r.sc
  es : in64 r.es
  st : in64 r.st
  sp : in64 r.sp
section
variable (n : Nat)
theorem parts_e (q : Q3) (h : q.OK) : EF fuel (n + 2) 73 [vQ q] [.agg [.bool, .nat], .c .nat] = some (if val q.b = 0 then (false, [], limbsK 1, ()) else (q.t, q.a, q.b, ())) := by
  refine (parts_m (n + 1) q.t q.a q.b).trans ?_
  rw [bind_go (pNCmp_e n q.b [] h.cb capN_nil)]
  have e : (cmpI (val q.b) (val []) == 0) = decide (val q.b = 0) := by
    rw [val_nil]
    unfold cmpI
    by_cases hb : val q.b = 0
    · rw [hb]; rfl
    · rw [if_neg (by omega), if_pos (by omega), decide_eq_false hb]; rfl
  rw [e]
  by_cases hb : val q.b = 0
  · rw [decide_eq_true hb, cond_true, if_pos hb, pNOf_e n 1 (capU_ok (by omega) (by omega))]; rfl
  · rw [decide_eq_false hb, cond_false, if_neg hb]; rfl
theorem sign_e (q : Q3) (h : q.OK) : EF fuel (n + 3) 32 [vQ q] gI = some (sgnI q.z, ()) := by
  refine (Sign_m (n + 2) q.t q.a q.b).trans ?_
  rw [bind_go (parts_e n q h)]
  by_cases hb : val q.b = 0
  · rw [if_pos hb, bind_go (pISign_e (n + 1) false [] capN_nil)]
    unfold Q3.z pz
    rw [if_pos hb, val_nil]; rfl
  · rw [if_neg hb, bind_go (pISign_e (n + 1) q.t q.a h.ca)]
    unfold Q3.z pz
    rw [if_neg hb]; rfl
def beyondB (x m : Int) : Bool := decide (x < -m) || decide (m < x)
theorem beyond_e (x m : Int) (h0 : 0 ≤ m) (h1 : m ≤ 1000000) : EF fuel (n + 1) 33 [vI x, vI m] gB = some (beyondB x m, ()) := by
  refine (beyond_m n x m).trans ?_
  rw [show IntKind.i64.wrap (0 - m) = -m by rw [w64 (by omega) (by omega)]; omega]
  unfold beyondB
  cases decide (x < -m) <;> rfl
def Res.valid (r : Res) : Int :=
  bif decide (sgnI r.v.z < 0) then 3 else bif beyondB r.lo 1000 then 3 else bif beyondB r.hi 1000 then 3 else bif beyondB r.sc 1000000 then 3 else bif decide (r.es < 0) then 3 else bif decide (1000000 < r.es) then 3 else bif decide (r.sp < 0) then 3 else bif decide (18 < r.sp) then 3 else bif decide (r.hi < r.lo) then 23 else bif decide (r.st < 0) then 1 else bif decide (4 < r.st) then 1 else 0
theorem valid_e (r : Res) (h : r.OK) : EF fuel (n + 4) 11 [vR r] gI = some (r.valid, ()) := by
  refine (Valid_m (n + 3) r.m.t r.m.a r.m.b r.v.t r.v.a r.v.b r.lo r.hi r.sc r.es r.st r.sp).trans ?_
  rw [bind_go (sign_e n r.v h.v), bind_go (beyond_e (n + 2) r.lo 1000 (by omega) (by omega)), bind_go (beyond_e (n + 2) r.hi 1000 (by omega) (by omega)), bind_go (beyond_e (n + 2) r.sc 1000000 (by omega) (by omega))]
  unfold Res.valid
  dsimp only
  generalize decide (sgnI r.v.z < 0) = b1
  generalize beyondB r.lo 1000 = b2
  generalize beyondB r.hi 1000 = b3
  generalize beyondB r.sc 1000000 = b4
  generalize decide (r.es < 0) = b5
  generalize decide (1000000 < r.es) = b6
  generalize decide (r.sp < 0) = b7
  generalize decide (18 < r.sp) = b8
  generalize decide (r.hi < r.lo) = b9
  generalize decide (r.st < 0) = c1
  generalize decide (4 < r.st) = c2
  cases b1
  case true => rfl
  cases b2
  case true => rfl
  cases b3
  case true => rfl
  cases b4
  case true => rfl
  cases b5
  case true => rfl
  cases b6
  case true => rfl
  cases b7
  case true => rfl
  cases b8
  case true => rfl
  cases b9
  case true => rfl
  cases c1
  case true => rfl
  cases c2 <;> rfl
theorem norm_e (q : Q3) (h : q.OK) : EF fuel (n + 1) 56 [vQ q] gQ = some (decide (q.n < 0), limbsK q.n.natAbs, limbsK q.m, ()) := pRNorm_e n q.t q.a q.b h.ca h.cb
theorem long_e (q : Q3) (h : q.OK) : EF fuel (n + 2) 24 [vQ q] gB = some (q.long, ()) := by
  refine (long_m (n + 1) q.t q.a q.b).trans ?_
  rw [bind_go (norm_e n q h), bind_go (pNPrint_e n _ h.cn), bind_go (pNPrint_e n _ h.cm), val_K, val_K]
  unfold Q3.long
  dsimp only
  have c1 : ∀ k : Nat, decide (400 < (k : Int)) = decide (400 < k) := fun k => decide_eq_decide.2 (by omega)
  rw [c1, c1]
  cases decide (400 < (decK q.n.natAbs).length) <;> rfl
theorem number_e (z : Int) (h : in64 z) : EF fuel (n + 2) 26 [vI z] gS = some (itoaK z, ()) := by
  refine (number_m (n + 1) z).trans ?_
  have hl : Nat.log2 z.natAbs ≤ 34359738368 := by
    have := log2_le (show z.natAbs ≤ 9223372036854775808 by have := h.1; have := h.2; omega)
    have e : Nat.log2 9223372036854775808 = 63 := by decide +kernel
    omega
  rw [bind_go (pIOf_e n z h.cap), bind_go (pIPrint_e n _ _ (capN_K hl)), val_K, sg_own]
  rfl
def reason (z : Int) : List UInt8 := bif z == 0 then [103, 111, 105, 110, 103] else bif z == 1 then [108, 101, 110, 103, 116, 104] else bif z == 2 then [112, 114, 101, 99, 105, 115, 105, 111, 110] else bif z == 3 then [99, 108, 97, 115, 115] else bif z == 4 then [101, 110, 100, 101, 100] else []
theorem reason_e (z : Int) : EF fuel (n + 1) 13 [vI z] gS = some (reason z, ()) := by
  refine (Reason_m n z).trans ?_
  unfold reason
  cases z == 0
  case true => rfl
  cases z == 1
  case true => rfl
  cases z == 2
  case true => rfl
  cases z == 3
  case true => rfl
  cases z == 4 <;> rfl
theorem reason_len (z : Int) : (reason z).length ≤ 9 := by
  unfold reason
  cases z == 0 <;> cases z == 1 <;> cases z == 2 <;> cases z == 3 <;> cases z == 4 <;> decide
theorem rprint_e (q : Q3) (h : q.OK) : EF fuel (n + 1) 27 [vQ q] gS = some (q.tx, ()) := pRPrint_e n q.t q.a q.b h.ca h.cb
end
end Go.Proofs.YtcggnmddcbhchaaGreatDoor
set_option linter.unusedSimpArgs false
set_option linter.unusedVariables false
namespace Go.Proofs.YtcggnmddcbhchaaGreatDoor
open Go.RowKit Lim
theorem pItoa_k (n0 : Nat) (z : Int) : EF fuel (n0 + 1) 100 [vI z] gS = bif capI z then some (itoaK z, ()) else none := by kernel_rfl
theorem pRep_k (n0 : Nat) (s : List UInt8) (z : Int) : EF fuel (n0 + 1) 129 [vS s, vI z] gS = bif Nat.ble s.length 1048576 && capR z then some (Lib.repeatL s z.toNat, ()) else none := by kernel_rfl
theorem repeatL_len (b : UInt8) (k : Nat) : (Lib.repeatL [b] k).length = k := by
  induction k with
  | zero => rfl
  | succ k ih => simp [Lib.repeatL, ih]
def padT (z w : Int) : List UInt8 := Lib.repeatL [48] (maxI2 (w - ((itoaK z).length : Int)) 0).toNat ++ itoaK z
def idT (y : List UInt8) (k c : Int) : List UInt8 := y ++ [45] ++ padT c 7 ++ [45] ++ padT (98 - ((k * 10000000 + c) * 100).tmod 97) 2
section
variable (n : Nat)
theorem itoa_e (z : Int) (h : in64 z) : EF fuel (n + 1) 100 [vI z] gS = some (itoaK z, ()) := by rw [pItoa_k, h.cap]; rfl
theorem rep_e (z : Int) (h0 : 0 ≤ z) (h1 : z ≤ 1048576) : EF fuel (n + 1) 129 [vS [48], vI z] gS = some (Lib.repeatL [48] z.toNat, ()) := by
  rw [pRep_k, capR_ok h0 h1]; rfl
theorem itoa_l21 {z : Int} (h : in64 z) : (itoaK z).length ≤ 21 := itoaK_len h.1 h.2
theorem max_le {w : Int} {k : Nat} (h0 : 0 ≤ w) (h1 : w ≤ 100) : 0 ≤ maxI2 (w - (k : Int)) 0 ∧ maxI2 (w - (k : Int)) 0 ≤ 100 := by
  unfold maxI2
  split <;> omega
theorem padT_len {z w : Int} (h : in64 z) (h0 : 0 ≤ w) (h1 : w ≤ 100) : (padT z w).length ≤ 121 := by
  have h2 := max_le (k := (itoaK z).length) h0 h1
  have h3 := itoa_l21 h
  unfold padT
  rw [List.length_append, repeatL_len]
  omega
theorem pad_e (z w : Int) (h : in64 z) (h0 : 0 ≤ w) (h1 : w ≤ 100) : EF fuel (n + 2) 59 [vI z, vI w] gS = some (padT z w, ()) := by
  have h2 := max_le (k := (itoaK z).length) h0 h1
  have h3 := itoa_l21 h
  refine (pad_m (n + 1) z w).trans ?_
  rw [bind_go (itoa_e n z h)]
  dsimp only
  rw [w64 (by omega) (by omega), bind_go (rep_e n _ h2.1 (by omega))]
  dsimp only
  rw [strB_s (by rw [repeatL_len]; omega)]
  rfl
theorem tmod97 (z : Int) : -97 < z.tmod 97 ∧ z.tmod 97 < 97 := by
  have h1 := Int.tmod_lt_of_pos z (show (0 : Int) < 97 by omega)
  have h2 := Int.lt_tmod_of_pos z (show (0 : Int) < 97 by omega)
  omega
theorem idT_len {y : List UInt8} {k c : Int} (hy : y.length = 3) (hc : in64 c) : (idT y k c).length ≤ 300 := by
  have h1 := padT_len (w := 7) hc (by omega) (by omega)
  have h3 := tmod97 ((k * 10000000 + c) * 100)
  have h2 := padT_len (z := 98 - ((k * 10000000 + c) * 100).tmod 97) (w := 2) ⟨by omega, by omega⟩ (by omega) (by omega)
  unfold idT
  simp only [List.length_append, List.length_cons, List.length_nil]
  omega
theorem check_e (k c : Int) (k1 : 1 ≤ k) (k6 : k ≤ 6) (c1 : 1 ≤ c) (c9 : c ≤ 9999999) : EF fuel (n + 2) 58 [vI k, vI c] [.c (.int .i64), .c (.int .i64)] = some (98 - ((k * 10000000 + c) * 100).tmod 97, 0, ()) := by
  refine (identCheck_m (n + 1) k c).trans ?_
  have h3 := tmod97 ((k * 10000000 + c) * 100)
  rw [decide_eq_false (show ¬ k < 1 by omega), decide_eq_false (show ¬ 6 < k by omega), decide_eq_false (show ¬ c < 1 by omega), decide_eq_false (show ¬ 9999999 < c by omega), cond_false, cond_false, cond_false, cond_false, checkDigits_m n k c]
  rw [w64 (z := k * 10000000) (by omega) (by omega), w64 (z := k * 10000000 + c) (by omega) (by omega), w64 (z := (k * 10000000 + c) * 100) (by omega) (by omega), w64 (z := 98 - ((k * 10000000 + c) * 100).tmod 97) (by omega) (by omega)]
  rfl
theorem identPrint_e (k c : Int) (y : List UInt8) (k1 : 1 ≤ k) (k6 : k ≤ 6) (c1 : 1 ≤ c) (c9 : c ≤ 9999999) (hy : ([[73, 84, 77], [70, 82, 77], [67, 65, 78], [83, 69, 83], [82, 65, 84], [65, 83, 84]] : List (List UInt8))[0 + (k - 1).toNat * 1]? = some y) (hl : y.length = 3) :
    EF fuel (n + 3) 25 [vI k, vI c] gP = some (idT y k c, 0, ()) := by
  refine (identPrint_m (n + 2) k c).trans ?_
  have h3 := tmod97 ((k * 10000000 + c) * 100)
  have hc : in64 c := ⟨by omega, by omega⟩
  have l1 := padT_len (w := 7) hc (by omega) (by omega)
  have hd : in64 (98 - ((k * 10000000 + c) * 100).tmod 97) := ⟨by omega, by omega⟩
  have l2 := padT_len (w := 2) hd (by omega) (by omega)
  rw [bind_go (check_e n k c k1 k6 c1 c9)]
  dsimp only
  rw [w64 (z := k - 1) (by omega) (by omega), decide_eq_true (show 0 ≤ k - 1 by omega), decide_eq_true (show (k - 1).toNat < 6 by omega), bind_go hy, strB_s (by simp only [List.length_cons, List.length_nil]; omega), bind_go (pad_e n c 7 hc (by omega) (by omega))]
  dsimp only
  rw [strB_s (by simp only [List.length_append, List.length_cons, List.length_nil]; omega), strB_s (by simp only [List.length_append, List.length_cons, List.length_nil]; omega), bind_go (pad_e n _ 2 hd (by omega) (by omega))]
  dsimp only
  rw [strB_s (by simp only [List.length_append, List.length_cons, List.length_nil]; omega)]
  rfl
def nCan : List UInt8 := [67, 65, 78]
def printT (c : Int) (r : Res) : List UInt8 :=
  [99, 97, 110, 100, 105, 100, 97, 116, 101, 32] ++ idT nCan 3 c ++ [10] ++ [115, 99, 111, 114, 101, 32] ++ itoaK r.sc ++ [10] ++ [97, 98, 105, 108, 105, 116, 121, 32] ++ r.m.tx ++ [32, 118, 97, 114, 105, 97, 110, 99, 101, 32] ++ r.v.tx ++ [10] ++ [105, 110, 116, 101, 114, 118, 97, 108, 32] ++ itoaK r.lo ++ [32] ++ itoaK r.hi ++ [10] ++ [105, 116, 101, 109, 115, 32] ++ itoaK r.sp ++ [32] ++ reason r.st ++ [10] ++ [101, 115, 115, 97, 121, 32] ++ itoaK r.es ++ [10]
def printE (c : Int) (r : Res) : denL gP.ts :=
  bif decide (c < 1) then ([], 3, ()) else bif decide (9999999 < c) then ([], 3, ()) else bif r.valid != 0 then ([], r.valid, ()) else bif r.m.long then ([], 5, ()) else bif r.v.long then ([], 5, ()) else (printT c r, 0, ())
theorem print_e (c : Int) (r : Res) (h : r.OK) : EF fuel (n + 5) 9 [vI c, vR r] gP = some (printE c r) := by
  refine (Print_m (n + 4) c r.m.t r.m.a r.m.b r.v.t r.v.a r.v.b r.lo r.hi r.sc r.es r.st r.sp).trans ?_
  unfold printE
  cases e1 : decide (c < 1)
  case true => rfl
  cases e2 : decide (9999999 < c)
  case true => rfl
  have e1 := of_decide_eq_false e1
  have e2 := of_decide_eq_false e2
  rw [cond_false, cond_false, bind_go (valid_e n r h)]
  dsimp only
  cases e3 : r.valid != 0
  case true => rfl
  rw [cond_false, bind_go (long_e (n + 2) r.m h.m)]
  dsimp only
  cases e4 : r.m.long
  case true => rfl
  rw [cond_false, bind_go (long_e (n + 2) r.v h.v)]
  dsimp only
  cases e5 : r.v.long
  case true => rfl
  have l0 := idT_len (y := nCan) (k := 3) (c := c) rfl ⟨by omega, by omega⟩
  have l1 := Q3.tx_len e4
  have l2 := Q3.tx_len e5
  have l3 := itoa_l21 h.sc
  have l4 := itoa_l21 h.lo
  have l5 := itoa_l21 h.hi
  have l6 := itoa_l21 h.sp
  have l7 := itoa_l21 h.es
  have l8 := reason_len r.st
  rw [cond_false, bind_go (identPrint_e (n + 1) 3 c nCan (by omega) (by omega) (by omega) (by omega) rfl rfl)]
  dsimp only
  rw [bind_go (number_e (n + 2) _ h.sc), bind_go (rprint_e (n + 3) _ h.m), bind_go (rprint_e (n + 3) _ h.v), bind_go (number_e (n + 2) _ h.lo), bind_go (number_e (n + 2) _ h.hi), bind_go (number_e (n + 2) _ h.sp), bind_go (reason_e (n + 3) _), bind_go (number_e (n + 2) _ h.es)]
  dsimp only
  rw [bne_self_eq_false, cond_false]
  simp (disch := (simp only [List.length_append, List.length_cons, List.length_nil]; omega)) only [strB_s, cond_true]
  rfl
end
end Go.Proofs.YtcggnmddcbhchaaGreatDoor
set_option linter.unusedSimpArgs false
set_option linter.unusedVariables false
namespace Go.Proofs.YtcggnmddcbhchaaGreatDoor
open Go.RowKit Lim
section
variable {c : UInt8}
end
end Go.Proofs.YtcggnmddcbhchaaGreatDoor
set_option linter.unusedSimpArgs false
set_option linter.unusedVariables false
namespace Go.Proofs.YtcggnmddcbhchaaGreatDoor
open Go.RowKit Lim
theorem ref56_Print_m {F : Nat} (n0 : Nat) (x0 : Int) (x1_0 : Bool) (x1_1 x1_2 : List Nat) (x1_3 : Bool) (x1_4 x1_5 : List Nat) (x1_6 x1_7 x1_8 x1_9 x1_10 x1_11 : Int) : EF F (n0 + 1) 10 [.o (.c ⟨(.int .i64), x0⟩), .o (.agg (cL x1_0 x1_1 x1_2 x1_3 x1_4 x1_5 x1_6 x1_7 x1_8 x1_9 x1_10 x1_11))] [.c .str, .c (.int .i64)] = unwrapA ((EF F n0 28 [vI 3, vI x0] [.c tS, .c (tI)]).bind fun x => bif x.2.1 != 0 then some (.ret ([], x.2.1, ())) else (EF F n0 12 [.o (.agg (cL x1_0 x1_1 x1_2 x1_3 x1_4 x1_5 x1_6 x1_7 x1_8 x1_9 x1_10 x1_11))] [.c (tI)]).bind fun x_1 => bif x_1.1 != 0 then some (.ret ([], x_1.1, ())) else (EF F n0 29 [.o (.agg [⟨tB, x1_0⟩, ⟨tN, x1_1⟩, ⟨tN, x1_2⟩])] [.c tB]).bind fun x_2 => bif x_2.1 then some (.ret ([], 5, ())) else (EF F n0 29 [.o (.agg [⟨tB, x1_3⟩, ⟨tN, x1_4⟩, ⟨tN, x1_5⟩])] [.c tB]).bind fun x_3 => bif x_3.1 then some (.ret ([], 5, ())) else bif strB [99, 97, 110, 100, 105, 100, 97, 116, 101, 32].length (List.length x.1) then bif strB ([99, 97, 110, 100, 105, 100, 97, 116, 101, 32] ++ x.1).length [10, 115, 99, 111, 114, 101, 32].length then (EF F n0 30 [vI x1_8] [.c tS]).bind fun x_4 => bif strB ([99, 97, 110, 100, 105, 100, 97, 116, 101, 32] ++ x.1 ++ [10, 115, 99, 111, 114, 101, 32]).length (List.length x_4.1) then bif strB ([99, 97, 110, 100, 105, 100, 97, 116, 101, 32] ++ x.1 ++ [10, 115, 99, 111, 114, 101, 32] ++ x_4.1).length [10, 97, 98, 105, 108, 105, 116, 121, 32].length then (EF F n0 31 [.o (.agg [⟨tB, x1_0⟩, ⟨tN, x1_1⟩, ⟨tN, x1_2⟩])] [.c tS]).bind fun x_5 => bif strB ([99, 97, 110, 100, 105, 100, 97, 116, 101, 32] ++ x.1 ++ [10, 115, 99, 111, 114, 101, 32] ++ x_4.1 ++ [10, 97, 98, 105, 108, 105, 116, 121, 32]).length (List.length x_5.1) then bif strB ([99, 97, 110, 100, 105, 100, 97, 116, 101, 32] ++ x.1 ++ [10, 115, 99, 111, 114, 101, 32] ++ x_4.1 ++ [10, 97, 98, 105, 108, 105, 116, 121, 32] ++ x_5.1).length [32, 118, 97, 114, 105, 97, 110, 99, 101, 32].length then (EF F n0 31 [.o (.agg [⟨tB, x1_3⟩, ⟨tN, x1_4⟩, ⟨tN, x1_5⟩])] [.c tS]).bind fun x_6 => bif strB ([99, 97, 110, 100, 105, 100, 97, 116, 101, 32] ++ x.1 ++ [10, 115, 99, 111, 114, 101, 32] ++ x_4.1 ++ [10, 97, 98, 105, 108, 105, 116, 121, 32] ++ x_5.1 ++ [32, 118, 97, 114, 105, 97, 110, 99, 101, 32]).length (List.length x_6.1) then bif strB ([99, 97, 110, 100, 105, 100, 97, 116, 101, 32] ++ x.1 ++ [10, 115, 99, 111, 114, 101, 32] ++ x_4.1 ++ [10, 97, 98, 105, 108, 105, 116, 121, 32] ++ x_5.1 ++ [32, 118, 97, 114, 105, 97, 110, 99, 101, 32] ++ x_6.1).length [10, 105, 110, 116, 101, 114, 118, 97, 108, 32].length then (EF F n0 30 [vI x1_6] [.c tS]).bind fun x_7 => bif strB ([99, 97, 110, 100, 105, 100, 97, 116, 101, 32] ++ x.1 ++ [10, 115, 99, 111, 114, 101, 32] ++ x_4.1 ++ [10, 97, 98, 105, 108, 105, 116, 121, 32] ++ x_5.1 ++ [32, 118, 97, 114, 105, 97, 110, 99, 101, 32] ++ x_6.1 ++ [10, 105, 110, 116, 101, 114, 118, 97, 108, 32]).length (List.length x_7.1) then bif strB ([99, 97, 110, 100, 105, 100, 97, 116, 101, 32] ++ x.1 ++ [10, 115, 99, 111, 114, 101, 32] ++ x_4.1 ++ [10, 97, 98, 105, 108, 105, 116, 121, 32] ++ x_5.1 ++ [32, 118, 97, 114, 105, 97, 110, 99, 101, 32] ++ x_6.1 ++ [10, 105, 110, 116, 101, 114, 118, 97, 108, 32] ++ x_7.1).length [32].length then (EF F n0 30 [vI x1_7] [.c tS]).bind fun x_8 => bif strB ([99, 97, 110, 100, 105, 100, 97, 116, 101, 32] ++ x.1 ++ [10, 115, 99, 111, 114, 101, 32] ++ x_4.1 ++ [10, 97, 98, 105, 108, 105, 116, 121, 32] ++ x_5.1 ++ [32, 118, 97, 114, 105, 97, 110, 99, 101, 32] ++ x_6.1 ++ [10, 105, 110, 116, 101, 114, 118, 97, 108, 32] ++ x_7.1 ++ [32]).length (List.length x_8.1) then bif strB ([99, 97, 110, 100, 105, 100, 97, 116, 101, 32] ++ x.1 ++ [10, 115, 99, 111, 114, 101, 32] ++ x_4.1 ++ [10, 97, 98, 105, 108, 105, 116, 121, 32] ++ x_5.1 ++ [32, 118, 97, 114, 105, 97, 110, 99, 101, 32] ++ x_6.1 ++ [10, 105, 110, 116, 101, 114, 118, 97, 108, 32] ++ x_7.1 ++ [32] ++ x_8.1).length [10, 105, 116, 101, 109, 115, 32].length then (EF F n0 30 [vI x1_11] [.c tS]).bind fun x_9 => bif strB ([99, 97, 110, 100, 105, 100, 97, 116, 101, 32] ++ x.1 ++ [10, 115, 99, 111, 114, 101, 32] ++ x_4.1 ++ [10, 97, 98, 105, 108, 105, 116, 121, 32] ++ x_5.1 ++ [32, 118, 97, 114, 105, 97, 110, 99, 101, 32] ++ x_6.1 ++ [10, 105, 110, 116, 101, 114, 118, 97, 108, 32] ++ x_7.1 ++ [32] ++ x_8.1 ++ [10, 105, 116, 101, 109, 115, 32]).length (List.length x_9.1) then bif strB ([99, 97, 110, 100, 105, 100, 97, 116, 101, 32] ++ x.1 ++ [10, 115, 99, 111, 114, 101, 32] ++ x_4.1 ++ [10, 97, 98, 105, 108, 105, 116, 121, 32] ++ x_5.1 ++ [32, 118, 97, 114, 105, 97, 110, 99, 101, 32] ++ x_6.1 ++ [10, 105, 110, 116, 101, 114, 118, 97, 108, 32] ++ x_7.1 ++ [32] ++ x_8.1 ++ [10, 105, 116, 101, 109, 115, 32] ++ x_9.1).length [32].length then (EF F n0 14 [vI x1_10] [.c tS]).bind fun x_10 => bif strB ([99, 97, 110, 100, 105, 100, 97, 116, 101, 32] ++ x.1 ++ [10, 115, 99, 111, 114, 101, 32] ++ x_4.1 ++ [10, 97, 98, 105, 108, 105, 116, 121, 32] ++ x_5.1 ++ [32, 118, 97, 114, 105, 97, 110, 99, 101, 32] ++ x_6.1 ++ [10, 105, 110, 116, 101, 114, 118, 97, 108, 32] ++ x_7.1 ++ [32] ++ x_8.1 ++ [10, 105, 116, 101, 109, 115, 32] ++ x_9.1 ++ [32]).length (List.length x_10.1) then bif strB ([99, 97, 110, 100, 105, 100, 97, 116, 101, 32] ++ x.1 ++ [10, 115, 99, 111, 114, 101, 32] ++ x_4.1 ++ [10, 97, 98, 105, 108, 105, 116, 121, 32] ++ x_5.1 ++ [32, 118, 97, 114, 105, 97, 110, 99, 101, 32] ++ x_6.1 ++ [10, 105, 110, 116, 101, 114, 118, 97, 108, 32] ++ x_7.1 ++ [32] ++ x_8.1 ++ [10, 105, 116, 101, 109, 115, 32] ++ x_9.1 ++ [32] ++ x_10.1).length [10, 101, 115, 115, 97, 121, 32].length then (EF F n0 30 [vI x1_9] [.c tS]).bind fun x_11 => bif strB ([99, 97, 110, 100, 105, 100, 97, 116, 101, 32] ++ x.1 ++ [10, 115, 99, 111, 114, 101, 32] ++ x_4.1 ++ [10, 97, 98, 105, 108, 105, 116, 121, 32] ++ x_5.1 ++ [32, 118, 97, 114, 105, 97, 110, 99, 101, 32] ++ x_6.1 ++ [10, 105, 110, 116, 101, 114, 118, 97, 108, 32] ++ x_7.1 ++ [32] ++ x_8.1 ++ [10, 105, 116, 101, 109, 115, 32] ++ x_9.1 ++ [32] ++ x_10.1 ++ [10, 101, 115, 115, 97, 121, 32]).length (List.length x_11.1) then bif strB ([99, 97, 110, 100, 105, 100, 97, 116, 101, 32] ++ x.1 ++ [10, 115, 99, 111, 114, 101, 32] ++ x_4.1 ++ [10, 97, 98, 105, 108, 105, 116, 121, 32] ++ x_5.1 ++ [32, 118, 97, 114, 105, 97, 110, 99, 101, 32] ++ x_6.1 ++ [10, 105, 110, 116, 101, 114, 118, 97, 108, 32] ++ x_7.1 ++ [32] ++ x_8.1 ++ [10, 105, 116, 101, 109, 115, 32] ++ x_9.1 ++ [32] ++ x_10.1 ++ [10, 101, 115, 115, 97, 121, 32] ++ x_11.1).length [10].length then some (.ret ([99, 97, 110, 100, 105, 100, 97, 116, 101, 32] ++ x.1 ++ [10, 115, 99, 111, 114, 101, 32] ++ x_4.1 ++ [10, 97, 98, 105, 108, 105, 116, 121, 32] ++ x_5.1 ++ [32, 118, 97, 114, 105, 97, 110, 99, 101, 32] ++ x_6.1 ++ [10, 105, 110, 116, 101, 114, 118, 97, 108, 32] ++ x_7.1 ++ [32] ++ x_8.1 ++ [10, 105, 116, 101, 109, 115, 32] ++ x_9.1 ++ [32] ++ x_10.1 ++ [10, 101, 115, 115, 97, 121, 32] ++ x_11.1 ++ [10], 0, ())) else none else none else none else none else none else none else none else none else none else none else none else none else none else none else none else none else none else none) := by kernel_rfl
theorem ref56_Valid_m {F : Nat} (n0 : Nat) (x0_0 : Bool) (x0_1 x0_2 : List Nat) (x0_3 : Bool) (x0_4 x0_5 : List Nat) (x0_6 x0_7 x0_8 x0_9 x0_10 x0_11 : Int) : EF F (n0 + 1) 12 [.o (.agg (cL x0_0 x0_1 x0_2 x0_3 x0_4 x0_5 x0_6 x0_7 x0_8 x0_9 x0_10 x0_11))] [.c (.int .i64)] = unwrapA ((EF F n0 34 [.o (.agg [⟨tB, x0_3⟩, ⟨tN, x0_4⟩, ⟨tN, x0_5⟩])] [.c (tI)]).bind fun x => bif decide (x.1 < 0) then some (.ret (3, ())) else (EF F n0 35 [vI x0_6, vI (-1000), vI 1000] [.c tB]).bind fun x => bif !x.1 then some (.ret (3, ())) else (EF F n0 35 [vI x0_7, vI (-1000), vI 1000] [.c tB]).bind fun x => bif !x.1 then some (.ret (3, ())) else (EF F n0 35 [vI x0_8, vI (-1000000), vI 1000000] [.c tB]).bind fun x => bif !x.1 then some (.ret (3, ())) else (EF F n0 35 [vI x0_9, vI 0, vI 1000000] [.c tB]).bind fun x => bif !x.1 then some (.ret (3, ())) else (EF F n0 35 [vI x0_11, vI 0, vI 18] [.c tB]).bind fun x => bif !x.1 then some (.ret (3, ())) else bif decide (x0_7 < x0_6) then some (.ret (23, ())) else (EF F n0 35 [vI x0_10, vI 0, vI 4] [.c tB]).bind fun x => bif !x.1 then some (.ret (1, ())) else some (.ret (0, ()))) := by kernel_rfl
theorem ref56_Reason_m {F : Nat} (n0 : Nat) (x0 : Int) : EF F (n0 + 1) 14 [.o (.c ⟨(.int .i64), x0⟩)] [.c .str] = unwrapA (bif x0 == 0 then some (.ret ([103, 111, 105, 110, 103], ())) else bif x0 == 1 then some (.ret ([108, 101, 110, 103, 116, 104], ())) else bif x0 == 2 then some (.ret ([112, 114, 101, 99, 105, 115, 105, 111, 110], ())) else bif x0 == 3 then some (.ret ([99, 108, 97, 115, 115], ())) else bif x0 == 4 then some (.ret ([101, 110, 100, 101, 100], ())) else some (.ret ([], ()))) := by kernel_rfl
theorem ref09_Print_m {F : Nat} (n0 : Nat) (x0 x1 : Int) : EF F (n0 + 1) 28 [.o (.c ⟨(.int .i64), x0⟩), .o (.c ⟨(.int .i64), x1⟩)] [.c .str, .c (.int .i64)] = unwrapA ((EF F n0 64 [vI x0, vI x1] [.c (tI), .c (tI)]).bind fun x => bif x.2.1 != 0 then some (.ret ([], x.2.1, ())) else (EF F n0 65 [vI x0] [.c tS]).bind fun x_1 => bif strB (List.length x_1.1) [45].length then (EF F n0 66 [vI x1, vI 7] [.c tS]).bind fun x_2 => bif strB (x_1.1 ++ [45]).length (List.length x_2.1) then bif strB (x_1.1 ++ [45] ++ x_2.1).length [45].length then (EF F n0 66 [vI x.1, vI 2] [.c tS]).bind fun x => bif strB (x_1.1 ++ [45] ++ x_2.1 ++ [45]).length (List.length x.1) then some (.ret (x_1.1 ++ [45] ++ x_2.1 ++ [45] ++ x.1, 0, ())) else none else none else none else none) := by kernel_rfl
theorem ref56_long_m {F : Nat} (n0 : Nat) (x0_0 : Bool) (x0_1 x0_2 : List Nat) : EF F (n0 + 1) 29 [.o (.agg [⟨.bool, x0_0⟩, ⟨.nat, x0_1⟩, ⟨.nat, x0_2⟩])] [.c .bool] = unwrapA ((EF F n0 67 [.o (.agg [⟨tB, x0_0⟩, ⟨tN, x0_1⟩, ⟨tN, x0_2⟩])] [.agg [tB, tN, tN]]).bind fun x => (EF F n0 68 [vN x.2.1] [.c tS]).bind fun x_1 => bif decide (400 < (Nat.cast (R := Int) (List.length x_1.1))) then some (.ret (true, ())) else (EF F n0 68 [vN x.2.2.1] [.c tS]).bind fun x => some (.ret (decide (400 < (Nat.cast (R := Int) (List.length x.1))), ()))) := by kernel_rfl
theorem ref56_number_m {F : Nat} (n0 : Nat) (x0 : Int) : EF F (n0 + 1) 30 [.o (.c ⟨(.int .i64), x0⟩)] [.c .str] = unwrapA ((EF F n0 70 [vI x0] [.agg [tB, tN]]).bind fun x => (EF F n0 69 [.o (.agg [⟨tB, x.1⟩, ⟨tN, x.2.1⟩])] [.c tS]).bind fun x => some (.ret (x.1, ()))) := by kernel_rfl
theorem ref03_Print_m {F : Nat} (n0 : Nat) (x0_0 : Bool) (x0_1 x0_2 : List Nat) : EF F (n0 + 1) 31 [.o (.agg [⟨.bool, x0_0⟩, ⟨.nat, x0_1⟩, ⟨.nat, x0_2⟩])] [.c .str] = unwrapA ((EF F n0 67 [.o (.agg [⟨tB, x0_0⟩, ⟨tN, x0_1⟩, ⟨tN, x0_2⟩])] [.agg [tB, tN, tN]]).bind fun x => (EF F n0 69 [.o (.agg [⟨tB, x.1⟩, ⟨tN, x.2.1⟩])] [.c tS]).bind fun x_1 => (EF F n0 72 [.o (.c ⟨VT.int IntKind.u64, 1⟩)] [.c tN]).bind fun x_2 => (EF F n0 71 [vN x.2.2.1, vN x_2.1] [.c (tI)]).bind fun x_3 => bif x_3.1 != 0 then bif strB (List.length x_1.1) [47].length then (EF F n0 68 [vN x.2.2.1] [.c tS]).bind fun x => bif strB (x_1.1 ++ [47]).length (List.length x.1) then some (.ret (x_1.1 ++ [47] ++ x.1, ())) else none else none else some (.ret (x_1.1, ()))) := by kernel_rfl
theorem ref56_within_m {F : Nat} (n0 : Nat) (x0 x1 x2 : Int) : EF F (n0 + 1) 35 [.o (.c ⟨(.int .i64), x0⟩), .o (.c ⟨(.int .i64), x1⟩), .o (.c ⟨(.int .i64), x2⟩)] [.c .bool] = unwrapA (bif decide (x1 ≤ x0) then some (.ret (decide (x0 ≤ x2), ())) else some (.ret (false, ()))) := by kernel_rfl
theorem ref09_Check_m {F : Nat} (n0 : Nat) (x0 x1 : Int) : EF F (n0 + 1) 64 [.o (.c ⟨(.int .i64), x0⟩), .o (.c ⟨(.int .i64), x1⟩)] [.c (.int .i64), .c (.int .i64)] = unwrapA ((EF F n0 65 [vI x0] [.c tS]).bind fun x => bif x.1 == [] then some (.ret (0, 1, ())) else bif decide (x1 < 1) then some (.ret (0, 3, ())) else bif decide (9999999 < x1) then some (.ret (0, 3, ())) else some (.ret (IntKind.i64.wrap (98 - (IntKind.i64.wrap (IntKind.i64.wrap (IntKind.i64.wrap (x0 * 10000000) + x1) * 100)).tmod 97), 0, ()))) := by kernel_rfl
theorem ref09_prefix_m {F : Nat} (n0 : Nat) (x0 : Int) : EF F (n0 + 1) 65 [.o (.c ⟨(.int .i64), x0⟩)] [.c .str] = unwrapA (bif x0 == 1 then some (.ret ([73, 84, 77], ())) else bif x0 == 2 then some (.ret ([70, 82, 77], ())) else bif x0 == 3 then some (.ret ([67, 65, 78], ())) else bif x0 == 4 then some (.ret ([83, 69, 83], ())) else bif x0 == 5 then some (.ret ([82, 65, 84], ())) else bif x0 == 6 then some (.ret ([65, 83, 84], ())) else some (.ret ([], ()))) := by kernel_rfl
theorem ref09_digits_m {F : Nat} (n0 : Nat) (x0 x1 : Int) : EF F (n0 + 1) 66 [.o (.c ⟨(.int .i64), x0⟩), .o (.c ⟨(.int .i64), x1⟩)] [.c .str] = unwrapA (loopA 0 [tI, tS, tI] (fun x => bif decide (x.1 < x1) then bif byteR (IntKind.u8.wrap (IntKind.i64.wrap (48 + Int.tmod x.2.2.1 10))) && true then bif strB [UInt8.ofNat (IntKind.u8.wrap (IntKind.i64.wrap (48 + Int.tmod x.2.2.1 10))).toNat].length (List.length x.2.1) then some (.cont 0 [tI, tS, tI] (IntKind.i64.wrap (x.1 + 1), [UInt8.ofNat (IntKind.u8.wrap (IntKind.i64.wrap (48 + Int.tmod x.2.2.1 10))).toNat] ++ x.2.1, IntKind.i64.wrap (Int.tdiv x.2.2.1 10), ())) else none else none else some (.ret (x.2.1, ()))) F (0, [], x0, ())) := by kernel_rfl
theorem ref03_Norm_m {F : Nat} (n0 : Nat) (x0_0 : Bool) (x0_1 x0_2 : List Nat) : EF F (n0 + 1) 67 [.o (.agg [⟨.bool, x0_0⟩, ⟨.nat, x0_1⟩, ⟨.nat, x0_2⟩])] [.agg [.bool, .nat, .nat]] = unwrapA ((EF F n0 76 [.o (.agg [⟨tB, x0_0⟩, ⟨tN, x0_1⟩, ⟨tN, x0_2⟩])] [.agg [tB, tN]]).bind fun x => (EF F n0 132 [.o (.agg [⟨tB, x0_0⟩, ⟨tN, x0_1⟩, ⟨tN, x0_2⟩])] [.c tN]).bind fun x_1 => (EF F n0 131 [.o (.agg [⟨tB, x.1⟩, ⟨tN, x.2.1⟩]), vN x_1.1] [.agg [tB, tN, tN]]).bind fun x => some (.ret (x.1, x.2.1, x.2.2.1, ()))) := by kernel_rfl
theorem ref01_Print_m {F : Nat} (n0 : Nat) (x0 : List Nat) : EF F (n0 + 1) 68 [.o (.c ⟨.nat, x0⟩)] [.c .str] = unwrapA ((EF F n0 133 [vN x0] [.c tN]).bind fun x => bif (Nat.cast (R := Int) (List.length x.1)) == 0 then some (.ret ([48], ())) else bif mkB 0 (IntKind.i64.wrap (10 * (Nat.cast (R := Int) (List.length x.1)))) 1 then loopA 0 [VT.sl 1 VT.byte, tN] (fun x_1 => bif decide (0 < (Nat.cast (R := Int) (List.length x_1.2.1))) then (EF F n0 134 [vN x_1.2.1, .o (.c ⟨VT.int IntKind.u64, 10⟩)] [.c tN, .c (VT.int IntKind.u64)]).bind fun x_2 => bif byteR (IntKind.u8.wrap (IntKind.u64.wrap (48 + x_2.2.1))) && true then bif capB (List.length x_1.1 + [UInt8.ofNat (IntKind.u8.wrap (IntKind.u64.wrap (48 + x_2.2.1))).toNat].length) 1 then some (.cont 0 [VT.sl 1 VT.byte, tN] (x_1.1 ++ [UInt8.ofNat (IntKind.u8.wrap (IntKind.u64.wrap (48 + x_2.2.1))).toNat], x_2.1, ())) else none else none else bif mkB ((Nat.cast (R := Int) (List.length x_1.1))) ((Nat.cast (R := Int) (List.length x_1.1))) 1 then loopA 0 [tI, VT.sl 1 VT.byte] (fun x_2 => bif decide (x_2.1 < (Nat.cast (R := Int) (List.length x_1.1))) then bif Nat.beq 1 1 && (decide (0 ≤ x_2.1) && decide (Int.toNat x_2.1 < List.length x_1.1)) then x_1.1[Int.toNat x_2.1]?.bind fun y => bif Nat.beq 1 1 && (decide (0 ≤ IntKind.i64.wrap (IntKind.i64.wrap ((Nat.cast (R := Int) (List.length x_1.1)) - 1) - x_2.1)) && decide ((IntKind.i64.wrap (IntKind.i64.wrap ((Nat.cast (R := Int) (List.length x_1.1)) - 1) - x_2.1)).toNat < List.length x_2.2.1)) then x_2.2.1[(IntKind.i64.wrap (IntKind.i64.wrap ((Nat.cast (R := Int) (List.length x_1.1)) - 1) - x_2.1)).toNat]?.bind fun el' => bif byteR (Nat.cast (R := Int) y.toNat) && true then some (.cont 0 [tI, VT.sl 1 VT.byte] (IntKind.i64.wrap (x_2.1 + 1), List.set x_2.2.1 (IntKind.i64.wrap (IntKind.i64.wrap ((Nat.cast (R := Int) (List.length x_1.1)) - 1) - x_2.1)).toNat (UInt8.ofNat ((Nat.cast (R := Int) y.toNat)).toNat), ())) else none else none else none else some (.ret (x_2.2.1, ()))) F (0, List.replicate ((Nat.cast (R := Int) (List.length x_1.1))).toNat (UInt8.ofNat (Int.toNat 0)), ()) else none) F (List.replicate (Int.toNat 0) (UInt8.ofNat (Int.toNat 0)), x.1, ()) else none) := by kernel_rfl
theorem ref02_Print_m {F : Nat} (n0 : Nat) (x0_0 : Bool) (x0_1 : List Nat) : EF F (n0 + 1) 69 [.o (.agg [⟨.bool, x0_0⟩, ⟨.nat, x0_1⟩])] [.c .str] = unwrapA ((EF F n0 115 [.o (.agg [⟨tB, x0_0⟩, ⟨tN, x0_1⟩])] [.agg [tB, tN]]).bind fun x => bif x.1 then (EF F n0 68 [vN x.2.1] [.c tS]).bind fun x => bif strB [45].length (List.length x.1) then some (.ret ([45] ++ x.1, ())) else none else (EF F n0 68 [vN x.2.1] [.c tS]).bind fun x => some (.ret (x.1, ()))) := by kernel_rfl
theorem lawTexts_m {F : Nat} (n0 : Nat) (x0 : Int) (x1_0 : Bool) (x1_1 x1_2 : List Nat) (x1_3 : Bool) (x1_4 x1_5 : List Nat) (x1_6 x1_7 x1_8 x1_9 x1_10 x1_11 : Int) : EF F (n0 + 1) 3 [.o (.c ⟨(.int .i64), x0⟩), .o (.agg (cL x1_0 x1_1 x1_2 x1_3 x1_4 x1_5 x1_6 x1_7 x1_8 x1_9 x1_10 x1_11))] [.c .bool] = unwrapA ((EF F n0 9 [vI x0, .o (.agg (cL x1_0 x1_1 x1_2 x1_3 x1_4 x1_5 x1_6 x1_7 x1_8 x1_9 x1_10 x1_11))] [.c tS, .c (tI)]).bind fun x => (EF F n0 10 [vI x0, .o (.agg (cL x1_0 x1_1 x1_2 x1_3 x1_4 x1_5 x1_6 x1_7 x1_8 x1_9 x1_10 x1_11))] [.c tS, .c (tI)]).bind fun x_1 => (EF F n0 11 [.o (.agg (cL x1_0 x1_1 x1_2 x1_3 x1_4 x1_5 x1_6 x1_7 x1_8 x1_9 x1_10 x1_11))] [.c (tI)]).bind fun x_2 => (EF F n0 12 [.o (.agg (cL x1_0 x1_1 x1_2 x1_3 x1_4 x1_5 x1_6 x1_7 x1_8 x1_9 x1_10 x1_11))] [.c (tI)]).bind fun x_3 => bif x_2.1 == x_3.1 then (EF F n0 13 [vI x1_10] [.c tS]).bind fun x_4 => (EF F n0 14 [vI x1_10] [.c tS]).bind fun x_5 => bif x_4.1 == x_5.1 then bif x.1 == x_1.1 then bif x.2.1 == x_1.2.1 then (EF F n0 15 [] [.c tB]).bind fun x => some (.ret (x.1, ())) else some (.ret (false, ())) else some (.ret (false, ())) else some (.ret (false, ())) else some (.ret (false, ()))) := by kernel_rfl
end Go.Proofs.YtcggnmddcbhchaaGreatDoor
set_option linter.unusedSimpArgs false
set_option linter.unusedVariables false
namespace Go.Proofs.YtcggnmddcbhchaaGreatDoor
open Go.RowKit Lim
theorem pd1Norm_k (b : Bool) (n0 : Nat) (a0 : List Nat) : ev (evwF fuel) (n0 + 1) b 133 [.o (.c ⟨.nat, a0⟩)] [.c .nat] = bif capD a0 then some (limbsK (val a0), ()) else none := by cases b <;> kernel_rfl
theorem pd1Norm_e {b : Bool} (n0 : Nat) (a0 : List Nat) (c0 : capD a0 = true) : ev (evwF fuel) (n0 + 1) b 133 [.o (.c ⟨.nat, a0⟩)] [.c .nat] = some (limbsK (val a0), ()) := by
  rw [pd1Norm_k]
  simp only [c0, Bool.and_self, Bool.and_true, cond_true]
  try rfl
theorem pd1Of_k (b : Bool) (n0 : Nat) (z0 : Int) : ev (evwF fuel) (n0 + 1) b 72 [.o (.c ⟨.int .u64, z0⟩)] [.c .nat] = bif capU z0 then some (limbsK (z0.toNat), ()) else none := by cases b <;> kernel_rfl
theorem pd1Of_e {b : Bool} (n0 : Nat) (z0 : Int) (c0 : (capU z0) = true) : ev (evwF fuel) (n0 + 1) b 72 [.o (.c ⟨.int .u64, z0⟩)] [.c .nat] = some (limbsK (z0.toNat), ()) := by
  rw [pd1Of_k]
  simp only [c0, Bool.and_self, Bool.and_true, cond_true]
  try rfl
theorem pd1Cmp_k (b : Bool) (n0 : Nat) (a0 : List Nat) (a1 : List Nat) : ev (evwF fuel) (n0 + 1) b 71 [.o (.c ⟨.nat, a0⟩), .o (.c ⟨.nat, a1⟩)] [.c (.int .i64)] = bif capD a0 && capD a1 then some (cmpI (val a0) (val a1), ()) else none := by cases b <;> kernel_rfl
theorem pd1Cmp_e {b : Bool} (n0 : Nat) (a0 : List Nat) (a1 : List Nat) (c0 : capD a0 = true) (c1 : capD a1 = true) : ev (evwF fuel) (n0 + 1) b 71 [.o (.c ⟨.nat, a0⟩), .o (.c ⟨.nat, a1⟩)] [.c (.int .i64)] = some (cmpI (val a0) (val a1), ()) := by
  rw [pd1Cmp_k]
  simp only [c0, c1, Bool.and_self, Bool.and_true, cond_true]
  try rfl
theorem pd1Short_k (b : Bool) (n0 : Nat) (a0 : List Nat) (z1 : Int) : ev (evwF fuel) (n0 + 1) b 134 [.o (.c ⟨.nat, a0⟩), .o (.c ⟨.int .u64, z1⟩)] [.c .nat, .c (.int .u64)] = bif capD a0 && (decide (0 < z1) && decide (z1 < 4294967296)) then some (limbsK (val a0 / z1.toNat), ((val a0 % z1.toNat : Nat) : Int), ()) else none := by cases b <;> kernel_rfl
theorem pd1Short_e {b : Bool} (n0 : Nat) (a0 : List Nat) (z1 : Int) (c0 : capD a0 = true) (c1 : ((decide (0 < z1) && decide (z1 < 4294967296))) = true) : ev (evwF fuel) (n0 + 1) b 134 [.o (.c ⟨.nat, a0⟩), .o (.c ⟨.int .u64, z1⟩)] [.c .nat, .c (.int .u64)] = some (limbsK (val a0 / z1.toNat), ((val a0 % z1.toNat : Nat) : Int), ()) := by
  rw [pd1Short_k]
  simp only [c0, c1, Bool.and_self, Bool.and_true, cond_true]
  try rfl
theorem pd2Norm_k (b : Bool) (n0 : Nat) (t0 : Bool) (a0 : List Nat) : ev (evwF fuel) (n0 + 1) b 115 [.o (.agg [⟨.bool, t0⟩, ⟨.nat, a0⟩])] [.agg [.bool, .nat]] = bif capD a0 then some (decide ((sg t0 (val a0)) < 0), limbsK (sg t0 (val a0)).natAbs, ()) else none := by cases b <;> kernel_rfl
theorem pd2Norm_e {b : Bool} (n0 : Nat) (t0 : Bool) (a0 : List Nat) (c0 : capD a0 = true) : ev (evwF fuel) (n0 + 1) b 115 [.o (.agg [⟨.bool, t0⟩, ⟨.nat, a0⟩])] [.agg [.bool, .nat]] = some (decide ((sg t0 (val a0)) < 0), limbsK (sg t0 (val a0)).natAbs, ()) := by
  rw [pd2Norm_k]
  simp only [c0, Bool.and_self, Bool.and_true, cond_true]
  try rfl
theorem pd2Of_k (b : Bool) (n0 : Nat) (z0 : Int) : ev (evwF fuel) (n0 + 1) b 70 [.o (.c ⟨.int .i64, z0⟩)] [.agg [.bool, .nat]] = bif capI z0 then some (decide ((z0) < 0), limbsK (z0).natAbs, ()) else none := by cases b <;> kernel_rfl
theorem pd2Of_e {b : Bool} (n0 : Nat) (z0 : Int) (c0 : (capI z0) = true) : ev (evwF fuel) (n0 + 1) b 70 [.o (.c ⟨.int .i64, z0⟩)] [.agg [.bool, .nat]] = some (decide ((z0) < 0), limbsK (z0).natAbs, ()) := by
  rw [pd2Of_k]
  simp only [c0, Bool.and_self, Bool.and_true, cond_true]
  try rfl
theorem pd3Top_k (b : Bool) (n0 : Nat) (t0 : Bool) (a0 b0 : List Nat) : ev (evwF fuel) (n0 + 1) b 76 [.o (.agg [⟨.bool, t0⟩, ⟨.nat, a0⟩, ⟨.nat, b0⟩])] [.agg [.bool, .nat]] = bif capD a0 && capD b0 then some (decide ((pz (sg t0 (val a0)) (val b0)) < 0), limbsK (pz (sg t0 (val a0)) (val b0)).natAbs, ()) else none := by cases b <;> kernel_rfl
theorem pd3Top_e {b : Bool} (n0 : Nat) (t0 : Bool) (a0 b0 : List Nat) (c0 : capD a0 = true) (c1 : capD b0 = true) : ev (evwF fuel) (n0 + 1) b 76 [.o (.agg [⟨.bool, t0⟩, ⟨.nat, a0⟩, ⟨.nat, b0⟩])] [.agg [.bool, .nat]] = some (decide ((pz (sg t0 (val a0)) (val b0)) < 0), limbsK (pz (sg t0 (val a0)) (val b0)).natAbs, ()) := by
  rw [pd3Top_k]
  simp only [c0, c1, Bool.and_self, Bool.and_true, cond_true]
  try rfl
theorem pd3Low_k (b : Bool) (n0 : Nat) (t0 : Bool) (a0 b0 : List Nat) : ev (evwF fuel) (n0 + 1) b 132 [.o (.agg [⟨.bool, t0⟩, ⟨.nat, a0⟩, ⟨.nat, b0⟩])] [.c .nat] = bif capD a0 && capD b0 then some (limbsK (pd (val b0)), ()) else none := by cases b <;> kernel_rfl
theorem pd3Low_e {b : Bool} (n0 : Nat) (t0 : Bool) (a0 b0 : List Nat) (c0 : capD a0 = true) (c1 : capD b0 = true) : ev (evwF fuel) (n0 + 1) b 132 [.o (.agg [⟨.bool, t0⟩, ⟨.nat, a0⟩, ⟨.nat, b0⟩])] [.c .nat] = some (limbsK (pd (val b0)), ()) := by
  rw [pd3Low_k]
  simp only [c0, c1, Bool.and_self, Bool.and_true, cond_true]
  try rfl
theorem pd3Red_k (b : Bool) (n0 : Nat) (t0 : Bool) (a0 : List Nat) (a1 : List Nat) : ev (evwF fuel) (n0 + 1) b 131 [.o (.agg [⟨.bool, t0⟩, ⟨.nat, a0⟩]), .o (.c ⟨.nat, a1⟩)] [.agg [.bool, .nat, .nat]] = bif capD a0 && capD a1 && Nat.blt 0 (val a1) then some (decide ((rn (sg t0 (val a0)) (val a1)) < 0), limbsK (rn (sg t0 (val a0)) (val a1)).natAbs, limbsK (rd (sg t0 (val a0)) (val a1)), ()) else none := by cases b <;> kernel_rfl
theorem pd3Red_e {b : Bool} (n0 : Nat) (t0 : Bool) (a0 : List Nat) (a1 : List Nat) (c0 : capD a0 = true) (c1 : capD a1 = true) (c2 : (Nat.blt 0 (val a1)) = true) : ev (evwF fuel) (n0 + 1) b 131 [.o (.agg [⟨.bool, t0⟩, ⟨.nat, a0⟩]), .o (.c ⟨.nat, a1⟩)] [.agg [.bool, .nat, .nat]] = some (decide ((rn (sg t0 (val a0)) (val a1)) < 0), limbsK (rn (sg t0 (val a0)) (val a1)).natAbs, limbsK (rd (sg t0 (val a0)) (val a1)), ()) := by
  rw [pd3Red_k]
  simp only [c0, c1, c2, Bool.and_self, Bool.and_true, cond_true]
  try rfl
theorem pd3Sign_k (b : Bool) (n0 : Nat) (t0 : Bool) (a0 b0 : List Nat) : ev (evwF fuel) (n0 + 1) b 34 [.o (.agg [⟨.bool, t0⟩, ⟨.nat, a0⟩, ⟨.nat, b0⟩])] [.c (.int .i64)] = bif capD a0 && capD b0 then some (sgnI (pz (sg t0 (val a0)) (val b0)), ()) else none := by cases b <;> kernel_rfl
theorem pd3Sign_e {b : Bool} (n0 : Nat) (t0 : Bool) (a0 b0 : List Nat) (c0 : capD a0 = true) (c1 : capD b0 = true) : ev (evwF fuel) (n0 + 1) b 34 [.o (.agg [⟨.bool, t0⟩, ⟨.nat, a0⟩, ⟨.nat, b0⟩])] [.c (.int .i64)] = some (sgnI (pz (sg t0 (val a0)) (val b0)), ()) := by
  rw [pd3Sign_k]
  simp only [c0, c1, Bool.and_self, Bool.and_true, cond_true]
  try rfl
end Go.Proofs.YtcggnmddcbhchaaGreatDoor
set_option linter.unusedSimpArgs false
set_option linter.unusedVariables false
namespace Go.Proofs.YtcggnmddcbhchaaGreatDoor
open Go.RowKit Lim
theorem mkB_ok {n m : Int} {b : Nat} (h0 : 0 ≤ n) (h1 : n ≤ m) (h2 : m.toNat * b ≤ 140737488355328) (h3 : m.toNat ≤ 9223372036854775807) : mkB n m b = true := by
  unfold mkB
  rw [decide_eq_true h0, decide_eq_true h1, Nat.ble_eq_true_of_le h2, Nat.ble_eq_true_of_le h3]
  rfl
theorem limbsK_dig (k : Nat) : Dig (limbsK k) := by rw [limbsK_eq]; exact dig_limbs k
theorem limbsK_mono {l : List Nat} {k : Nat} (h : k ≤ val l) (hd : Dig l) : (limbsK k).length ≤ l.length := by
  rw [limbsK_eq]
  exact Nat.le_trans (nlen_mono h) (nlen_val hd)
theorem limbsK_len0 (k : Nat) : (limbsK k).length = 0 ↔ k = 0 := by
  rw [limbsK_eq, List.length_eq_zero_iff]
  exact limbs_eq_nil
theorem set_rep {α : Type} (a v : α) (R : List α) : ∀ k, (List.replicate (k + 1) a ++ R).set k v = List.replicate k a ++ v :: R
  | 0 => rfl
  | k + 1 => by
    have := set_rep a v R k
    rw [List.replicate_succ, List.cons_append, List.set_cons_succ, this]
    rfl
theorem rev_loop {step : denL [tI, VT.sl 1 VT.byte] → Option (Ans (denL [tS]))} (b : List UInt8) (hb : b.length < 9223372036854775807) (hs : ∀ (i : Nat) (hi : i < b.length) (o : List UInt8), o.length = b.length → step ((i : Int), o, ()) = some (.cont 0 [tI, VT.sl 1 VT.byte] (((i + 1 : Nat) : Int), o.set (b.length - 1 - i) b[i], ()))) (he : ∀ o, step ((b.length : Int), o, ()) = some (.ret (o, ()))) :
    loopA 0 [tI, VT.sl 1 VT.byte] step fuel (0, List.replicate b.length 0, ()) = some (.ret (b.reverse, ())) := by
  refine (congrArg (fun o => loopA 0 [tI, VT.sl 1 VT.byte] step fuel (0, o, ())) (show List.replicate b.length 0 = List.replicate (b.length - 0) 0 ++ (b.take 0).reverse by simp)).trans ?_
  refine loopA_range (R := denL [tS]) (ts := [tI, VT.sl 1 VT.byte]) (N := b.length) (fun i => ((i : Int), List.replicate (b.length - i) 0 ++ (b.take i).reverse, ())) (fun i hi => ?_) ?_ rfl (fuel_lt (by omega))
  · rw [hs i hi _ (by simp; omega)]
    obtain ⟨j, hj⟩ : ∃ j, b.length - i = j + 1 := ⟨b.length - i - 1, by omega⟩
    rw [hj, show b.length - 1 - i = j by omega, set_rep, show b.length - (i + 1) = j by omega, List.take_add_one, List.getElem?_eq_getElem hi, List.reverse_append]
    rfl
  · rw [he, Nat.sub_self, List.take_length]
    rfl
def restD (m : Nat) : List UInt8 := if m = 0 then [] else Lib.decDigits m
theorem restD_step {m : Nat} (h : m ≠ 0) : restD m = restD (m / 10) ++ [UInt8.ofNat (48 + m % 10)] := by
  unfold restD
  rw [if_neg h]
  by_cases h10 : m < 10
  · rw [if_pos (by omega), Lib.decDigits_one h10, Nat.mod_eq_of_lt h10]; rfl
  · rw [if_neg (by omega), dec_big h10]
section
variable (n : Nat)
theorem r1print_e (l : List Nat) (hd : Dig l) (hl : l.length ≤ 1048600) : EF fuel (n + 2) 68 [vN l] gS = some (decK (val l), ()) := by
  refine (ref01_Print_m (n + 1) l).trans ?_
  rw [bind_go (pd1Norm_e (b := true) n l (capD_ok hd hl))]
  dsimp only
  have hlen := limbsK_mono (Nat.le_refl (val l)) hd
  by_cases h0 : val l = 0
  · rw [show (((limbsK (val l)).length : Int) == 0) = true by rw [beq_iff_eq]; have := (limbsK_len0 (val l)).2 h0; omega, cond_true, h0]
    rfl
  rw [show (((limbsK (val l)).length : Int) == 0) = false by rw [beq_eq_false_iff_ne]; intro e; exact h0 ((limbsK_len0 (val l)).1 (by omega)), cond_false]
  rw [w64 (z := 10 * ((limbsK (val l)).length : Int)) (by omega) (by omega), mkB_ok (by omega) (by omega) (by omega) (by omega), cond_true]
  refine congrArg (a₂ := some (Ans.ret (decK (val l), ()))) unwrapA ?_
  have hD : (Lib.decDigits (val l)).length ≤ 10995116277761 := dec_len (by have := nlen_val hd; omega)
  refine loopA_inv (R := denL [tS]) (ts := [VT.sl 1 VT.byte, tN]) (fun x => ∃ m b, x = (b, limbsK m, ()) ∧ m ≤ val l ∧ restD m ++ b.reverse = Lib.decDigits (val l)) (fun (x : List UInt8 × List Nat × Unit) => (restD (val x.2.1)).length) (fun x hx => ?_) _ ⟨val l, [], rfl, Nat.le_refl _, by unfold restD; rw [if_neg h0]; simp⟩ ?_
  · obtain ⟨m, b, rfl, hm, hinv⟩ := hx
    have hbl : b.length ≤ 10995116277761 := by
      have := congrArg List.length hinv
      rw [List.length_append, List.length_reverse] at this
      omega
    dsimp only
    by_cases hm0 : m = 0
    · subst hm0
      refine .inl ⟨?_, rfl⟩
      rw [decide_eq_false (show ¬ 0 < ((limbsK 0).length : Int) by have := (limbsK_len0 0).2 rfl; omega), cond_false, mkB_ok (by omega) (by omega) (by omega) (by omega), cond_true]
      have hr : b.reverse = decK (val l) := by rw [decK_eq, ← hinv]; rfl
      rw [← hr, Int.toNat_natCast]
      refine rev_loop b (by omega) (fun i hi o ho => ?_) (fun o => ?_)
      · dsimp only
        have e1 : IntKind.i64.wrap (IntKind.i64.wrap ((b.length : Int) - 1) - (i : Int)) = ((b.length - 1 - i : Nat) : Int) := by
          rw [w64 (z := (b.length : Int) - 1) (by omega) (by omega), w64 (by omega) (by omega)]
          omega
        have e2 : byteR ((b[i].toNat : Nat) : Int) = true := by
          have := b[i].toNat_lt
          unfold byteR
          rw [decide_eq_true (by omega), decide_eq_true (by omega)]; rfl
        rw [dlt hi, cond_true, Int.toNat_natCast, decide_eq_true (show (0 : Int) ≤ (i : Int) by omega), decide_eq_true (show i < b.length from hi), show (Nat.beq 1 1 && (true && true)) = true from rfl, cond_true, List.getElem?_eq_getElem hi, Option.bind_some, e1, Int.toNat_natCast, decide_eq_true (show (0 : Int) ≤ ((b.length - 1 - i : Nat) : Int) by omega), decide_eq_true (show b.length - 1 - i < o.length by omega), show (Nat.beq 1 1 && (true && true)) = true from rfl, cond_true, List.getElem?_eq_getElem (show b.length - 1 - i < o.length by omega), Option.bind_some, e2, Bool.and_true, cond_true, w64n (by omega), Int.toNat_natCast, UInt8.ofNat_toNat]
      · dsimp only
        rw [dge (Nat.le_refl _), cond_false]
    · have hs := restD_step hm0
      have hpos : 0 < (limbsK m).length := by
        rcases Nat.eq_zero_or_pos (limbsK m).length with h | h
        · exact absurd ((limbsK_len0 m).1 h) hm0
        · exact h
      have hml := limbsK_mono hm hd
      have e1 : IntKind.u8.wrap (IntKind.u64.wrap (48 + ((m % 10 : Nat) : Int))) = ((48 + m % 10 : Nat) : Int) := by
        rw [u64w (z := 48 + ((m % 10 : Nat) : Int)) (by omega) (by omega)]
        simp [IntKind.wrap, IntKind.bits, IntKind.signed]
        omega
      have e2 : byteR ((48 + m % 10 : Nat) : Int) = true := by
        unfold byteR
        rw [decide_eq_true (by omega), decide_eq_true (by omega)]; rfl
      refine .inr ⟨(b ++ [UInt8.ofNat (48 + m % 10)], limbsK (m / 10), ()), ?_, ⟨m / 10, b ++ [UInt8.ofNat (48 + m % 10)], rfl, by omega, ?_⟩, ?_⟩
      · rw [decide_eq_true (show 0 < ((limbsK m).length : Int) by omega), cond_true, bind_go (pd1Short_e (b := true) n (limbsK m) 10 (capD_ok (limbsK_dig m) (by omega)) (by decide))]
        dsimp only
        rw [val_K, show (10 : Int).toNat = 10 from rfl, e1, e2, Bool.and_true, cond_true, capB_le (by simp only [List.length_cons, List.length_nil]; omega), cond_true, Int.toNat_natCast]
      · rw [List.reverse_append, ← hinv, hs]
        simp
      · show (restD (val (limbsK (m / 10)))).length < (restD (val (limbsK m))).length
        rw [val_K, val_K, hs, List.length_append]
        simp
  · show (restD (val (limbsK (val l)))).length < fuel
    rw [val_K]
    unfold restD
    rw [if_neg h0]
    exact fuel_lt (by omega)
theorem decK_len {k : Nat} (h : nlen k < 1099511627776) : (decK k).length ≤ 10995116277761 := by
  rw [decK_eq]
  exact dec_len h
theorem r2print_e (t : Bool) (l : List Nat) (hd : Dig l) (hl : l.length ≤ 1048600) : EF fuel (n + 3) 69 [.o (.agg [⟨.bool, t⟩, ⟨.nat, l⟩])] gS = some (itoaK (sg t (val l)), ()) := by
  refine (ref02_Print_m (n + 2) t l).trans ?_
  rw [bind_go (pd2Norm_e (b := true) (n + 1) t l (capD_ok hd hl))]
  dsimp only
  have hm : (sg t (val l)).natAbs ≤ val l := by rw [sg_abs]; exact Nat.le_refl _
  have hml := limbsK_mono hm hd
  have hn : nlen (sg t (val l)).natAbs < 1099511627776 := by
    rw [limbsK_eq] at hml
    have : nlen (sg t (val l)).natAbs ≤ l.length := hml
    omega
  have hp := r1print_e n (limbsK (sg t (val l)).natAbs) (limbsK_dig _) (by omega)
  rw [val_K] at hp
  have hk := decK_len hn
  unfold itoaK
  by_cases hz : sg t (val l) < 0
  · rw [decide_eq_true hz, cond_true, cond_true, bind_go hp]
    dsimp only
    rw [strB_le (by simp only [List.length_cons, List.length_nil]; omega)]
    rfl
  · rw [decide_eq_false hz, cond_false, cond_false, bind_go hp, show (sg t (val l)).toNat = (sg t (val l)).natAbs by omega]
    rfl
theorem Q3.OK.kz {q : Q3} (h : q.OK) : capD (limbsK q.z.natAbs) = true := by
  refine capD_ok (limbsK_dig _) ?_
  have h1 : q.z.natAbs ≤ val q.a := by
    unfold Q3.z pz
    split
    · simp
    · rw [sg_abs]; exact Nat.le_refl _
  have := limbsK_mono h1 h.da
  have := h.la
  omega
theorem Q3.OK.kd {q : Q3} (h : q.OK) : capD (limbsK q.d) = true := by
  refine capD_ok (limbsK_dig _) ?_
  have hb := h.lb
  by_cases h0 : val q.b = 0
  · have h2 : q.d = 1 := by unfold Q3.d pd; rw [if_pos h0]
    have h4 : nlen 1 = 1 := by decide +kernel
    rw [limbsK_eq, h2]
    show nlen 1 ≤ _
    omega
  · have h2 : q.d = val q.b := by unfold Q3.d pd; rw [if_neg h0]
    have := limbsK_mono (k := q.d) (l := q.b) (by omega) h.db
    omega
theorem Q3.OK.kn {q : Q3} (h : q.OK) : (limbsK q.n.natAbs).length ≤ 1048600 := by
  have := limbsK_mono q.n_le h.da
  have := h.la
  omega
theorem Q3.OK.km {q : Q3} (h : q.OK) : (limbsK q.m).length ≤ 1048600 := by
  have h1 : q.m ≤ q.d := Nat.div_le_self _ _
  have h2 := limbsK_mono (k := q.m) (l := limbsK q.d) (by rw [val_K]; exact h1) (limbsK_dig _)
  have h3 := (capD_of h.kd).2
  omega
theorem r3norm_e (q : Q3) (h : q.OK) : EF fuel (n + 2) 67 [vQ q] gQ = some (decide (q.n < 0), limbsK q.n.natAbs, limbsK q.m, ()) := by
  have ca : capD q.a = true := capD_ok h.da (by have := h.la; omega)
  have cb : capD q.b = true := capD_ok h.db (by have := h.lb; omega)
  refine (ref03_Norm_m (n + 1) q.t q.a q.b).trans ?_
  rw [bind_go (pd3Top_e (b := true) n q.t q.a q.b ca cb), bind_go (pd3Low_e (b := true) n q.t q.a q.b ca cb)]
  have hz : capD (limbsK (pz (sg q.t (val q.a)) (val q.b)).natAbs) = true := h.kz
  have hd : capD (limbsK (pd (val q.b))) = true := h.kd
  have hp : Nat.blt 0 (val (limbsK (pd (val q.b)))) = true := by
    rw [val_K]
    exact Nat.ble_eq_true_of_le q.d_pos
  rw [bind_go (pd3Red_e (b := true) n _ _ _ hz hd hp), val_K, val_K, sg_own]
  rfl
theorem r3print_e (q : Q3) (h : q.OK) (hl : q.long = false) : EF fuel (n + 4) 31 [vQ q] gS = some (q.tx, ()) := by
  refine (ref03_Print_m (n + 3) q.t q.a q.b).trans ?_
  have p2 := r2print_e n (decide (q.n < 0)) (limbsK q.n.natAbs) (limbsK_dig _) h.kn
  rw [val_K, sg_own] at p2
  have p1 := r1print_e (n + 1) (limbsK q.m) (limbsK_dig _) h.km
  rw [val_K] at p1
  have ht := Q3.tx_len hl
  have h1 : (limbsK 1).length ≤ 1048600 := by
    rw [limbsK_eq]
    show nlen 1 ≤ _
    have h4 : nlen 1 = 1 := by decide +kernel
    omega
  rw [bind_go (r3norm_e (n + 1) q h), bind_go p2, bind_go (pd1Of_e (b := true) (n + 2) 1 (capU_ok (by omega) (by omega)))]
  dsimp only
  rw [bind_go (pd1Cmp_e (b := true) (n + 2) (limbsK q.m) (limbsK (1 : Int).toNat) (capD_ok (limbsK_dig _) h.km) (capD_ok (limbsK_dig _) h1)), val_K, val_K]
  dsimp only
  have e : (cmpI q.m (1 : Int).toNat != 0) = !(Nat.beq q.m 1) := by
    rw [show (1 : Int).toNat = 1 from rfl]
    by_cases hm : q.m = 1
    · rw [hm]; rfl
    · have : Nat.beq q.m 1 = false := by rw [beq_iff]; simpa using hm
      rw [this]
      unfold cmpI
      by_cases h2 : q.m < 1
      · rw [if_pos h2]; rfl
      · rw [if_neg h2, if_pos (by omega)]; rfl
  rw [e]
  unfold Q3.tx ratK at *
  cases hb : Nat.beq q.m 1 with
  | true => rfl
  | false =>
    rw [hb, cond_false] at ht
    simp only [List.length_append, List.length_cons, List.length_nil] at ht
    rw [Bool.not_false, cond_true, strB_s (by simp only [List.length_cons, List.length_nil]; omega), cond_true, bind_go p1]
    dsimp only
    rw [strB_s (by simp only [List.length_append, List.length_cons, List.length_nil]; omega)]
    rfl
theorem r56long_e (q : Q3) (h : q.OK) : EF fuel (n + 3) 29 [vQ q] gB = some (q.long, ()) := by
  have pn := r1print_e n (limbsK q.n.natAbs) (limbsK_dig _) h.kn
  rw [val_K] at pn
  have p1 := r1print_e n (limbsK q.m) (limbsK_dig _) h.km
  rw [val_K] at p1
  refine (ref56_long_m (n + 2) q.t q.a q.b).trans ?_
  rw [bind_go (r3norm_e n q h), bind_go pn, bind_go p1]
  unfold Q3.long
  dsimp only
  have c1 : ∀ k : Nat, decide (400 < (k : Int)) = decide (400 < k) := fun k => decide_eq_decide.2 (by omega)
  rw [c1, c1]
  cases decide (400 < (decK q.n.natAbs).length) <;> rfl
theorem r56number_e (z : Int) (h : in64 z) : EF fuel (n + 4) 30 [vI z] gS = some (itoaK z, ()) := by
  refine (ref56_number_m (n + 3) z).trans ?_
  have hl : (limbsK z.natAbs).length ≤ 1048600 := by
    have h2 := nlen_mono (show z.natAbs ≤ 9223372036854775808 by have := h.1; have := h.2; omega)
    have e : nlen 9223372036854775808 = 2 := by decide +kernel
    rw [limbsK_eq]
    show nlen _ ≤ _
    omega
  have p2 := r2print_e n (decide (z < 0)) (limbsK z.natAbs) (limbsK_dig _) hl
  rw [val_K, sg_own] at p2
  rw [bind_go (pd2Of_e (b := true) (n + 2) z h.cap), bind_go p2]
  rfl
theorem within_e (x lo hi : Int) : EF fuel (n + 1) 35 [vI x, vI lo, vI hi] gB = some (decide (lo ≤ x) && decide (x ≤ hi), ()) := by
  refine (ref56_within_m n x lo hi).trans ?_
  cases decide (lo ≤ x) <;> rfl
theorem r56reason_e (z : Int) : EF fuel (n + 1) 14 [vI z] gS = some (reason z, ()) := by
  refine (ref56_Reason_m n z).trans ?_
  unfold reason
  cases z == 0
  case true => rfl
  cases z == 1
  case true => rfl
  cases z == 2
  case true => rfl
  cases z == 3
  case true => rfl
  cases z == 4 <;> rfl
theorem wi {x lo hi : Int} : (decide (lo ≤ x) && decide (x ≤ hi)) = !(decide (x < lo) || decide (hi < x)) := by
  by_cases h1 : x < lo
  · rw [decide_eq_true h1, decide_eq_false (show ¬ lo ≤ x by omega)]; rfl
  · rw [decide_eq_false h1, decide_eq_true (show lo ≤ x by omega)]
    by_cases h2 : hi < x
    · rw [decide_eq_true h2, decide_eq_false (show ¬ x ≤ hi by omega)]; rfl
    · rw [decide_eq_false h2, decide_eq_true (show x ≤ hi by omega)]; rfl
theorem r56valid_e (r : Res) (h : r.OK) : EF fuel (n + 2) 12 [vR r] gI = some (r.valid, ()) := by
  have ca : capD r.v.a = true := capD_ok h.v.da (by have := h.v.la; omega)
  have cb : capD r.v.b = true := capD_ok h.v.db (by have := h.v.lb; omega)
  refine (ref56_Valid_m (n + 1) r.m.t r.m.a r.m.b r.v.t r.v.a r.v.b r.lo r.hi r.sc r.es r.st r.sp).trans ?_
  rw [bind_go (pd3Sign_e (b := true) n r.v.t r.v.a r.v.b ca cb), bind_go (within_e n r.lo (-1000) 1000), bind_go (within_e n r.hi (-1000) 1000), bind_go (within_e n r.sc (-1000000) 1000000), bind_go (within_e n r.es 0 1000000), bind_go (within_e n r.sp 0 18), bind_go (within_e n r.st 0 4)]
  unfold Res.valid beyondB
  dsimp only
  rw [wi, wi, wi, wi, wi, wi]
  rw [show pz (sg r.v.t (val r.v.a)) (val r.v.b) = r.v.z from rfl]
  generalize decide (sgnI r.v.z < 0) = b1
  generalize (decide (r.lo < -1000) || decide (1000 < r.lo)) = b2
  generalize (decide (r.hi < -1000) || decide (1000 < r.hi)) = b3
  generalize (decide (r.sc < -1000000) || decide (1000000 < r.sc)) = b4
  generalize decide (r.es < 0) = b5
  generalize decide (1000000 < r.es) = b6
  generalize decide (r.sp < 0) = b7
  generalize decide (18 < r.sp) = b8
  generalize decide (r.hi < r.lo) = b9
  generalize decide (r.st < 0) = c1
  generalize decide (4 < r.st) = c2
  cases b1
  case true => rfl
  cases b2
  case true => rfl
  cases b3
  case true => rfl
  cases b4
  case true => rfl
  cases b5
  case true => rfl
  cases b6
  case true => rfl
  cases b7
  case true => rfl
  cases b8
  case true => rfl
  cases b9
  case true => rfl
  cases c1
  case true => rfl
  cases c2 <;> rfl
end
end Go.Proofs.YtcggnmddcbhchaaGreatDoor
set_option linter.unusedSimpArgs false
set_option linter.unusedVariables false
namespace Go.Proofs.YtcggnmddcbhchaaGreatDoor
open Go.RowKit Lim
section
variable (n : Nat)
end
theorem awake_e : EF fuel 20 15 [] gB = some (true, ()) := by kernel_rfl
end Go.Proofs.YtcggnmddcbhchaaGreatDoor
set_option linter.unusedSimpArgs false
set_option linter.unusedVariables false
namespace Go.Proofs.YtcggnmddcbhchaaGreatDoor
open Go.ChangeShapes Go.WideShapes Go.ChangeAt Go.RowKit Lim
inductive SH where
  | int (k : IntKind)
  | bool
  | str
  | nat
  | sl (e : SH)
  | nil
  | cons (f r : SH)
def SH.sz : SH → Nat
  | .nil => 0
  | .cons f r => f.sz + r.sz
  | _ => 1
inductive Ok (B : Nat) : SH → List AV → Prop
  | int {k : IntKind} {z : Int} (h : k.min ≤ z ∧ z ≤ k.max) : Ok B (.int k) [.lit (.int k z)]
  | bool {b : Bool} : Ok B .bool [.lit (.bool b)]
  | str {l : List UInt8} (h : l.length ≤ B) : Ok B .str [Go.Proofs.YtcggnmddcbhchaaGreatDoor.str l]
  | nat {l : List Nat} (h1 : Dig l) (h2 : l.length ≤ B) : Ok B .nat [.nat l]
  | sl {e : SH} {xs : List (List AV)} (h1 : xs.length ≤ B) (h2 : ∀ x, x ∈ xs → Ok B e x) : Ok B (.sl e) [.sl e.sz (xs.map (mkEl e.sz))]
  | nil : Ok B .nil []
  | cons {f r : SH} {a b : List AV} (h1 : Ok B f a) (h2 : Ok B r b) : Ok B (.cons f r) (a ++ b)
theorem Ok.facts {B : Nat} {s : SH} {cs : List AV} (h : Ok B s cs) : cs.length = s.sz ∧ cs.all AV.one = true := by
  induction h with
  | cons _ _ ih1 ih2 => simp only [SH.sz, List.length_append, List.all_append, ih1.1, ih2.1, ih1.2, ih2.2, Bool.and_self]; exact ⟨trivial, trivial⟩
  | nil => exact ⟨rfl, rfl⟩
  | _ => exact ⟨rfl, rfl⟩
def shB (P : Program) : SH → (TypeId → Bool) × (List Field → Nat → Bool)
  | .int k => (fun t => match P.underlying t with | some (.int k') => decide (k' = k) | _ => false, fun _ _ => false)
  | .bool => (fun t => match P.underlying t with | some .bool => true | _ => false, fun _ _ => false)
  | .str => (fun t => match P.underlying t with | some .string => true | _ => false, fun _ _ => false)
  | .nat => (fun t => match P.underlying t with | some (.slice e) => (match P.underlying e with | some (.int .u32) => P.cellsOf e == 1 | _ => false) | _ => false, fun _ _ => false)
  | .sl s => (fun t => match P.underlying t with | some (.slice e) => (shB P s).1 e && P.cellsOf e == s.sz && decide (0 < s.sz) | _ => false, fun _ _ => false)
  | .nil => (fun t => match P.underlying t with | some (.struct fs) => fs.toList.isEmpty && P.cellsOf t == 0 | _ => false, fun fs _ => fs.isEmpty)
  | .cons f r => (fun t => match P.underlying t with | some (.struct fs) => (match fs.toList with | g :: gs => g.offset == 0 && (shB P f).1 g.type && P.cellsOf g.type == f.sz && (shB P r).2 gs (0 + f.sz) | [] => false) && P.cellsOf t == f.sz + r.sz | _ => false,
      fun fs off => match fs with | g :: gs => g.offset == off && (shB P f).1 g.type && P.cellsOf g.type == f.sz && (shB P r).2 gs (off + f.sz) | [] => false)
theorem bulk_one {H : Type} (d : DataW H) : 1 ≤ Rows.uptoBulk d := by
  cases d with
  | lit l => cases l <;> simp [Rows.uptoBulk]
  | nil => simp [Rows.uptoBulk]
  | ptr d => simp [Rows.uptoBulk]
  | slice elems spare => simp [Rows.uptoBulk]
  | agg parts => simp [Rows.uptoBulk]
  | iface t d => simp [Rows.uptoBulk]
  | map entries => simp [Rows.uptoBulk]
  | held h => simp [Rows.uptoBulk]
theorem bulk_len {H : Type} (l : List (DataW H)) : l.length ≤ Rows.uptoBulkAll l := by
  induction l with
  | nil => simp [Rows.uptoBulkAll]
  | cons x r ih => have := bulk_one x; simp only [Rows.uptoBulkAll, List.length_cons]; omega
theorem bulk_mem {H : Type} {l : List (DataW H)} {x : DataW H} (h : x ∈ l) : Rows.uptoBulk x ≤ Rows.uptoBulkAll l := by
  induction l with
  | nil => simp at h
  | cons y r ih =>
    simp only [Rows.uptoBulkAll]
    rcases List.mem_cons.1 h with rfl | h
    · omega
    · have := ih h; omega
theorem cell_spot {w : World} {a : Addr} {v : Value} (h : w.cell? a = some v) : a = ⟨a.block, a.off, none⟩ := by
  obtain ⟨b, o, s⟩ := a
  cases s with
  | none => rfl
  | some q =>
    simp only [World.cell?] at h
    split at h <;> simp at h
abbrev inW (w : World) : Zone := fun b _ => b < w.heap.size
section
variable {H : Type} {enc : TypeId × Value → H} {P : Program} {w : World} {base : Nat} {spare : Nat → Bool} {held : Bool} {B : Nat}
theorem open_nat {t e : TypeId} {fuel : Nat} {cs : List Value} {x : DataW H × List MemPlace} (ht : P.underlying t = some (.slice e)) (he : P.underlying e = some (.int .u32)) (hc : P.cellsOf e = 1)
    (h : DataW.trod enc P w base spare held fuel t cs = some x) (hB : Rows.uptoBulk x.1 ≤ B) : ∃ l v, cs = [v] ∧ Dig l ∧ l.length ≤ B ∧ Rep w (inW w) (.nat l) v := by
  rcases open_ints ht he hc h with ⟨rfl, rfl⟩ | ⟨a, len, cap, zs, rfl, _, hl, hm, hz, rfl, hcell, hwf⟩
  · exact ⟨[], _, rfl, dig_nil, by simp, Rep.nat (l := []) (Rd.nil _ _) (by simp) (fun _ _ _ j hj => by simp at hj)⟩
  · have hlen : len ≤ zs.length := by rw [hz]; split <;> omega
    have hb : ∀ n ∈ zs, 0 ≤ n ∧ n < 4294967296 := fun n hn => by
      have := hwf n hn
      simp [Lit.wf, IntKind.min, IntKind.max, IntKind.signed, IntKind.bits] at this
      omega
    have hl2 : ((zs.take len).map Int.toNat).length = len := by simp; omega
    have hd : Dig ((zs.take len).map Int.toNat) := by
      intro y hy
      obtain ⟨n, hn, rfl⟩ := List.mem_map.1 hy
      have := hb n (List.mem_of_mem_take hn)
      omega
    have hR : Rd w (some a) ((zs.take len).map Int.toNat) := ⟨hd, fun hpos => by
      have h0 := hcell 0 (by omega)
      rw [show a.add 0 = a by simp [Addr.add]] at h0
      have ha := cell_spot h0
      refine ⟨a.block, a.off, by rw [← ha], World.block_lt_of_cell? w a h0, fun j hj => ?_⟩
      have hj2 : j < zs.length := by omega
      have := hcell j hj2
      rw [ha, add_addr] at this
      rw [this]
      simp only [List.getElem_map, List.getElem_take]
      have hb2 := hb zs[j] (List.getElem_mem hj2)
      rw [Int.toNat_of_nonneg hb2.1]
      simp [List.getD, List.getElem?_eq_getElem hj2]⟩
    refine ⟨(zs.take len).map Int.toNat, .slice (some a) ((zs.take len).map Int.toNat).length cap, by rw [hl2], hd, ?_, .nat hR (by omega) ?_⟩
    · rw [hl2]
      simp only [Rows.uptoBulk] at hB
      have h1 := bulk_len (lits (H := H) .u32 (zs.take len))
      have : (lits (H := H) .u32 (zs.take len)).length = len := by simp [lits]; omega
      omega
    · intro b off e j hj
      obtain ⟨b', off', e', hb', _⟩ := hR.2 (by omega)
      rw [e] at e'
      cases e'
      exact hb'
def Stand (w : World) (as' : List AV) (cs : List Value) : Prop := as'.length = cs.length ∧ ∀ j (h1 : j < as'.length) (h2 : j < cs.length), Rep w (inW w) (as'[j]'h1) (cs[j]'h2)
theorem Stand.one {a : AV} {v : Value} (h : Rep w (inW w) a v) : Stand w [a] [v] := ⟨rfl, fun j h1 h2 => by
  have : j = 0 := by simp at h1; exact h1
  subst this
  exact h⟩
theorem add_cell {a : Addr} {i j : Nat} : (a.add i).add j = a.add (i + j) := Go.Deep.add_add a i j
theorem open_sl {s : SH} {t e : TypeId} {fuel : Nat} {cs : List Value} {x : DataW H × List MemPlace} (ht : P.underlying t = some (.slice e)) (hc : P.cellsOf e = s.sz) (hs : 0 < s.sz)
    (ih : ∀ {n : Nat} {cs' : List Value} {y : DataW H × List MemPlace}, DataW.trod enc P w base spare held n e cs' = some y → Rows.uptoBulk y.1 ≤ B → ∃ as', Ok B s as' ∧ Stand w as' cs')
    (h : DataW.trod enc P w base spare held fuel t cs = some x) (hB : Rows.uptoBulk x.1 ≤ B) : ∃ as', Ok B (.sl s) as' ∧ Stand w as' cs := by
  rcases Go.Deep.open_slice ht h with ⟨rfl, rfl⟩ | ⟨a, len, cap, m, n, D, Pl, rfl, hb, hl, hm, hmm, rfl, hx⟩
  · exact ⟨_, .sl (xs := []) (by simp) (fun x hx => by simp at hx), Stand.one .nil⟩
  have hlm : len ≤ m := by rw [hmm]; split <;> omega
  simp only [Rows.uptoBulk] at hB
  have h1 := bulk_len ((List.range len).map D)
  have h2 : ((List.range len).map D).length = len := by simp
  have hel : ∀ i, i < len → ∃ as', Ok B s as' ∧ ∃ cs', w.cells? base (a.add (i * s.sz)) s.sz = some cs' ∧ Stand w as' cs' := fun i hi => by
    obtain ⟨cs', k1, k2⟩ := hx i (by omega)
    rw [hc] at k1
    have k3 : Rows.uptoBulk (D i) ≤ Rows.uptoBulkAll ((List.range len).map D) := bulk_mem (List.mem_map.2 ⟨i, List.mem_range.2 hi, rfl⟩)
    obtain ⟨as', o1, o2⟩ := ih k2 (show Rows.uptoBulk (D i) ≤ B by omega)
    exact ⟨as', o1, cs', k1, o2⟩
  let A : Nat → List AV := fun i => if h : i < len then Classical.choose (hel i h) else []
  have hA : ∀ i (hi : i < len), Ok B s (A i) ∧ ∃ cs', w.cells? base (a.add (i * s.sz)) s.sz = some cs' ∧ Stand w (A i) cs' := fun i hi => by
    have := Classical.choose_spec (hel i hi)
    simp only [A, dif_pos hi]
    exact this
  let V : Nat → List Value := fun i => (w.cells? base (a.add (i * s.sz)) s.sz).getD []
  have hV : ∀ i (hi : i < len), w.cells? base (a.add (i * s.sz)) s.sz = some (V i) ∧ Stand w (A i) (V i) := fun i hi => by
    obtain ⟨_, cs', k1, k2⟩ := hA i hi
    simp only [V, k1, Option.getD_some]
    exact ⟨trivial, k2⟩
  have hcl : ∀ i (hi : i < len) j (hj : j < s.sz), ∃ hv : j < (V i).length, w.cell? (a.add (i * s.sz + j)) = some ((V i)[j]'hv) := fun i hi j hj => by
    obtain ⟨_, k2, k3⟩ := World.cells?_some (hV i hi).1
    refine ⟨by omega, ?_⟩
    rw [← add_cell, k3 j hj, List.getElem?_eq_getElem]
  have hE : ∀ i (hi : i < len), (mkEl s.sz (A i)).cells = A i := fun i hi => mkEl_cells hs (hA i hi).1.facts.1 (hA i hi).1.facts.2
  have hmm' : ((List.range len).map A).map (mkEl s.sz) = (List.range len).map fun i => mkEl s.sz (A i) := by rw [List.map_map]; rfl
  refine ⟨_, .sl (xs := (List.range len).map A) (by simp; omega) (fun x hx => ?_), Stand.one ?_⟩
  · obtain ⟨i, hi, rfl⟩ := List.mem_map.1 hx
    exact (hA i (List.mem_range.1 hi)).1
  · rw [hmm']
    by_cases h0 : len = 0
    · subst h0
      exact .nil
    · obtain ⟨_, hc0⟩ := hcl 0 (by omega) 0 hs
      have hadd0 : a.add (0 * s.sz + 0) = a := by simp [Addr.add]
      rw [hadd0] at hc0
      have ha := cell_spot hc0
      have hlt := World.block_lt_of_cell? w a hc0
      have key : Rep w (inW w) (.sl s.sz ((List.range len).map fun i => mkEl s.sz (A i))) (.slice (some ⟨a.block, a.off, none⟩) ((List.range len).map fun i => mkEl s.sz (A i)).length cap) := by
        refine .sl (fun i j => (V i).getD j undef) hlt (by simp; exact hl) (fun i hi => ?_) (fun i j hi hj => ?_) (fun i hi j hj => ?_)
        · simp only [List.length_map, List.length_range] at hi
          simp only [List.getElem_map, List.getElem_range, hE i hi]
          exact (hA i hi).1.facts.1
        · simp only [List.length_map, List.length_range] at hi
          obtain ⟨q1, q2⟩ := hcl i hi j hj
          rw [ha, add_addr] at q2
          refine ⟨?_, hlt⟩
          rw [Nat.add_assoc, q2]
          simp [List.getD, List.getElem?_eq_getElem q1]
        · simp only [List.length_map, List.length_range] at hi
          have e0 : ((List.range len).map fun i => mkEl s.sz (A i))[i]'(by simpa using hi) = mkEl s.sz (A i) := by simp
          have hj' : j < (A i).length := by
            rw [← hE i hi]
            simpa [e0] using hj
          obtain ⟨q1, q2⟩ := hcl i hi j (by rw [← (hA i hi).1.facts.1]; exact hj')
          have := (hV i hi).2.2 j hj' q1
          have e1 : (V i).getD j undef = (V i)[j] := by simp [List.getD, List.getElem?_eq_getElem q1]
          rw [e1]
          have e2 : (((List.range len).map fun i => mkEl s.sz (A i))[i]'(by simpa using hi)).cells[j]'hj = (A i)[j] := by simp only [e0, hE i hi]
          rw [e2]
          exact this
      rw [ha]
      simpa using key
end
end Go.Proofs.YtcggnmddcbhchaaGreatDoor
set_option linter.unusedSimpArgs false
set_option linter.unusedVariables false
namespace Go.Proofs.YtcggnmddcbhchaaGreatDoor
open Go.ChangeShapes Go.WideShapes Go.ChangeAt Go.RowKit Lim
section
variable {H : Type} {enc : TypeId × Value → H} {P : Program} {w : World} {base : Nat} {spare : Nat → Bool} {held : Bool} {B : Nat}
theorem Stand.app {as' bs' : List AV} {cs ds : List Value} (h1 : Stand w as' cs) (h2 : Stand w bs' ds) : Stand w (as' ++ bs') (cs ++ ds) := by
  refine ⟨by rw [List.length_append, List.length_append, h1.1, h2.1], fun j k1 k2 => ?_⟩
  by_cases hj : j < as'.length
  · rw [List.getElem_append_left hj, List.getElem_append_left (by rw [← h1.1]; exact hj)]
    exact h1.2 j hj _
  · have e : cs.length = as'.length := h1.1.symm
    rw [List.getElem_append_right (by omega), List.getElem_append_right (by omega)]
    have := h2.2 (j - as'.length) (by simp at k1; omega) (by simp at k2; omega)
    simpa [e] using this
def OpenF (enc : TypeId × Value → H) (P : Program) (w : World) (base : Nat) (spare : Nat → Bool) (held : Bool) (B : Nat) (s : SH) : Prop :=
  ∀ (fs : List Field) (off n : Nat) (cs : List Value) (xs : List (DataW H × List MemPlace)), (shB P s).2 fs off = true → off + s.sz ≤ cs.length →
    (∀ (i : Nat) (f : Field), fs[i]? = some f → DataW.trod enc P w base spare held n f.type ((cs.drop f.offset).take (P.cellsOf f.type)) = xs[i]?) → xs.length = fs.length →
    Rows.uptoBulkAll (xs.map (·.1)) ≤ B → ∃ as', Ok B s as' ∧ Stand w as' ((cs.drop off).take s.sz)
def OpenT (enc : TypeId × Value → H) (P : Program) (w : World) (base : Nat) (spare : Nat → Bool) (held : Bool) (B : Nat) (s : SH) : Prop :=
  ∀ (t : TypeId) (n : Nat) (cs : List Value) (x : DataW H × List MemPlace), (shB P s).1 t = true → DataW.trod enc P w base spare held n t cs = some x → Rows.uptoBulk x.1 ≤ B → ∃ as', Ok B s as' ∧ Stand w as' cs
theorem openT_struct {s : SH} (hF : OpenF enc P w base spare held B s) {t : TypeId} {fs : Array Field} (hu : P.underlying t = some (.struct fs)) (hs : (shB P s).2 fs.toList 0 = true) (hc : P.cellsOf t = s.sz)
    {n : Nat} {cs : List Value} {x : DataW H × List MemPlace} (h : DataW.trod enc P w base spare held n t cs = some x) (hB : Rows.uptoBulk x.1 ≤ B) : ∃ as', Ok B s as' ∧ Stand w as' cs := by
  obtain ⟨xs, n, rfl, rfl, hl, hx, hf⟩ := DataW.trod_struct hu h
  rw [hc] at hl
  simp only [Rows.uptoBulk] at hB
  obtain ⟨as', h1, h2⟩ := hF fs.toList 0 n cs xs hs (by omega) (fun i f hi => hf i f (by simpa using hi)) (by simpa using hx) (by omega)
  rw [List.drop_zero, List.take_of_length_le (by omega)] at h2
  exact ⟨as', h1, h2⟩
theorem open_sh : ∀ s : SH, OpenT enc P w base spare held B s ∧ OpenF enc P w base spare held B s
  | .int k => ⟨fun t n cs x hs h hB => by
      simp only [shB] at hs
      split at hs
      · rename_i k' hu
        have hs := of_decide_eq_true hs
        subst hs
        obtain ⟨z, rfl, rfl, hw⟩ := DataW.trod_int hu h
        refine ⟨_, .int (z := z) ?_, Stand.one (.lit rfl)⟩
        simpa [Lit.wf] using hw
      · exact Bool.noConfusion hs, fun fs off n cs xs hs => by simp [shB] at hs⟩
  | .bool => ⟨fun t n cs x hs h hB => by
      simp only [shB] at hs
      split at hs
      · rename_i hu
        obtain ⟨b, rfl, rfl⟩ := DataW.trod_bool hu h
        exact ⟨_, .bool (b := b), Stand.one (.lit rfl)⟩
      · exact Bool.noConfusion hs, fun fs off n cs xs hs => by simp [shB] at hs⟩
  | .str => ⟨fun t n cs x hs h hB => by
      simp only [shB] at hs
      split at hs
      · rename_i hu
        obtain ⟨b, rfl, rfl, _⟩ := DataW.trod_string hu h
        simp only [Rows.uptoBulk] at hB
        refine ⟨_, .str (l := b.data.toList) (by omega), Stand.one ?_⟩
        have e : bs b.data.toList = b := by cases b; simp [bs]
        show Rep w _ (.lit (.string (bs b.data.toList))) (.string b)
        rw [e]
        exact .lit rfl
      · exact Bool.noConfusion hs, fun fs off n cs xs hs => by simp [shB] at hs⟩
  | .nat => ⟨fun t n cs x hs h hB => by
      simp only [shB] at hs
      split at hs
      · rename_i e hu
        split at hs
        · rename_i he
          obtain ⟨l, v, rfl, h1, h2, h3⟩ := open_nat hu he (by simpa using hs) h hB
          exact ⟨_, .nat h1 h2, Stand.one h3⟩
        · cases hs
      · exact Bool.noConfusion hs, fun fs off n cs xs hs => by simp [shB] at hs⟩
  | .sl s => ⟨fun t n cs x hs h hB => by
      simp only [shB] at hs
      split at hs
      · rename_i e hu
        simp only [Bool.and_eq_true, beq_iff_eq, decide_eq_true_eq] at hs
        exact open_sl hu hs.1.2 hs.2 (fun hy hb => (open_sh s).1 e _ _ _ hs.1.1 hy hb) h hB
      · exact Bool.noConfusion hs, fun fs off n cs xs hs => by simp [shB] at hs⟩
  | .nil => by
    have hF : OpenF enc P w base spare held B .nil := fun fs off n cs xs hs hl hf hx hb => ⟨[], .nil, by simp [SH.sz], fun j h1 h2 => by simp at h1⟩
    refine ⟨fun t n cs x hs h hB => ?_, hF⟩
    simp only [shB] at hs
    split at hs
    · rename_i fs hu
      simp only [Bool.and_eq_true, beq_iff_eq] at hs
      exact openT_struct hF hu hs.1 hs.2 h hB
    · cases hs
  | .cons f r => by
    have hF : OpenF enc P w base spare held B (.cons f r) := fun fs off n cs xs hs hl hf hx hb => by
      cases fs with
      | nil => simp [shB] at hs
      | cons g gs =>
        simp only [shB, Bool.and_eq_true, beq_iff_eq] at hs
        obtain ⟨⟨⟨ho, hg⟩, hc⟩, hr⟩ := hs
        cases xs with
        | nil => simp at hx
        | cons x xs =>
          simp only [List.map_cons, Rows.uptoBulkAll] at hb
          simp only [SH.sz] at hl
          have h0 := hf 0 g rfl
          rw [ho, hc] at h0
          obtain ⟨as1, k1, k2⟩ := (open_sh f).1 g.type n _ x hg h0 (by omega)
          obtain ⟨as2, k3, k4⟩ := (open_sh r).2 gs (off + f.sz) n cs xs hr (by omega) (fun i q hi => hf (i + 1) q (by simpa using hi)) (by simpa using hx) (by omega)
          refine ⟨as1 ++ as2, .cons k1 k3, ?_⟩
          have e : (cs.drop off).take (f.sz + r.sz) = (cs.drop off).take f.sz ++ (cs.drop (off + f.sz)).take r.sz := by
            rw [List.take_add, List.drop_drop]
          show Stand w _ ((cs.drop off).take (f.sz + r.sz))
          rw [e]
          exact k2.app k4
    refine ⟨fun t n cs x hs h hB => ?_, hF⟩
    simp only [shB] at hs
    split at hs
    · rename_i fs hu
      simp only [Bool.and_eq_true, beq_iff_eq] at hs
      exact openT_struct hF hu hs.1 hs.2 h hB
    · cases hs
def SH.top : SH → List AV → AV
  | .nil, cs => .agg cs
  | .cons _ _, cs => .agg cs
  | _, cs => cs.headD (.agg [])
theorem stand_top {s : SH} {t : TypeId} {v : Value} {as' : List AV} {r : Reach} (hs : (shB P s).1 t = true) (ho : Ok B s as') (h : Stand w as' v.cells.toList) (hv : Value.okWide P w r base t v) : Rep w (inW w) (s.top as') v := by
  have one : ∀ {a : AV}, as' = [a] → v.cells.toList = [v] → Rep w (inW w) a v := fun {a} e1 e2 => by
    subst e1
    rw [e2] at h
    exact h.2 0 (by simp) (by simp)
  have agg : (∃ cs, v = .agg cs) → Rep w (inW w) (.agg as') v := fun ⟨cs, e⟩ => by
    subst e
    have h' : Stand w as' cs.toList := h
    exact .agg (by have := h'.1; simp at this; omega) fun j hj => by
      have := h'.2 j hj (by have := h'.1; simp at this ⊢; omega)
      simpa using this
  cases ho with
  | int hh =>
    simp only [shB] at hs
    split at hs
    · rename_i hu
      obtain ⟨n, rfl⟩ := okWide_int hu hv
      exact one rfl rfl
    · cases hs
  | bool =>
    simp only [shB] at hs
    split at hs
    · rename_i hu
      obtain ⟨n, rfl⟩ := okWide_bool hu hv
      exact one rfl rfl
    · cases hs
  | str hh =>
    simp only [shB] at hs
    split at hs
    · rename_i hu
      obtain ⟨n, rfl⟩ := okWide_string hu hv
      exact one rfl rfl
    · cases hs
  | nat h1 h2 =>
    simp only [shB] at hs
    split at hs
    · rename_i hu
      obtain ⟨a, n, c, rfl⟩ := okWide_slice hu hv
      exact one rfl rfl
    · cases hs
  | sl h1 h2 =>
    simp only [shB] at hs
    split at hs
    · rename_i hu
      obtain ⟨a, n, c, rfl⟩ := okWide_slice hu hv
      exact one rfl rfl
    · cases hs
  | nil =>
    simp only [shB] at hs
    split at hs
    · rename_i hu
      obtain ⟨cs, e, _⟩ := okWide_struct hu hv
      exact agg ⟨cs, e⟩
    · cases hs
  | cons h1 h2 =>
    simp only [shB] at hs
    split at hs
    · rename_i hu
      obtain ⟨cs, e, _⟩ := okWide_struct hu hv
      exact agg ⟨cs, e⟩
    · cases hs
inductive OkA (B : Nat) : List SH → List AV → Prop
  | nil : OkA B [] []
  | cons {s : SH} {ss : List SH} {cs : List AV} {as' : List AV} (h1 : Ok B s cs) (h2 : OkA B ss as') : OkA B (s :: ss) (s.top cs :: as')
def shAll (P : Program) : List SH → List TypeId → Bool
  | [], [] => true
  | s :: ss, t :: ts => (shB P s).1 t && shAll P ss ts
  | _, _ => false
theorem args_open : ∀ (ss : List SH) (ts : List TypeId) (vs : List Value) (ds : List (DataW H)) (p : List MemPlace) (r : Reach) (b : Nat), shAll P ss ts = true → DataW.TrodAll enc P w base spare held ts vs ds p →
    (∀ (j : Nat) (t : TypeId) (v : Value), ts[j]? = some t → vs[j]? = some v → Value.okWide P w r b t v) → Rows.uptoBulkAll ds ≤ B → ∃ as', OkA B ss as' ∧ Stand w as' vs
  | [], [], vs, ds, p, r, b, _, h, _, _ => by
    obtain ⟨rfl, rfl, rfl⟩ := trodAll_nil h
    exact ⟨[], .nil, rfl, fun j h1 => by simp at h1⟩
  | [], t :: ts, _, _, _, _, _, hs, _, _, _ => by simp [shAll] at hs
  | s :: ss, [], _, _, _, _, _, hs, _, _, _ => by simp [shAll] at hs
  | s :: ss, t :: ts, vs, ds, p, r, b, hs, h, hv, hB => by
    obtain ⟨v, vs1, d, ds1, p1, p2, rfl, rfl, rfl, ⟨n, h1⟩, h2⟩ := trodAll_cons h
    simp only [shAll, Bool.and_eq_true] at hs
    simp only [Rows.uptoBulkAll] at hB
    obtain ⟨cs, k1, k2⟩ := (open_sh s).1 t n _ _ hs.1 h1 (show Rows.uptoBulk d ≤ B by omega)
    obtain ⟨as', k3, k4⟩ := args_open ss ts vs1 ds1 p2 r b hs.2 h2 (fun j t v ht hv' => hv (j + 1) t v (by simpa using ht) (by simpa using hv')) (by omega)
    have hr := stand_top hs.1 k1 k2 (hv 0 t v rfl rfl)
    exact ⟨_, .cons k1 k3, (Stand.one hr).app k4⟩
theorem stand_args {as' : List AV} {args : Array Value} (h : Stand w as' args.toList) : Rep w (inW w) (.agg as') (.agg args) :=
  .agg (by have := h.1; simp at this; omega) fun j hj => by
    have := h.2 j hj (by have := h.1; simp at this ⊢; omega)
    simpa using this
end
section
variable {H : Type} {enc : TypeId × Value → H} {P : Program}
theorem stay_all (hl : laidOutB P = true) {W W' : World} (hb : Below W.heap.size W W') : ∀ (ts : List TypeId) (vs : List Value) (ds : List (DataW H)) (p : List MemPlace), ts.all (fun t => P.readableRec t && decide (t < P.types.size)) = true →
    DataW.TrodAll enc P W 0 (fun _ => true) true ts vs ds p → (∀ x ∈ p, x.block < W.heap.size) → ∀ sp : Nat → Bool, (∀ q ∈ p, sp q.block = true) → DataW.TrodAll enc P W' 0 sp true ts vs ds p
  | [], vs, ds, p, _, h, _, sp, _ => by
    obtain ⟨rfl, rfl, rfl⟩ := trodAll_nil h
    exact trodAll_mk0
  | t :: ts, vs, ds, p, ht, h, hlt, sp, hsp => by
    obtain ⟨v, vs1, d, ds1, a, b, rfl, rfl, rfl, h1, h2⟩ := trodAll_cons h
    simp only [List.all_cons, Bool.and_eq_true, decide_eq_true_eq] at ht
    refine trodAll_cons_mk (WideElems.Trod_stays hl ht.1.1 ht.1.2 h1 (fun x hx => hb.same (hlt x (List.mem_append_left _ hx))) (fun x hx => hsp x (List.mem_append_left _ hx))) ?_
    exact stay_all hl hb ts vs1 ds1 b (by simpa using ht.2) h2 (fun x hx => hlt x (List.mem_append_right _ hx)) sp (fun x hx => hsp x (List.mem_append_right _ hx))
theorem law_end (hl : laidOutB P = true) {tb : TypeId} (hu : P.underlying tb = some .bool) {fid : FuncId} {fn : Func} {s : ChangeSpec} {apart : Bool} (hv : s.vars = []) (hres : fn.resultTypes = #[tb]) (hts : fn.params.toList.all (fun t => P.readableRec t && decide (t < P.types.size)) = true)
    {W : World} {args : Array Value} {ds : List (DataW H)} {before : List MemPlace} (hW : DataW.Whole enc P fn.params.toList s.vars apart W args.toList ds [] before)
    (hfn : s.fn H (ds ++ []) = { results := [.lit (.bool true)], args := ds }) (hc : Calls P fid args W fun e W' => e = .returned (.bool true) ∧ Below W.heap.size W W') :
    Calls P fid args W fun e W' => ∃ v, e = .returned v ∧ s.post enc P fn apart true false false W args v W' := by
  have hW' := hW
  obtain ⟨p, q, hA, hV, rfl, hfz, hnd⟩ := hW
  rw [hv] at hV
  obtain ⟨_, rfl⟩ := trodVars_none hV
  refine hc.mono fun e W' ⟨he, hb⟩ => ⟨.bool true, he, ?_⟩
  have hlt : ∀ x ∈ p, x.block < W.heap.size := fun x hx => hW'.lt x (List.mem_append_left _ hx)
  have hl2 : ∀ x ∈ p ++ [], x.block < W.heap.size := fun x hx => hW'.lt x hx
  have hA2 : ∀ sp : Nat → Bool, (∀ x ∈ p, sp x.block = true) → DataW.TrodAll enc P W' 0 sp true fn.params.toList args.toList (s.fn H (ds ++ [])).args p := fun sp h => by
    rw [hfn]
    exact stay_all hl hb _ _ _ _ hts hA hlt sp h
  have hR2 : ∀ b sp hd, DataW.TrodAll enc P W' b sp hd fn.resultTypes.toList ((Value.bool true).resultList fn.resultTypes.size) (s.fn H (ds ++ [])).results [] := fun b sp hd => by
    rw [hfn, hres]
    exact trodAll_cons_mk (shut_bool hu _) trodAll_mk0
  have hV2 : ∀ sp, DataW.TrodVars enc P W' sp s.vars (s.fn H (ds ++ [])).vars [] := fun sp => by
    rw [hfn, hv]
    rfl
  refine ⟨ds, [], p ++ [], [], p, [], hW', hR2 _ _ _, hA2 _ (fun x hx => by simpa using hlt x hx), hV2 _, World.keptBut_mono (fun x hx => ⟨hx, .inr (List.mem_append.1 hx)⟩) (hb.frame (· ∈ p ++ [])), fun _ =>
    ⟨ok_one hres rfl (okWide_bool_mk hu _), _, _, ([] ++ p) ++ [], ⟨[] ++ p, [], trodAll_append (hA2 _ fun _ _ => rfl) (hR2 _ _ _), hV2 _, rfl, fun b off hx => ?_, fun h => by simpa using hnd h⟩, fun x hx _ => by simpa using hx⟩⟩
  have hx2 : MemPlace.cell b off ∈ p ++ [] := by simpa using hx
  rw [hb.frozen (hl2 _ hx2)]
  exact hfz b off hx2
end
theorem ac_calls {fid : FuncId} {avs : List AV} {W : World} {args : Array Value} (hc : AC fid avs (boo true)) (hE : Env W) (hR : Rep W (inW W) (.agg avs) (.agg args)) :
    Calls Tryz.prog fid args W fun e W' => e = .returned (.bool true) ∧ Below W.heap.size W W' := by
  refine (hc.2 W _ args hE (fun _ _ h => h) (fun _ b o v h _ => World.block_lt_of_cell? W _ h) hR).mono fun e W' ⟨v, he, hb, hr⟩ => ⟨?_, hb⟩
  cases hr
  exact he
set_option maxRecDepth 100000 in
theorem law_row {H : Type} {enc : TypeId × Value → H} (hl : laidOutB Tryz.prog = true) {tb : TypeId} (hu : Tryz.prog.underlying tb = some .bool) {fid : FuncId} {fn : Func} {s : ChangeSpec} (hv : s.vars = []) (hres : fn.resultTypes = #[tb]) (hts : fn.params.toList.all (fun t => Tryz.prog.readableRec t && decide (t < Tryz.prog.types.size)) = true)
    (ss : List SH) (hss : shAll Tryz.prog ss fn.params.toList = true) (hfn : ∀ ds : List (DataW H), ds.length = fn.params.toList.length → s.fn H (ds ++ []) = { results := [.lit (.bool true)], args := ds })
    (law : ∀ as', OkA 1048576 ss as' → AC fid as' (boo true))
    {W : World} {base : Nat} {args : Array Value} {ds gs : List (DataW H)} {before : List MemPlace} (hval : ∀ (j : Nat) t v, fn.params[j]? = some t → args[j]? = some v → Value.okWide Tryz.prog W .any base t v)
    (hW : DataW.Whole enc Tryz.prog fn.params.toList s.vars false W args.toList ds gs before) (hE : Env W) (hsm : Rows.uptoSmall H (ds ++ gs) = true) :
    Calls Tryz.prog fid args W fun e W' => ∃ v, e = .returned v ∧ s.post enc Tryz.prog fn false true false false W args v W' := by
  have hW' := hW
  obtain ⟨p, q, hA, hV, rfl, hfz, hnd⟩ := hW
  rw [hv] at hV
  obtain ⟨rfl, rfl⟩ := trodVars_none hV
  simp only [Rows.uptoSmall, List.append_nil, decide_eq_true_eq] at hsm
  obtain ⟨as', k1, k2⟩ := args_open ss _ _ _ _ .any base hss hA (fun j t v ht hv' => hval j t v (by simpa using ht) (by simpa using hv')) hsm
  have hlen : ds.length = fn.params.toList.length := by
    have : ∀ (ts : List TypeId) (vs : List Value) (ds : List (DataW H)) (p : List MemPlace), DataW.TrodAll enc Tryz.prog W 0 (fun _ => true) true ts vs ds p → ds.length = ts.length := by
      intro ts
      induction ts with
      | nil => intro vs ds p h; obtain ⟨rfl, rfl, rfl⟩ := trodAll_nil h; rfl
      | cons t ts ih =>
        intro vs ds p h
        obtain ⟨v, vs1, d, ds1, p1, p2, rfl, rfl, rfl, _, h2⟩ := trodAll_cons h
        rw [List.length_cons, List.length_cons, ih _ _ _ h2]
    exact this _ _ _ _ hA
  exact law_end hl hu hv hres hts hW' (hfn ds hlen) (ac_calls (law as' k1) hE (stand_args k2))
end Go.Proofs.YtcggnmddcbhchaaGreatDoor
set_option linter.unusedSimpArgs false
set_option linter.unusedVariables false
namespace Go.Proofs.YtcggnmddcbhchaaGreatDoor
open Go.RowKit Lim
theorem E_calls {n : Nat} {f : FuncId} {args : List V} {g : Sig} {x : denL g.ts} (h : EF fuel n f args g = some x) (hp : args.all V.plain = true) : AC f (args.map V.av) (resO g x) := by
  rcases (ev_sound evw_ok n).a f args g x hp h with h | h
  · exact h.ofT
  · exact h
section
variable {B : Nat} {cs : List AV}
theorem Ok.pair {f r : SH} (h : Ok B (.cons f r) cs) : ∃ a b, cs = a ++ b ∧ Ok B f a ∧ Ok B r b := by
  cases h with | cons h1 h2 => exact ⟨_, _, rfl, h1, h2⟩
theorem Ok.done (h : Ok B .nil cs) : cs = [] := by cases h; rfl
theorem Ok.i64 (h : Ok B (.int .i64) cs) : ∃ z : Int, cs = [Go.Proofs.YtcggnmddcbhchaaGreatDoor.i64 z] ∧ in64 z := by
  cases h with | int h => exact ⟨_, rfl, by simpa [IntKind.min, IntKind.max, IntKind.signed, IntKind.bits, in64] using h⟩
theorem Ok.boo (h : Ok B .bool cs) : ∃ b : Bool, cs = [Go.Proofs.YtcggnmddcbhchaaGreatDoor.boo b] := by cases h; exact ⟨_, rfl⟩
theorem Ok.limbs (h : Ok B .nat cs) : ∃ l : List Nat, cs = [.nat l] ∧ Dig l ∧ l.length ≤ B := by cases h; exact ⟨_, rfl, by assumption, by assumption⟩
abbrev shI : SH := .int .i64
abbrev shQ : SH := .cons (.cons .bool (.cons .nat .nil)) (.cons .nat .nil)
abbrev shRes : SH := .cons shQ (.cons shQ (.cons shI (.cons shI (.cons shI (.cons shI (.cons shI (.cons shI .nil)))))))
theorem Ok.q (h : Ok B shQ cs) (hB : B ≤ 1048576) : ∃ q : Q3, cs = [Go.Proofs.YtcggnmddcbhchaaGreatDoor.boo q.t, .nat q.a, .nat q.b] ∧ q.OK ∧ q.a.length ≤ 1048576 ∧ q.b.length ≤ 1048576 := by
  obtain ⟨a, b, rfl, h1, h2⟩ := h.pair
  obtain ⟨c, d, rfl, h3, h4⟩ := h1.pair
  obtain ⟨t, rfl⟩ := h3.boo
  obtain ⟨e, f, rfl, h5, h6⟩ := h4.pair
  obtain ⟨l, rfl, d1, l1⟩ := h5.limbs
  obtain ⟨g, i, rfl, h7, h8⟩ := h2.pair
  obtain ⟨m, rfl, d2, l2⟩ := h7.limbs
  rw [h6.done, h8.done]
  exact ⟨⟨t, l, m⟩, rfl, ⟨d1, d2, by show l.length ≤ _; omega, by show m.length ≤ _; omega⟩, by show l.length ≤ _; omega, by show m.length ≤ _; omega⟩
structure Res.Small (r : Res) : Prop where
  ok : r.OK
  l1 : r.m.a.length ≤ 1048576
  l2 : r.m.b.length ≤ 1048576
  l3 : r.v.a.length ≤ 1048576
  l4 : r.v.b.length ≤ 1048576
theorem Ok.res (h : Ok B shRes cs) (hB : B ≤ 1048576) : ∃ r : Res, SH.top shRes cs = (vR r).av ∧ r.Small := by
  obtain ⟨c1, r1, rfl, h1, q1⟩ := h.pair
  obtain ⟨c2, r2, rfl, h2, q2⟩ := q1.pair
  obtain ⟨c3, r3, rfl, h3, q3⟩ := q2.pair
  obtain ⟨c4, r4, rfl, h4, q4⟩ := q3.pair
  obtain ⟨c5, r5, rfl, h5, q5⟩ := q4.pair
  obtain ⟨c6, r6, rfl, h6, q6⟩ := q5.pair
  obtain ⟨c7, r7, rfl, h7, q7⟩ := q6.pair
  obtain ⟨c8, r8, rfl, h8, q8⟩ := q7.pair
  obtain ⟨m, rfl, m1, m2, m3⟩ := h1.q hB
  obtain ⟨v, rfl, v1, v2, v3⟩ := h2.q hB
  obtain ⟨z1, rfl, i1⟩ := h3.i64
  obtain ⟨z2, rfl, i2⟩ := h4.i64
  obtain ⟨z3, rfl, i3⟩ := h5.i64
  obtain ⟨z4, rfl, i4⟩ := h6.i64
  obtain ⟨z5, rfl, i5⟩ := h7.i64
  obtain ⟨z6, rfl, i6⟩ := h8.i64
  rw [q8.done]
  exact ⟨⟨m, v, z1, z2, z3, z4, z5, z6⟩, rfl, ⟨m1, v1, i1, i2, i3, i4, i5, i6⟩, m2, m3, v2, v3⟩
theorem okA_one {s : SH} {as' : List AV} (h : OkA B [s] as') : ∃ a, as' = [s.top a] ∧ Ok B s a := by
  cases h with | cons h1 h2 => cases h2; exact ⟨_, rfl, h1⟩
theorem okA_more {s : SH} {ss : List SH} {as' : List AV} (h : OkA B (s :: ss) as') : ∃ a r, as' = s.top a :: r ∧ Ok B s a ∧ OkA B ss r := by
  cases h with | cons h1 h2 => exact ⟨_, _, rfl, h1, h2⟩
end
end Go.Proofs.YtcggnmddcbhchaaGreatDoor
set_option linter.unusedSimpArgs false
set_option linter.unusedVariables false
namespace Go.Proofs.YtcggnmddcbhchaaGreatDoor
open Go.RowKit Lim
theorem padD_front : ∀ (i k : Nat), padD (i + 1) k = UInt8.ofNat (48 + k / 10 ^ i % 10) :: padD i k
  | 0, k => by
    show padD 0 (k / 10) ++ _ = _
    rw [Nat.pow_zero, Nat.div_one]
    rfl
  | i + 1, k => by
    have h : padD (i + 1 + 1) k = padD (i + 1) (k / 10) ++ [UInt8.ofNat (48 + k % 10)] := rfl
    rw [h, padD_front i (k / 10), Nat.div_div_eq_div_mul, ← Nat.pow_succ']
    rfl
theorem rep_eq (k : Nat) : Lib.repeatL [48] k = List.replicate k 48 := by
  induction k with
  | zero => rfl
  | succ k ih => rw [List.replicate_succ, ← ih]; rfl
theorem padT_padD {k w : Nat} (h : k < 10 ^ (w + 1)) : padT (k : Int) ((w + 1 : Nat) : Int) = padD (w + 1) k := by
  rw [padD_eq w k h, ← Lib.decDigits_length, ← rep_eq]
  unfold padT itoaK
  rw [decide_eq_false (by omega), cond_false, Int.toNat_natCast, decK_eq]
  congr 2
  unfold maxI2
  split <;> omega
theorem tmod10 (d : Nat) : Int.tmod (d : Int) 10 = ((d % 10 : Nat) : Int) := by
  rw [Int.tmod_eq_emod_of_nonneg (by omega)]; omega
theorem tdiv10 (d : Nat) : Int.tdiv (d : Int) 10 = ((d / 10 : Nat) : Int) := by
  rw [Int.tdiv_eq_ediv_of_nonneg (by omega)]; omega
theorem natw {d : Nat} (h : d < 9223372036854775807) : IntKind.i64.wrap (d : Int) = d := w64 (by omega) (by omega)
section
variable (n : Nat)
theorem digits_e (k w : Nat) (h : k < 10 ^ (w + 1)) (hk : k < 9223372036854775807) (hw : w ≤ 20) : EF fuel (n + 1) 66 [vI (k : Int), vI ((w + 1 : Nat) : Int)] gS = some (padT (k : Int) ((w + 1 : Nat) : Int), ()) := by
  rw [padT_padD h]
  refine (ref09_digits_m n (k : Int) ((w + 1 : Nat) : Int)).trans ?_
  refine congrArg (a₂ := some (Ans.ret (padD (w + 1) k, ()))) unwrapA ?_
  have hk0 : (((k / 10 ^ 0 : Nat)) : Int) = (k : Int) := by rw [Nat.pow_zero, Nat.div_one]
  rw [← hk0]
  refine loopA_range (R := denL [tS]) (ts := [tI, tS, tI]) (N := w + 1) (fun i => ((i : Int), padD i k, ((k / 10 ^ i : Nat) : Int), ())) (fun i hi => ?_) ?_ rfl (fuel_lt (by omega))
  · dsimp only
    have hq : k / 10 ^ i ≤ k := Nat.div_le_self _ _
    have e0 : Int.tmod ((k / 10 ^ i : Nat) : Int) 10 = ((k / 10 ^ i % 10 : Nat) : Int) := tmod10 _
    have e3 : Int.tdiv ((k / 10 ^ i : Nat) : Int) 10 = ((k / 10 ^ (i + 1) : Nat) : Int) := by
      rw [tdiv10, Nat.pow_succ, ← Nat.div_div_eq_div_mul]
    have hm : k / 10 ^ i % 10 < 10 := Nat.mod_lt _ (by omega)
    have hq2 : k / 10 ^ (i + 1) ≤ k := Nat.div_le_self _ _
    rw [e0, e3]
    have e1 : IntKind.u8.wrap (IntKind.i64.wrap (48 + ((k / 10 ^ i % 10 : Nat) : Int))) = ((48 + k / 10 ^ i % 10 : Nat) : Int) := by
      rw [w64 (z := 48 + ((k / 10 ^ i % 10 : Nat) : Int)) (by omega) (by omega)]
      generalize k / 10 ^ i % 10 = d at *
      simp [IntKind.wrap, IntKind.bits, IntKind.signed]
      omega
    have e2 : byteR ((48 + k / 10 ^ i % 10 : Nat) : Int) = true := by
      unfold byteR
      rw [decide_eq_true (by omega), decide_eq_true (by omega)]; rfl
    rw [dlt hi, cond_true, e1, e2, Bool.and_true, cond_true, strB_s (by rw [padD_length]; simp only [List.length_cons, List.length_nil]; omega), cond_true, w64n (by omega), natw (Nat.lt_of_le_of_lt hq2 hk), Int.toNat_natCast, padD_front]
    rfl
  · dsimp only
    rw [dge (Nat.le_refl _), cond_false]
theorem prefix_e : EF fuel (n + 1) 65 [vI 3] gS = some (nCan, ()) := ref09_prefix_m n 3
theorem r09check_e (c : Int) : EF fuel (n + 2) 64 [vI 3, vI c] [.c (.int .i64), .c (.int .i64)] = some (bif decide (c < 1) then (0, 3, ()) else bif decide (9999999 < c) then (0, 3, ()) else (98 - ((3 * 10000000 + c) * 100).tmod 97, 0, ())) := by
  refine (ref09_Check_m (n + 1) 3 c).trans ?_
  rw [bind_go (prefix_e n)]
  dsimp only
  rw [show (nCan == []) = false from rfl, cond_false]
  by_cases h1 : c < 1
  · rw [decide_eq_true h1]; rfl
  · rw [decide_eq_false h1]
    by_cases h2 : 9999999 < c
    · rw [decide_eq_true h2]; rfl
    · have h3 := tmod97 ((3 * 10000000 + c) * 100)
      rw [decide_eq_false h2, w64 (z := 3 * 10000000) (by omega) (by omega), w64 (z := 3 * 10000000 + c) (by omega) (by omega), w64 (z := (3 * 10000000 + c) * 100) (by omega) (by omega), w64 (z := 98 - ((3 * 10000000 + c) * 100).tmod 97) (by omega) (by omega)]
      rfl
theorem r09print_e (c : Int) : EF fuel (n + 3) 28 [vI 3, vI c] gP = some (bif decide (c < 1) then ([], 3, ()) else bif decide (9999999 < c) then ([], 3, ()) else (idT nCan 3 c, 0, ())) := by
  refine (ref09_Print_m (n + 2) 3 c).trans ?_
  rw [bind_go (r09check_e n c)]
  by_cases h1 : c < 1
  · rw [decide_eq_true h1]; rfl
  rw [decide_eq_false h1, cond_false, cond_false]
  by_cases h2 : 9999999 < c
  · rw [decide_eq_true h2]; rfl
  rw [decide_eq_false h2, cond_false, cond_false]
  dsimp only
  have h3 := Int.tmod_nonneg (a := (3 * 10000000 + c) * 100) 97 (by omega)
  have h4 := tmod97 ((3 * 10000000 + c) * 100)
  obtain ⟨k, hk⟩ : ∃ k : Nat, c = k := ⟨c.toNat, by omega⟩
  obtain ⟨j, hj⟩ : ∃ j : Nat, 98 - ((3 * 10000000 + c) * 100).tmod 97 = j := ⟨(98 - ((3 * 10000000 + c) * 100).tmod 97).toNat, by omega⟩
  have d1 : EF fuel (n + 2) 66 [vI c, vI 7] gS = some (padT c 7, ()) := by
    rw [hk]
    exact digits_e (n + 1) k 6 (by omega) (by omega) (by omega)
  have d2 : EF fuel (n + 2) 66 [vI (98 - ((3 * 10000000 + c) * 100).tmod 97), vI 2] gS = some (padT (98 - ((3 * 10000000 + c) * 100).tmod 97) 2, ()) := by
    rw [hj]
    exact digits_e (n + 1) j 1 (by omega) (by omega) (by omega)
  have l1 := padT_len (z := c) (w := 7) ⟨by omega, by omega⟩ (by omega) (by omega)
  have l2 := padT_len (z := 98 - ((3 * 10000000 + c) * 100).tmod 97) (w := 2) ⟨by omega, by omega⟩ (by omega) (by omega)
  have l0 : nCan.length = 3 := rfl
  rw [bne_self_eq_false, cond_false, bind_go (prefix_e (n + 1))]
  dsimp only
  rw [strB_s (by simp only [List.length_cons, List.length_nil]; omega), cond_true, bind_go d1]
  dsimp only
  rw [strB_s (by simp only [List.length_append, List.length_cons, List.length_nil]; omega), cond_true, strB_s (by simp only [List.length_append, List.length_cons, List.length_nil]; omega), cond_true, bind_go d2]
  dsimp only
  rw [strB_s (by simp only [List.length_append, List.length_cons, List.length_nil]; omega), cond_true]
  rfl
theorem r56print_e (c : Int) (r : Res) (h : r.OK) : EF fuel (n + 5) 10 [vI c, vR r] gP = some (printE c r) := by
  refine (ref56_Print_m (n + 4) c r.m.t r.m.a r.m.b r.v.t r.v.a r.v.b r.lo r.hi r.sc r.es r.st r.sp).trans ?_
  unfold printE
  rw [bind_go (r09print_e (n + 1) c)]
  cases e1 : decide (c < 1)
  case true => rfl
  cases e2 : decide (9999999 < c)
  case true => rfl
  have e1 := of_decide_eq_false e1
  have e2 := of_decide_eq_false e2
  simp only [cond_false]
  rw [bne_self_eq_false, cond_false, bind_go (r56valid_e (n + 2) r h)]
  dsimp only
  cases e3 : r.valid != 0
  case true => rfl
  simp only [cond_false]
  rw [bind_go (r56long_e (n + 1) r.m h.m)]
  dsimp only
  cases e4 : r.m.long
  case true => rfl
  simp only [cond_false]
  rw [bind_go (r56long_e (n + 1) r.v h.v)]
  dsimp only
  cases e5 : r.v.long
  case true => rfl
  have l0 := idT_len (y := nCan) (k := 3) (c := c) rfl ⟨by omega, by omega⟩
  have l1 := Q3.tx_len e4
  have l2 := Q3.tx_len e5
  have l3 := itoa_l21 h.sc
  have l4 := itoa_l21 h.lo
  have l5 := itoa_l21 h.hi
  have l6 := itoa_l21 h.sp
  have l7 := itoa_l21 h.es
  have l8 := reason_len r.st
  simp only [cond_false]
  rw [bind_go (r56number_e n _ h.sc), bind_go (r3print_e n _ h.m e4), bind_go (r3print_e n _ h.v e5), bind_go (r56number_e n _ h.lo), bind_go (r56number_e n _ h.hi), bind_go (r56number_e n _ h.sp), bind_go (r56reason_e (n + 3) _), bind_go (r56number_e n _ h.es)]
  dsimp only
  simp (disch := (simp only [List.length_append, List.length_cons, List.length_nil]; omega)) only [strB_s, cond_true]
  have et : ∀ x : List UInt8, x = printT c r → unwrapA (some (Ans.ret ((x, 0, ()) : denL gP.ts))) = some (printT c r, 0, ()) := fun x hx => by rw [hx]; rfl
  refine et _ ?_
  unfold printT
  simp only [List.append_assoc, List.cons_append, List.nil_append]
theorem lawTexts (c : Int) (r : Res) (h : r.OK) : EF fuel 21 3 [vI c, vR r] gB = some (true, ()) := by
  refine (lawTexts_m 20 c r.m.t r.m.a r.m.b r.v.t r.v.a r.v.b r.lo r.hi r.sc r.es r.st r.sp).trans ?_
  rw [bind_go (print_e 15 c r h), bind_go (r56print_e 15 c r h), bind_go (valid_e 16 r h), bind_go (r56valid_e 18 r h)]
  dsimp only
  rw [beq_self_eq_true, cond_true, bind_go (reason_e 19 r.st), bind_go (r56reason_e 19 r.st)]
  dsimp only
  rw [beq_self_eq_true, cond_true, beq_self_eq_true, cond_true, beq_self_eq_true, cond_true, bind_go awake_e]
  rfl
end
theorem reportTexts.law (as' : List AV) (h : OkA 1048576 [shI, shRes] as') : AC 3 as' (boo true) := by
  obtain ⟨a, r1, rfl, h1, q1⟩ := okA_more h
  obtain ⟨b, rfl, h2⟩ := okA_one q1
  obtain ⟨z, rfl, hz⟩ := h1.i64
  obtain ⟨y, e2, y1⟩ := h2.res (by omega)
  rw [e2]
  exact E_calls (lawTexts z y y1.ok) rfl
end Go.Proofs.YtcggnmddcbhchaaGreatDoor
set_option linter.unusedSimpArgs false
set_option linter.unusedVariables false
namespace Go.Proofs.YtcggnmddcbhchaaGreatDoor
open Go.ChangeShapes Go.WideShapes Go.ChangeAt Go.RowKit Lim
def strD {H : Type} (ss : List (List UInt8)) : DataW H := .agg (ss.map fun s => .lit (.string s))
theorem cells_of_strs {H : Type} {enc : TypeId × Value → H} {P : Program} {w : World} {base : Nat} {sp : Nat → Bool} {held : Bool} {fuel : Nat} {t e : TypeId} {n : Nat} {cs : List Value} {ss : List (List UInt8)} {p : List MemPlace}
    (ht : P.underlying t = some (.array n e)) (he : P.underlying e = some .string) (hce : P.cellsOf e = 1)
    (h : DataW.trod enc P w base sp held fuel t cs = some (strD ss, p)) (i : Nat) (s : List UInt8) (hs : ss[i]? = some s) : cs[i]? = some (.string ⟨s.toArray⟩) := by
  cases fuel with
  | zero => simp [DataW.trod] at h
  | succ fuel =>
    simp only [DataW.trod, ht, hce, Nat.mul_one] at h
    split at h
    · obtain ⟨xs, hm, hx⟩ := Option.map_eq_some_iff.1 h
      have hxs : xs.map (·.1) = ss.map fun s => (DataW.lit (.string s) : DataW H) := by
        have := congrArg Prod.fst hx
        simpa [strD] using this
      have hxl : xs.length = n := by simpa using Lib.mapM_length hm
      have hzl : ss.length = n := by
        have := congrArg List.length hxs
        simp at this
        omega
      have hi : i < n := by
        rw [← hzl]
        exact (List.getElem?_eq_some_iff.1 hs).1
      obtain ⟨b, hb, hf⟩ := Lib.mapM_at hm i i (by simp [hi])
      obtain ⟨z, hc, rfl, _⟩ := DataW.trod_string he hf
      have h1 : cs[i]? = some (.string z) := by
        have := congrArg (·[0]?) hc
        simpa [List.getElem?_take, List.getElem?_drop] using this
      have h2 : (xs.map (·.1))[i]? = some (DataW.lit (.string z.data.toList) : DataW H) := by simp [hb]
      rw [hxs, List.getElem?_map, hs] at h2
      simp only [Option.map_some, Option.some.injEq, DataW.lit.injEq, Lit.string.injEq] at h2
      rw [h1, h2]
    · cases h
theorem strs_of_head {P : Program} {W : World} {name : String} {ss : List (List UInt8)} {rest : List (String × DataW Unit)} {g : Nat} {t e : TypeId} {n : Nat}
    (hg : P.globalNamed name = some g) (hty : (P.globals[g]?).map (·.type) = some t) (ht : P.underlying t = some (.array n e)) (he : P.underlying e = some .string) (hce : P.cellsOf e = 1)
    (h : laidMet P ((name, strD ss) :: rest) W) (i : Nat) (s : List UInt8) (hs : ss[i]? = some s) : W.cell? ⟨g, i, none⟩ = some (.string ⟨s.toArray⟩) := by
  obtain ⟨ps, ⟨g', t', cs, fuel, p, q, hg', ht', hvar, hd, _, _⟩, _⟩ := h
  obtain rfl := Option.some.inj (hg.symm.trans hg')
  obtain rfl := Option.some.inj (hty.symm.trans ht')
  rw [World.var?_cell hg hvar i]
  simpa using cells_of_strs ht he hce hd i s hs
theorem glob_of {W : World} {rest : List (String × DataW Unit)} (h : laidMet Tryz.prog (("examboard/ident.prefixes", strD [[73, 84, 77], [70, 82, 77], [67, 65, 78], [83, 69, 83], [82, 65, 84], [65, 83, 84]]) :: rest) W) : GlobOK W := by
  intro g cs hg q v hv
  unfold globT at hg
  cases hb : Nat.beq g 0 with
  | false => rw [hb] at hg; cases hg
  | true =>
    rw [hb] at hg
    cases hg
    have hb := Nat.eq_of_beq_eq_true hb
    subst hb
    have key := strs_of_head (g := 0) (t := 97) (e := 9) (n := 6) (by kernel_rfl) (by kernel_rfl) Tryz.underlying97 Tryz.underlying9 (by kernel_rfl) h q
    rcases q with _ | _ | _ | _ | _ | _ | q
    · cases hv; exact ⟨key _ rfl, rfl⟩
    · cases hv; exact ⟨key _ rfl, rfl⟩
    · cases hv; exact ⟨key _ rfl, rfl⟩
    · cases hv; exact ⟨key _ rfl, rfl⟩
    · cases hv; exact ⟨key _ rfl, rfl⟩
    · cases hv; exact ⟨key _ rfl, rfl⟩
    · simp at hv
end Go.Proofs.YtcggnmddcbhchaaGreatDoor
