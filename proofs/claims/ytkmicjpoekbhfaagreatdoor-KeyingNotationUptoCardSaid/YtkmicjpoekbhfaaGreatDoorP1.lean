import Derived.Test.YtkmicjpoekbhfaaGreatDoorQWa
import Derived.RangeFuncBox
import Derived.RangeFuncLeaves
import Derived.Shelf.Abstract
import Derived.WalkKit
import Derived.OwnWalkIn
import Derived.TacticsInMore
import Derived.LoopNIn
import Derived.LoopIn
import Derived.Maps.AppendAt
import Derived.Sort.OwnSortedInts
import Derived.Lib.SlicesS
import Derived.Lib.SplitLaws
import Derived.Lib.SliceRun
/- Texts merged: Wr1 Wr2 Wr3 Wr4 Wr5 Wr6 Wr7 WLaw4 WLawM WMono WNear Wr8 Ws1 Ws2 Ws3 Ws4 Ws5 Ws6 Ws7 Ws8 Ws9 WsA WsB WsC Wt1 Wk1 Wk2 Wk3 Wk4 Wk5 Wk6 Wk7. -/
/- The document's natural numbers (examboardref01), by the engine. -/
set_option linter.unusedSimpArgs false
set_option linter.unusedVariables false
namespace Go.Proofs.YtkmicjpoekbhfaaGreatDoor
open Go.RowKit Lim

theorem getD_some {l : List Nat} {i : Nat} (h : i < l.length) : l[i]? = some (l.getD i 0) := by rw [List.getElem?_eq_getElem h, List.getD_eq_getElem?_getD, List.getElem?_eq_getElem h]; rfl
/-! A row that is filled from its end. -/
end Go.Proofs.YtkmicjpoekbhfaaGreatDoor

/- The document's natural numbers, continued: half, Bits, Mul, Shift. -/
set_option linter.unusedSimpArgs false
set_option linter.unusedVariables false
namespace Go.Proofs.YtkmicjpoekbhfaaGreatDoor
open Go.RowKit Lim

end Go.Proofs.YtkmicjpoekbhfaaGreatDoor

/- The document's natural numbers, continued: Mul, Pow. -/
set_option linter.unusedSimpArgs false
set_option linter.unusedVariables false
namespace Go.Proofs.YtkmicjpoekbhfaaGreatDoor
open Go.RowKit Lim

end Go.Proofs.YtkmicjpoekbhfaaGreatDoor

/- The document's natural numbers, continued: Shift, DivMod, Gcd. -/
set_option linter.unusedSimpArgs false
set_option linter.unusedVariables false
namespace Go.Proofs.YtkmicjpoekbhfaaGreatDoor
open Go.RowKit Lim

theorem or_nat {z m sh : Nat} (hz : z < 2 ^ sh) : z ||| 2 ^ sh * m = z + 2 ^ sh * m := by
  rw [Nat.or_comm, ← Nat.two_pow_add_eq_or_of_lt hz, Nat.add_comm]
end Go.Proofs.YtkmicjpoekbhfaaGreatDoor

/- The document's natural numbers, continued: DivMod, Gcd. -/
set_option linter.unusedSimpArgs false
set_option linter.unusedVariables false
namespace Go.Proofs.YtkmicjpoekbhfaaGreatDoor
open Go.RowKit Lim

end Go.Proofs.YtkmicjpoekbhfaaGreatDoor

/- The document's integers (examboardref02), by the engine. -/
set_option linter.unusedSimpArgs false
set_option linter.unusedVariables false
namespace Go.Proofs.YtkmicjpoekbhfaaGreatDoor
open Go.RowKit Lim

/-- An argument that stands for a number, in limbs, not too long. -/
def DN (a : AV) (n : Nat) : Prop := ∃ l, a = .nat l ∧ Dig l ∧ val l = n ∧ l.length < 1000000000
def DI (a : AV) (z : Int) : Prop := ∃ t l, a = intA t l ∧ Dig l ∧ sg t (val l) = z ∧ l.length < 1000000000
theorem sg_natAbs (t : Bool) (n : Nat) : (sg t n).natAbs = n := by unfold sg; cases t <;> simp
end Go.Proofs.YtkmicjpoekbhfaaGreatDoor

/- The document's integers, continued: DivMod. -/
set_option linter.unusedSimpArgs false
set_option linter.unusedVariables false
namespace Go.Proofs.YtkmicjpoekbhfaaGreatDoor
open Go.RowKit Lim

end Go.Proofs.YtkmicjpoekbhfaaGreatDoor

/- decimal.Integer; the law's rounds, awake, valid. -/
set_option linter.unusedSimpArgs false
set_option linter.unusedVariables false
namespace Go.Proofs.YtkmicjpoekbhfaaGreatDoor
open Go.RowKit Lim

abbrev u32 (n : Int) : AV := .lit (.int .u32 n)
end Go.Proofs.YtkmicjpoekbhfaaGreatDoor

/- The law DecimalMirror: its walk and its arithmetic. -/
set_option linter.unusedSimpArgs false
set_option linter.unusedVariables false
namespace Go.Proofs.YtkmicjpoekbhfaaGreatDoor
open Go.RowKit Lim

end Go.Proofs.YtkmicjpoekbhfaaGreatDoor

/- The law DecimalMonotone: its arithmetic and its walk. -/
set_option linter.unusedSimpArgs false
set_option linter.unusedVariables false
namespace Go.Proofs.YtkmicjpoekbhfaaGreatDoor
open Go.RowKit Lim

end Go.Proofs.YtkmicjpoekbhfaaGreatDoor

/- The law DecimalNearest: its arithmetic and its walk. -/
set_option linter.unusedSimpArgs false
set_option linter.unusedVariables false
namespace Go.Proofs.YtkmicjpoekbhfaaGreatDoor
open Go.RowKit Lim

/-- Two fractions of one value. -/
structure Eqv (n : Int) (d : Nat) (x : Int) (y : Nat) : Prop where
  dp : 0 < d
  yp : 0 < y
  e : n * (y : Int) = x * (d : Int)
theorem Eqv.refl (n : Int) {d : Nat} (h : 0 < d) : Eqv n d n d := ⟨h, h, rfl⟩
theorem Eqv.norm (z : Int) {d : Nat} (h : 0 < d) : Eqv (rn z d) (rd z d) z d := ⟨rd_pos z h, h, rn_mul z d⟩
theorem Eqv.symm {n x : Int} {d y : Nat} (h : Eqv n d x y) : Eqv x y n d := ⟨h.yp, h.dp, h.e.symm⟩
theorem Eqv.trans {n x p : Int} {d y q : Nat} (h : Eqv n d x y) (k : Eqv x y p q) : Eqv n d p q := by
  refine ⟨h.dp, k.yp, ?_⟩
  have h1 := h.e
  have h2 := k.e
  have hy : (y : Int) ≠ 0 := by have := h.yp; omega
  refine Int.eq_of_mul_eq_mul_right hy ?_
  calc n * (q : Int) * y = n * (y : Int) * q := by grind
    _ = x * (q : Int) * d := by rw [h1]; grind
    _ = p * (d : Int) * y := by rw [h2]; grind
theorem Eqv.add {n x n' x' : Int} {d y d' y' : Nat} (h : Eqv n d x y) (k : Eqv n' d' x' y') : Eqv (n * (d' : Int) + n' * (d : Int)) (d * d') (x * (y' : Int) + x' * (y : Int)) (y * y') := by
  refine ⟨Nat.mul_pos h.dp k.dp, Nat.mul_pos h.yp k.yp, ?_⟩
  have h1 := h.e
  have h2 := k.e
  rw [Int.natCast_mul, Int.natCast_mul]
  have e1 : (n * (d' : Int) + n' * (d : Int)) * ((y : Int) * y') = n * y * (d' * y') + n' * y' * (d * y) := by grind
  have e2 : (x * (y' : Int) + x' * (y : Int)) * ((d : Int) * d') = x * d * (d' * y') + x' * d' * (d * y) := by grind
  rw [e1, e2, h1, h2]
theorem Eqv.neg {n x : Int} {d y : Nat} (h : Eqv n d x y) : Eqv (-n) d (-x) y := ⟨h.dp, h.yp, by rw [Int.neg_mul, Int.neg_mul, h.e]⟩
/-! The arithmetic of rounding. -/
end Go.Proofs.YtkmicjpoekbhfaaGreatDoor

/- The document's ratios (examboardref03), by the engine. -/
set_option linter.unusedSimpArgs false
set_option linter.unusedVariables false
namespace Go.Proofs.YtkmicjpoekbhfaaGreatDoor
open Go.RowKit Lim

/-- An argument that stands for a ratio, in limbs, not too long. -/
def DR (a : AV) (z : Int) (d : Nat) : Prop := ∃ t l m, a = ratA t l m ∧ Dig l ∧ Dig m ∧ sg t (val l) = z ∧ val m = d ∧ l.length < 100000000 ∧ m.length < 100000000
theorem DR.n1 {a : AV} {z : Int} {d : Nat} (h : DR a z d) : nlen z.natAbs < 100000000 ∧ nlen d < 100000000 := by
  obtain ⟨t, l, m, _, h1, h2, rfl, rfl, h3, h4⟩ := h
  rw [sg_natAbs]
  have := nlen_val h1
  have := nlen_val h2
  omega
theorem DI.n1 {a : AV} {z : Int} (h : DI a z) : nlen z.natAbs < 1000000000 := by
  obtain ⟨t, l, _, h1, rfl, h3⟩ := h
  rw [sg_natAbs]
  have := nlen_val h1
  omega
theorem DN.n1 {a : AV} {n : Nat} (h : DN a n) : nlen n < 1000000000 := by
  obtain ⟨l, _, h1, rfl, h3⟩ := h
  have := nlen_val h1
  omega
end Go.Proofs.YtkmicjpoekbhfaaGreatDoor

/- Chapter 38: small functions of nat, integer, ratio; grids. INTS -/
set_option linter.unusedSimpArgs false
set_option linter.unusedVariables false
namespace Go.Proofs.YtkmicjpoekbhfaaGreatDoor
open Go.RowKit Lim

abbrev ints (l : List Int) : AV := .sl 1 (l.map (fun x => i64 x))
theorem ints_get (l : List Int) (k : Nat) : (l.map (fun x => i64 x))[k]? = (l[k]?).map (fun x => i64 x) := by simp
end Go.Proofs.YtkmicjpoekbhfaaGreatDoor

/- Chapter 38: grids. INTS -/
set_option linter.unusedSimpArgs false
set_option linter.unusedVariables false
namespace Go.Proofs.YtkmicjpoekbhfaaGreatDoor
open Go.RowKit Lim

theorem map_get {α β : Type} (f : α → β) (l : List α) {k : Nat} (h : k < l.length) : (l.map f)[k]? = some (f l[k]) := by simp [h]
end Go.Proofs.YtkmicjpoekbhfaaGreatDoor

/- Chapter 38: moments of weights on a grid; the variance. INTS -/
set_option linter.unusedSimpArgs false
set_option linter.unusedVariables false
namespace Go.Proofs.YtkmicjpoekbhfaaGreatDoor
open Go.RowKit Lim

/-- Weights that are not too long. -/
def WOK (ws : List (List Nat)) : Prop := ∀ x ∈ ws, Dig x ∧ x.length ≤ 2000000
theorem WOK.get {ws : List (List Nat)} (h : WOK ws) (k : Nat) : Dig (ws.getD k []) ∧ (ws.getD k []).length ≤ 2000000 := by
  by_cases hk : k < ws.length
  · have : ws.getD k [] = ws[k] := by simp [List.getD, hk]
    rw [this]
    exact h _ (List.getElem_mem hk)
  · have : ws.getD k [] = [] := by simp [List.getD, hk]
    rw [this]
    exact ⟨dig_nil, by simp⟩
def f0 (_ : Int) : Int := 1
def f1 (x : Int) : Int := x
end Go.Proofs.YtkmicjpoekbhfaaGreatDoor

/- Chapter 38: the variance; estimates. INTS -/
set_option linter.unusedSimpArgs false
set_option linter.unusedVariables false
namespace Go.Proofs.YtkmicjpoekbhfaaGreatDoor
open Go.RowKit Lim

end Go.Proofs.YtkmicjpoekbhfaaGreatDoor

/- Chapter 38: classes. INTS -/
set_option linter.unusedSimpArgs false
set_option linter.unusedVariables false
namespace Go.Proofs.YtkmicjpoekbhfaaGreatDoor
open Go.RowKit Lim

end Go.Proofs.YtkmicjpoekbhfaaGreatDoor

/- Chapter 38: estimate.Class. INTS -/
set_option linter.unusedSimpArgs false
set_option linter.unusedVariables false
namespace Go.Proofs.YtkmicjpoekbhfaaGreatDoor
open Go.RowKit Lim

theorem r12 : rn 1 2 = 1 ∧ rd 1 2 = 2 := by decide +kernel
theorem r11 : rn 1 1 = 1 ∧ rd 1 1 = 1 := by decide +kernel
theorem WOK.drop {ws : List (List Nat)} (h : WOK ws) (k : Nat) : WOK (ws.drop k) := fun x hx => h x (List.mem_of_mem_drop hx)
theorem WOK.take {ws : List (List Nat)} (h : WOK ws) (k : Nat) : WOK (ws.take k) := fun x hx => h x (List.mem_of_mem_take hx)
section
end
end Go.Proofs.YtkmicjpoekbhfaaGreatDoor

/- Chapter 38: the rules of a specification. INTS -/
set_option linter.unusedSimpArgs false
set_option linter.unusedVariables false
namespace Go.Proofs.YtkmicjpoekbhfaaGreatDoor
open Go.RowKit Lim

end Go.Proofs.YtkmicjpoekbhfaaGreatDoor

/- Chapter 38: content codes. INTS -/
set_option linter.unusedSimpArgs false
set_option linter.unusedVariables false
namespace Go.Proofs.YtkmicjpoekbhfaaGreatDoor
open Go.RowKit Lim

def okByte (b : UInt8) : Bool := !((decide ((b.toNat : Int) < 65) || decide ((90 : Int) < b.toNat)) && (decide ((b.toNat : Int) < 48) || decide ((57 : Int) < b.toNat)))
def segB (s : List UInt8) : Bool := s.all okByte && (decide ((1 : Int) ≤ (s.length : Nat)) && decide (((s.length : Nat) : Int) ≤ 8))
theorem validSegment_c (s : List UInt8) (hs : s.length < 4611686018427387904) : AT 91 [str s] (boo (segB s)) := by
  have bad : ∀ k (hk : k < s.length), okByte s[k] = false → segB s = false := fun k hk hb => by
    have : s.all okByte = false := by
      rw [List.all_eq_false]
      exact ⟨s[k], List.getElem_mem hk, by simp [hb]⟩
    simp [segB, this]
  refine ACalls.of ⟨4, [], []⟩ (fn := Tryz.f91) Tryz.func91 rfl rfl rfl (by kernel_rfl) (by kernel_rfl) (Nat.le_of_ble_eq_true rfl) ?_
  simp (maxSteps := 1000000) -implicitDefEqProofs only [go_sem, awp_seq, Nat.reduceBNe, Nat.reduceBEq, Nat.reduceAdd, Nat.reduceSub, Nat.reduceMul, Nat.reduceLeDiff, Nat.reduceLT, Nat.reduceEqDiff, Nat.reduceBneDiff, Int.reduceLE, Int.reduceLT, Int.reduceToNat, Int.reduceBEq, Int.reduceBNe, Int.reduceAdd, Int.reduceSub, Int.cast_ofNat_Int]
  refine loop_mk (α := {k : Nat // k ≤ s.length ∧ ∀ i (hi : i < s.length), i < k → okByte s[i] = true}) (fun k => [(0, some (.av (str s))), (2, some (.av (boo false))), (3, some (.av (i64 (k.1 : Nat))))]) (fun _ => []) (fun _ => []) (fun k => s.length - k.1) ⟨0, Nat.zero_le _, fun i _ hi => by omega⟩ ?_ ?_
  · simp (maxSteps := 1000000) -implicitDefEqProofs only [go_sem, awp_seq, Nat.reduceBNe, Nat.reduceBEq, Nat.reduceAdd, Nat.reduceSub, Nat.reduceMul, Nat.reduceLeDiff, Nat.reduceLT, Nat.reduceEqDiff, Nat.reduceBneDiff, Int.reduceLE, Int.reduceLT, Int.reduceToNat, Int.reduceBEq, Int.reduceBNe, Int.reduceAdd, Int.reduceSub, Int.cast_ofNat_Int]
  · rintro ⟨k, hk, hall⟩
    by_cases hlt : k < s.length
    · have g1 : decide (((k : Nat) : Int) < (s.length : Nat)) = true := by simp; omega
      have e1 : s[k]? = some s[k] := List.getElem?_eq_getElem hlt
      have w1 : IntKind.i64.wrap ((k : Int) + 1) = ((k + 1 : Nat) : Int) := by rw [IntWalk.i64_in _ (by omega)]; omega
      have b0 := bad k hlt
      have ok1 : okByte s[k] = true → ∀ i (hi : i < s.length), i < k + 1 → okByte s[i] = true := fun h i hi hik => by
        by_cases he : i = k
        · subst he; exact h
        · exact hall i hi (by omega)
      generalize s[k] = b at *
      cases c1 : decide ((b.toNat : Int) < 65) with
      | true =>
        cases c3 : decide ((b.toNat : Int) < 48) with
        | true =>
          have e := b0 (by simp [okByte, c1, c3])
          simp (maxSteps := 1000000) -implicitDefEqProofs only [bs_size, strK_bs, g1, e1, c1, c3, e, Int.toNat_natCast, Int.natCast_nonneg, go_sem, awp_seq, Nat.reduceBNe, Nat.reduceBEq, Nat.reduceAdd, Nat.reduceSub, Nat.reduceMul, Nat.reduceLeDiff, Nat.reduceLT, Nat.reduceEqDiff, Nat.reduceBneDiff, Int.reduceLE, Int.reduceLT, Int.reduceToNat, Int.reduceBEq, Int.reduceBNe, Int.reduceAdd, Int.reduceSub, Int.cast_ofNat_Int]
        | false =>
          cases c4 : decide ((57 : Int) < b.toNat) with
          | true =>
            have e := b0 (by simp [okByte, c1, c4])
            simp (maxSteps := 1000000) -implicitDefEqProofs only [bs_size, strK_bs, g1, e1, c1, c3, c4, e, Int.toNat_natCast, Int.natCast_nonneg, go_sem, awp_seq, Nat.reduceBNe, Nat.reduceBEq, Nat.reduceAdd, Nat.reduceSub, Nat.reduceMul, Nat.reduceLeDiff, Nat.reduceLT, Nat.reduceEqDiff, Nat.reduceBneDiff, Int.reduceLE, Int.reduceLT, Int.reduceToNat, Int.reduceBEq, Int.reduceBNe, Int.reduceAdd, Int.reduceSub, Int.cast_ofNat_Int]
          | false =>
            simp (maxSteps := 1000000) -implicitDefEqProofs only [bs_size, strK_bs, g1, e1, c1, c3, c4, w1, Int.toNat_natCast, Int.natCast_nonneg, go_sem, awp_seq, Nat.reduceBNe, Nat.reduceBEq, Nat.reduceAdd, Nat.reduceSub, Nat.reduceMul, Nat.reduceLeDiff, Nat.reduceLT, Nat.reduceEqDiff, Nat.reduceBneDiff, Int.reduceLE, Int.reduceLT, Int.reduceToNat, Int.reduceBEq, Int.reduceBNe, Int.reduceAdd, Int.reduceSub, Int.cast_ofNat_Int]
            refine roundK_mk ⟨k + 1, by omega, ok1 (by simp [okByte, c1, c3, c4])⟩ ?_ (by show s.length - (k + 1) < s.length - k; omega)
            simp (maxSteps := 1000000) -implicitDefEqProofs only [go_sem, awp_seq, Nat.reduceBNe, Nat.reduceBEq, Nat.reduceAdd, Nat.reduceSub, Nat.reduceMul, Nat.reduceLeDiff, Nat.reduceLT, Nat.reduceEqDiff, Nat.reduceBneDiff, Int.reduceLE, Int.reduceLT, Int.reduceToNat, Int.reduceBEq, Int.reduceBNe, Int.reduceAdd, Int.reduceSub, Int.cast_ofNat_Int]
      | false =>
        cases c2 : decide ((90 : Int) < b.toNat) with
        | true =>
          cases c3 : decide ((b.toNat : Int) < 48) with
          | true =>
            have e := b0 (by simp [okByte, c2, c3])
            simp (maxSteps := 1000000) -implicitDefEqProofs only [bs_size, strK_bs, g1, e1, c1, c2, c3, e, Int.toNat_natCast, Int.natCast_nonneg, go_sem, awp_seq, Nat.reduceBNe, Nat.reduceBEq, Nat.reduceAdd, Nat.reduceSub, Nat.reduceMul, Nat.reduceLeDiff, Nat.reduceLT, Nat.reduceEqDiff, Nat.reduceBneDiff, Int.reduceLE, Int.reduceLT, Int.reduceToNat, Int.reduceBEq, Int.reduceBNe, Int.reduceAdd, Int.reduceSub, Int.cast_ofNat_Int]
          | false =>
            cases c4 : decide ((57 : Int) < b.toNat) with
            | true =>
              have e := b0 (by simp [okByte, c2, c4])
              simp (maxSteps := 1000000) -implicitDefEqProofs only [bs_size, strK_bs, g1, e1, c1, c2, c3, c4, e, Int.toNat_natCast, Int.natCast_nonneg, go_sem, awp_seq, Nat.reduceBNe, Nat.reduceBEq, Nat.reduceAdd, Nat.reduceSub, Nat.reduceMul, Nat.reduceLeDiff, Nat.reduceLT, Nat.reduceEqDiff, Nat.reduceBneDiff, Int.reduceLE, Int.reduceLT, Int.reduceToNat, Int.reduceBEq, Int.reduceBNe, Int.reduceAdd, Int.reduceSub, Int.cast_ofNat_Int]
            | false =>
              simp (maxSteps := 1000000) -implicitDefEqProofs only [bs_size, strK_bs, g1, e1, c1, c2, c3, c4, w1, Int.toNat_natCast, Int.natCast_nonneg, go_sem, awp_seq, Nat.reduceBNe, Nat.reduceBEq, Nat.reduceAdd, Nat.reduceSub, Nat.reduceMul, Nat.reduceLeDiff, Nat.reduceLT, Nat.reduceEqDiff, Nat.reduceBneDiff, Int.reduceLE, Int.reduceLT, Int.reduceToNat, Int.reduceBEq, Int.reduceBNe, Int.reduceAdd, Int.reduceSub, Int.cast_ofNat_Int]
              refine roundK_mk ⟨k + 1, by omega, ok1 (by simp [okByte, c1, c2, c3, c4])⟩ ?_ (by show s.length - (k + 1) < s.length - k; omega)
              simp (maxSteps := 1000000) -implicitDefEqProofs only [go_sem, awp_seq, Nat.reduceBNe, Nat.reduceBEq, Nat.reduceAdd, Nat.reduceSub, Nat.reduceMul, Nat.reduceLeDiff, Nat.reduceLT, Nat.reduceEqDiff, Nat.reduceBneDiff, Int.reduceLE, Int.reduceLT, Int.reduceToNat, Int.reduceBEq, Int.reduceBNe, Int.reduceAdd, Int.reduceSub, Int.cast_ofNat_Int]
        | false =>
          simp (maxSteps := 1000000) -implicitDefEqProofs only [bs_size, strK_bs, g1, e1, c1, c2, w1, Int.toNat_natCast, Int.natCast_nonneg, go_sem, awp_seq, Nat.reduceBNe, Nat.reduceBEq, Nat.reduceAdd, Nat.reduceSub, Nat.reduceMul, Nat.reduceLeDiff, Nat.reduceLT, Nat.reduceEqDiff, Nat.reduceBneDiff, Int.reduceLE, Int.reduceLT, Int.reduceToNat, Int.reduceBEq, Int.reduceBNe, Int.reduceAdd, Int.reduceSub, Int.cast_ofNat_Int]
          refine roundK_mk ⟨k + 1, by omega, ok1 (by simp [okByte, c1, c2])⟩ ?_ (by show s.length - (k + 1) < s.length - k; omega)
          simp (maxSteps := 1000000) -implicitDefEqProofs only [go_sem, awp_seq, Nat.reduceBNe, Nat.reduceBEq, Nat.reduceAdd, Nat.reduceSub, Nat.reduceMul, Nat.reduceLeDiff, Nat.reduceLT, Nat.reduceEqDiff, Nat.reduceBneDiff, Int.reduceLE, Int.reduceLT, Int.reduceToNat, Int.reduceBEq, Int.reduceBNe, Int.reduceAdd, Int.reduceSub, Int.cast_ofNat_Int]
    · have g1 : decide (((k : Nat) : Int) < (s.length : Nat)) = false := by simp; omega
      have hA : s.all okByte = true := by
        rw [List.all_eq_true]
        intro x hx
        obtain ⟨i, hi, rfl⟩ := List.getElem_of_mem hx
        exact hall i hi (by omega)
      have e : segB s = (decide ((1 : Int) ≤ (s.length : Nat)) && decide (((s.length : Nat) : Int) ≤ 8)) := by rw [segB, hA, Bool.true_and]
      rw [e]
      cases c1 : decide ((1 : Int) ≤ (s.length : Nat)) with
      | true => simp (maxSteps := 1000000) -implicitDefEqProofs only [bs_size, g1, c1, go_sem, awp_seq, Nat.reduceBNe, Nat.reduceBEq, Nat.reduceAdd, Nat.reduceSub, Nat.reduceMul, Nat.reduceLeDiff, Nat.reduceLT, Nat.reduceEqDiff, Nat.reduceBneDiff, Int.reduceLE, Int.reduceLT, Int.reduceToNat, Int.reduceBEq, Int.reduceBNe, Int.reduceAdd, Int.reduceSub, Int.cast_ofNat_Int]
      | false => simp (maxSteps := 1000000) -implicitDefEqProofs only [bs_size, g1, c1, go_sem, awp_seq, Nat.reduceBNe, Nat.reduceBEq, Nat.reduceAdd, Nat.reduceSub, Nat.reduceMul, Nat.reduceLeDiff, Nat.reduceLT, Nat.reduceEqDiff, Nat.reduceBneDiff, Int.reduceLE, Int.reduceLT, Int.reduceToNat, Int.reduceBEq, Int.reduceBNe, Int.reduceAdd, Int.reduceSub, Int.cast_ofNat_Int]
/-- The segments of a code, at most n of them; whether these are all. -/
def segL : Nat → List UInt8 → List (List UInt8) × Bool
  | 0, _ => ([], false)
  | n + 1, s => if (Lib.cut s [46]).2.2 then ((Lib.cut s [46]).1 :: (segL n (Lib.cut s [46]).2.1).1, (segL n (Lib.cut s [46]).2.1).2) else ([(Lib.cut s [46]).1], true)
theorem segL_len : ∀ n s, (segL n s).1.length ≤ n ∧ ((segL n s).2 = false → (segL n s).1.length = n)
  | 0, _ => by simp [segL]
  | n + 1, s => by
    unfold segL
    split
    · have := segL_len n (Lib.cut s [46]).2.1
      simp only [List.length_cons]
      exact ⟨by omega, fun h => by rw [this.2 h]⟩
    · simp
abbrev es0 : AV := .lit (.string ⟨#[]⟩)
def pad5 (L : List (List UInt8)) : List AV := L.map (fun x => str x) ++ List.replicate (5 - L.length) es0
def segN (r : List (List UInt8) × Bool) : Int := if r.2 then (r.1.length : Nat) else 0
theorem pad5_len {L : List (List UInt8)} (h : L.length ≤ 5) : (pad5 L).length = 5 := by simp [pad5]; omega
theorem pad5_one (L : List (List UInt8)) : (pad5 L).all AV.one = true := by simp [pad5, AV.one]
theorem pad5_nl (L : List (List UInt8)) : (pad5 L).all AV.noLimb = true := by simp [pad5, AV.noLimb, Go.Proofs.YtkmicjpoekbhfaaGreatDoor.noLimb]
theorem pad5_nil : pad5 [] = [es0, es0, es0, es0, es0] := rfl
theorem pad5_set {L : List (List UInt8)} (h : L.length < 5) (x : List UInt8) : List.take L.length (pad5 L) ++ (str x :: List.drop (L.length + 1) (pad5 L)) = pad5 (L ++ [x]) := by
  unfold pad5
  rw [List.take_left' (by simp), List.drop_append]
  rw [List.drop_of_length_le (by simp), List.length_map, show L.length + 1 - L.length = 1 by omega, List.drop_replicate]
  simp only [List.map_append, List.map_cons, List.map_nil, List.append_assoc, List.nil_append, List.cons_append, List.length_append, List.length_cons, List.length_nil]
  congr 3
set_option maxHeartbeats 1000000 in
theorem segments_c (s : List UInt8) (hs : s.length < 4294967281) : AC 90 [str s] (.tup [.agg (pad5 (segL 5 s).1), i64 (segN (segL 5 s)), boo (segL 5 s).2]) := by
  obtain ⟨R, hR⟩ : ∃ R, R = segL 5 s := ⟨_, rfl⟩
  rw [← hR]
  refine ACalls.of ⟨11, [], []⟩ (fn := Tryz.f90) Tryz.func90 rfl rfl rfl (by kernel_rfl) (by kernel_rfl) (Nat.le_of_ble_eq_true rfl) ?_
  simp (maxSteps := 1000000) -implicitDefEqProofs only [go_sem, awp_seq, Nat.reduceBNe, Nat.reduceBEq, Nat.reduceAdd, Nat.reduceSub, Nat.reduceMul, Nat.reduceLeDiff, Nat.reduceLT, Nat.reduceEqDiff, Nat.reduceBneDiff, Int.reduceLE, Int.reduceLT, Int.reduceToNat, Int.reduceBEq, Int.reduceBNe, Int.reduceAdd, Int.reduceSub, Int.cast_ofNat_Int]
  refine loop_mk (α := {x : List (List UInt8) × List UInt8 // x.1.length ≤ 5 ∧ x.2.length ≤ s.length ∧ R = (x.1 ++ (segL (5 - x.1.length) x.2).1, (segL (5 - x.1.length) x.2).2)}) (fun x => [(0, some (.av (str x.1.2))), (2, some (.ref 2 0)), (3, some (.av (i64 0))), (4, some (.av (boo false))), (5, some (.ref 5 0)), (10, some (.av (i64 (x.1.1.length : Nat))))]) (fun x => [(2, [es0, es0, es0, es0, es0]), (5, pad5 x.1.1)]) (fun _ => []) (fun x => 5 - x.1.1.length) ⟨([], s), by simp, by simp, by simpa using hR⟩ ?_ ?_
  · simp (maxSteps := 1000000) -implicitDefEqProofs only [pad5_nil, go_sem, awp_seq, Nat.reduceBNe, Nat.reduceBEq, Nat.reduceAdd, Nat.reduceSub, Nat.reduceMul, Nat.reduceLeDiff, Nat.reduceLT, Nat.reduceEqDiff, Nat.reduceBneDiff, Int.reduceLE, Int.reduceLT, Int.reduceToNat, Int.reduceBEq, Int.reduceBNe, Int.reduceAdd, Int.reduceSub, Int.cast_ofNat_Int]
  · rintro ⟨⟨done, rest⟩, h1, h2, h3⟩
    clear hR
    dsimp only at h1 h2 h3
    have n5 := pad5_len h1
    by_cases hlt : done.length < 5
    · have g1 : decide (((done.length : Nat) : Int) < 5) = true := by simp; omega
      have CU := cutDot_c rest (by omega)
      have cl := cut_len rest [46]
      obtain ⟨k, hk⟩ : ∃ k, 5 - done.length = k + 1 := ⟨4 - done.length, by omega⟩
      have w1 : IntKind.i64.wrap (((done.length : Nat) : Int) + 1) = ((done.length + 1 : Nat) : Int) := by rw [IntWalk.i64_in _ (by omega)]; omega
      have n6 : ∀ x, (pad5 (done ++ [x])).length = 5 := fun x => pad5_len (by simp; omega)
      have q1 : done.length + 1 ≤ 5 := by omega
      have n7 : (List.take done.length (pad5 done)).length + (1 + (List.drop (done.length + 1) (pad5 done)).length) = 5 := by rw [List.length_take, List.length_drop, n5]; omega
      cases hf : (Lib.cut rest [46]).2.2 with
      | false =>
        have e : R = (done ++ [(Lib.cut rest [46]).1], true) := by rw [h3]; simp only [hk, segL, hf]; simp
        rw [hf] at CU
        generalize (Lib.cut rest [46]).1 = hd at *
        generalize (Lib.cut rest [46]).2.1 = tl at *
        have t5 : List.take 5 (pad5 (done ++ [hd])) = pad5 (done ++ [hd]) := List.take_of_length_le (by rw [n6]; omega)
        subst e
        simp (maxSteps := 1000000) -implicitDefEqProofs only [mk_bs, g1, go_sem, awp_seq, Nat.reduceBNe, Nat.reduceBEq, Nat.reduceAdd, Nat.reduceSub, Nat.reduceMul, Nat.reduceLeDiff, Nat.reduceLT, Nat.reduceEqDiff, Nat.reduceBneDiff, Int.reduceLE, Int.reduceLT, Int.reduceToNat, Int.reduceBEq, Int.reduceBNe, Int.reduceAdd, Int.reduceSub, Int.cast_ofNat_Int]
        refine callA_mk CU ?_
        simp (maxSteps := 1000000) -implicitDefEqProofs only [mk_bs, g1, n5, n6, n7, t5, hlt, q1, Nat.mul_one, pad5_set hlt, pad5_one, pad5_nl, segN, w1, List.length_append, Int.toNat_natCast, Int.natCast_nonneg, go_sem, awp_seq, Nat.reduceBNe, Nat.reduceBEq, Nat.reduceAdd, Nat.reduceSub, Nat.reduceMul, Nat.reduceLeDiff, Nat.reduceLT, Nat.reduceEqDiff, Nat.reduceBneDiff, Int.reduceLE, Int.reduceLT, Int.reduceToNat, Int.reduceBEq, Int.reduceBNe, Int.reduceAdd, Int.reduceSub, Int.cast_ofNat_Int]
      | true =>
        have e : R = ((done ++ [(Lib.cut rest [46]).1]) ++ (segL k (Lib.cut rest [46]).2.1).1, (segL k (Lib.cut rest [46]).2.1).2) := by rw [h3]; simp only [hk, segL, hf]; simp
        rw [hf] at CU
        generalize (Lib.cut rest [46]).1 = hd at *
        generalize (Lib.cut rest [46]).2.1 = tl at *
        simp (maxSteps := 1000000) -implicitDefEqProofs only [mk_bs, g1, go_sem, awp_seq, Nat.reduceBNe, Nat.reduceBEq, Nat.reduceAdd, Nat.reduceSub, Nat.reduceMul, Nat.reduceLeDiff, Nat.reduceLT, Nat.reduceEqDiff, Nat.reduceBneDiff, Int.reduceLE, Int.reduceLT, Int.reduceToNat, Int.reduceBEq, Int.reduceBNe, Int.reduceAdd, Int.reduceSub, Int.cast_ofNat_Int]
        refine callA_mk CU ?_
        simp (maxSteps := 1000000) -implicitDefEqProofs only [mk_bs, g1, n5, n6, hlt, q1, Nat.mul_one, pad5_set hlt, pad5_one, pad5_nl, w1, Int.toNat_natCast, Int.natCast_nonneg, go_sem, awp_seq, Nat.reduceBNe, Nat.reduceBEq, Nat.reduceAdd, Nat.reduceSub, Nat.reduceMul, Nat.reduceLeDiff, Nat.reduceLT, Nat.reduceEqDiff, Nat.reduceBneDiff, Int.reduceLE, Int.reduceLT, Int.reduceToNat, Int.reduceBEq, Int.reduceBNe, Int.reduceAdd, Int.reduceSub, Int.cast_ofNat_Int]
        refine roundK_mk ⟨(done ++ [hd], tl), by simp; omega, by show tl.length ≤ _; omega, ?_⟩ ?_ (by show 5 - (done ++ [hd]).length < 5 - done.length; simp; omega)
        · rw [e]
          have : 5 - (done ++ [hd]).length = k := by simp; omega
          simp only [this]
        · simp (maxSteps := 1000000) -implicitDefEqProofs only [List.length_append, List.length_cons, List.length_nil, Nat.zero_add, go_sem, awp_seq, Nat.reduceBNe, Nat.reduceBEq, Nat.reduceAdd, Nat.reduceSub, Nat.reduceMul, Nat.reduceLeDiff, Nat.reduceLT, Nat.reduceEqDiff, Nat.reduceBneDiff, Int.reduceLE, Int.reduceLT, Int.reduceToNat, Int.reduceBEq, Int.reduceBNe, Int.reduceAdd, Int.reduceSub, Int.cast_ofNat_Int]
    · have g1 : decide (((done.length : Nat) : Int) < 5) = false := by simp; omega
      have hk : 5 - done.length = 0 := by omega
      have e : R = (done, false) := by rw [h3, hk]; simp [segL]
      have t5 : List.take 5 (pad5 done) = pad5 done := List.take_of_length_le (by rw [n5]; omega)
      subst e
      simp (maxSteps := 1000000) -implicitDefEqProofs only [g1, n5, t5, pad5_one, pad5_nl, segN, go_sem, awp_seq, Nat.reduceBNe, Nat.reduceBEq, Nat.reduceAdd, Nat.reduceSub, Nat.reduceMul, Nat.reduceLeDiff, Nat.reduceLT, Nat.reduceEqDiff, Nat.reduceBneDiff, Int.reduceLE, Int.reduceLT, Int.reduceToNat, Int.reduceBEq, Int.reduceBNe, Int.reduceAdd, Int.reduceSub, Int.cast_ofNat_Int]
def contentB (s : List UInt8) : Bool := !(decide ((24 : Int) < (s.length : Nat))) && ((segL 5 s).2 && (segL 5 s).1.all segB)
end Go.Proofs.YtkmicjpoekbhfaaGreatDoor

/- Chapter 38: content.Valid; the rule of content. INTS -/
set_option linter.unusedSimpArgs false
set_option linter.unusedVariables false
namespace Go.Proofs.YtkmicjpoekbhfaaGreatDoor
open Go.RowKit Lim

theorem segL_mem : ∀ n s x, x ∈ (segL n s).1 → x.length ≤ s.length
  | 0, _, x, h => by simp [segL] at h
  | n + 1, s, x, h => by
    have cl := cut_len s [46]
    unfold segL at h
    split at h
    · simp only [List.mem_cons] at h
      rcases h with rfl | h
      · exact cl.1
      · exact Nat.le_trans (segL_mem n _ x h) cl.2
    · simp only [List.mem_cons, List.not_mem_nil, or_false] at h
      subst h
      exact cl.1
theorem chunk_one : ∀ (n : Nat) (cs : List AV), cs.length = n → cs.all AV.one = true → chunk 1 n cs = cs
  | 0, cs, h, _ => by cases cs with | nil => rfl | cons => simp at h
  | n + 1, cs, h, h1 => by
    cases cs with
    | nil => simp at h
    | cons c cs =>
      have : chunk 1 n cs = cs := chunk_one n cs (by simpa using h) (by simp at h1; simpa using h1.2)
      simp only [chunk, List.take_succ_cons, List.take_zero, List.drop_succ_cons, List.drop_zero, mkEl, this]
theorem slice_arr {e : TypeId} {z : List AV} {b : Nat} {k : TV → Prop} (L : List (List UInt8)) (h : L.length ≤ 5) (hk : k (.av (.sl 1 (L.map (fun x => str x))))) : sliceK ⟨.arr 5 e 1, z, b⟩ (.av (.ptr (pad5 L))) none (some (.av (i64 (L.length : Nat)))) k := by
  have n5 := pad5_len h
  have t5 : List.take (5 * 1) (pad5 L) = pad5 L := List.take_of_length_le (by rw [n5]; omega)
  refine ⟨_, ⟨by rw [n5]; omega, by rw [t5]; exact pad5_one L, 0, L.length, ⟨⟨by omega, by omega, by simp⟩, rfl⟩, rfl⟩, ?_⟩
  rw [t5, chunk_one 5 (pad5 L) n5 (pad5_one L), List.drop_zero]
  unfold pad5
  rw [List.take_left' (by simp)]
  exact hk
theorem cvalid_c (s : List UInt8) : AC 65 [str s] (boo (contentB s)) := by
  unfold contentB
  cases c1 : decide ((24 : Int) < (s.length : Nat)) with
  | true =>
    refine ACalls.of ⟨23, [(6, 3)], []⟩ (fn := Tryz.f65) Tryz.func65 rfl rfl rfl (by kernel_rfl) (by kernel_rfl) (Nat.le_of_ble_eq_true rfl) ?_
    simp (maxSteps := 1000000) -implicitDefEqProofs only [bs_size, c1, go_sem, awp_seq, Nat.reduceBNe, Nat.reduceBEq, Nat.reduceAdd, Nat.reduceSub, Nat.reduceMul, Nat.reduceLeDiff, Nat.reduceLT, Nat.reduceEqDiff, Nat.reduceBneDiff, Int.reduceLE, Int.reduceLT, Int.reduceToNat, Int.reduceBEq, Int.reduceBNe, Int.reduceAdd, Int.reduceSub, Int.cast_ofNat_Int]
  | false =>
    have hs : s.length ≤ 24 := by simp at c1; omega
    have S := segments_c s (by omega)
    have hm := segL_mem 5 s
    have hl := segL_len 5 s
    generalize segL 5 s = R at *
    obtain ⟨L, ok⟩ := R
    dsimp only at *
    have n5 := pad5_len hl.1
    cases ok with
    | false =>
      refine ACalls.of ⟨23, [(6, 3)], []⟩ (fn := Tryz.f65) Tryz.func65 rfl rfl rfl (by kernel_rfl) (by kernel_rfl) (Nat.le_of_ble_eq_true rfl) ?_
      simp (maxSteps := 1000000) -implicitDefEqProofs only [bs_size, c1, go_sem, awp_seq, Nat.reduceBNe, Nat.reduceBEq, Nat.reduceAdd, Nat.reduceSub, Nat.reduceMul, Nat.reduceLeDiff, Nat.reduceLT, Nat.reduceEqDiff, Nat.reduceBneDiff, Int.reduceLE, Int.reduceLT, Int.reduceToNat, Int.reduceBEq, Int.reduceBNe, Int.reduceAdd, Int.reduceSub, Int.cast_ofNat_Int]
      refine callA_mk S ?_
      simp (maxSteps := 1000000) -implicitDefEqProofs only [n5, pad5_one, pad5_nl, go_sem, awp_seq, Nat.reduceBNe, Nat.reduceBEq, Nat.reduceAdd, Nat.reduceSub, Nat.reduceMul, Nat.reduceLeDiff, Nat.reduceLT, Nat.reduceEqDiff, Nat.reduceBneDiff, Int.reduceLE, Int.reduceLT, Int.reduceToNat, Int.reduceBEq, Int.reduceBNe, Int.reduceAdd, Int.reduceSub, Int.cast_ofNat_Int]
    | true =>
      have eN : segN (L, true) = ((L.length : Nat) : Int) := rfl
      rw [eN] at S
      refine ACalls.of ⟨23, [(6, 3)], []⟩ (fn := Tryz.f65) Tryz.func65 rfl rfl rfl (by kernel_rfl) (by kernel_rfl) (Nat.le_of_ble_eq_true rfl) ?_
      simp (maxSteps := 1000000) -implicitDefEqProofs only [bs_size, c1, go_sem, awp_seq, Nat.reduceBNe, Nat.reduceBEq, Nat.reduceAdd, Nat.reduceSub, Nat.reduceMul, Nat.reduceLeDiff, Nat.reduceLT, Nat.reduceEqDiff, Nat.reduceBneDiff, Int.reduceLE, Int.reduceLT, Int.reduceToNat, Int.reduceBEq, Int.reduceBNe, Int.reduceAdd, Int.reduceSub, Int.cast_ofNat_Int]
      refine callA_mk S ?_
      simp (maxSteps := 1000000) -implicitDefEqProofs only [n5, pad5_one, pad5_nl, go_sem, awp_seq, Nat.reduceBNe, Nat.reduceBEq, Nat.reduceAdd, Nat.reduceSub, Nat.reduceMul, Nat.reduceLeDiff, Nat.reduceLT, Nat.reduceEqDiff, Nat.reduceBneDiff, Int.reduceLE, Int.reduceLT, Int.reduceToNat, Int.reduceBEq, Int.reduceBNe, Int.reduceAdd, Int.reduceSub, Int.cast_ofNat_Int]
      refine slice_arr L hl.1 ?_
      simp (maxSteps := 1000000) -implicitDefEqProofs only [List.length_map, go_sem, awp_seq, Nat.reduceBNe, Nat.reduceBEq, Nat.reduceAdd, Nat.reduceSub, Nat.reduceMul, Nat.reduceLeDiff, Nat.reduceLT, Nat.reduceEqDiff, Nat.reduceBneDiff, Int.reduceLE, Int.reduceLT, Int.reduceToNat, Int.reduceBEq, Int.reduceBNe, Int.reduceAdd, Int.reduceSub, Int.cast_ofNat_Int]
      refine loop_mk (α := {k : Nat // k ≤ L.length ∧ ∀ i (hi : i < L.length), i < k → segB L[i] = true}) (fun k => [(0, some (.av (str s))), (20, some (.av (.sl 1 (L.map (fun x => str x))))), (21, some (.av (i64 (L.length : Nat)))), (22, some (.av (i64 (k.1 : Nat))))]) (fun _ => []) (fun _ => []) (fun k => L.length - k.1) ⟨0, Nat.zero_le _, fun i _ hi => by omega⟩ ?_ ?_
      · simp (maxSteps := 1000000) -implicitDefEqProofs only [go_sem, awp_seq, Nat.reduceBNe, Nat.reduceBEq, Nat.reduceAdd, Nat.reduceSub, Nat.reduceMul, Nat.reduceLeDiff, Nat.reduceLT, Nat.reduceEqDiff, Nat.reduceBneDiff, Int.reduceLE, Int.reduceLT, Int.reduceToNat, Int.reduceBEq, Int.reduceBNe, Int.reduceAdd, Int.reduceSub, Int.cast_ofNat_Int]
      · rintro ⟨k, hk, hall⟩
        by_cases hlt : k < L.length
        · have g1 : decide (((k : Nat) : Int) < (L.length : Nat)) = true := by simp; omega
          have e1 := map_get (fun x => str x) L hlt
          have w1 : IntKind.i64.wrap ((k : Int) + 1) = ((k + 1 : Nat) : Int) := by rw [IntWalk.i64_in _ (by omega)]; omega
          have V := validSegment_c L[k] (by have := hm _ (List.getElem_mem hlt); omega)
          have ok1 : segB L[k] = true → ∀ i (hi : i < L.length), i < k + 1 → segB L[i] = true := fun h i hi hik => by
            by_cases he : i = k
            · subst he; exact h
            · exact hall i hi (by omega)
          have bad : segB L[k] = false → L.all segB = false := fun h => by rw [List.all_eq_false]; exact ⟨L[k], List.getElem_mem hlt, by simp [h]⟩
          generalize L[k] = x at *
          cases c2 : segB x with
          | false =>
            have e := bad c2
            rw [c2] at V
            simp (maxSteps := 1000000) -implicitDefEqProofs only [g1, e1, Int.toNat_natCast, Int.natCast_nonneg, go_sem, awp_seq, Nat.reduceBNe, Nat.reduceBEq, Nat.reduceAdd, Nat.reduceSub, Nat.reduceMul, Nat.reduceLeDiff, Nat.reduceLT, Nat.reduceEqDiff, Nat.reduceBneDiff, Int.reduceLE, Int.reduceLT, Int.reduceToNat, Int.reduceBEq, Int.reduceBNe, Int.reduceAdd, Int.reduceSub, Int.cast_ofNat_Int]
            refine callA_t V ?_
            simp (maxSteps := 1000000) -implicitDefEqProofs only [e, go_sem, awp_seq, Nat.reduceBNe, Nat.reduceBEq, Nat.reduceAdd, Nat.reduceSub, Nat.reduceMul, Nat.reduceLeDiff, Nat.reduceLT, Nat.reduceEqDiff, Nat.reduceBneDiff, Int.reduceLE, Int.reduceLT, Int.reduceToNat, Int.reduceBEq, Int.reduceBNe, Int.reduceAdd, Int.reduceSub, Int.cast_ofNat_Int]
          | true =>
            rw [c2] at V
            simp (maxSteps := 1000000) -implicitDefEqProofs only [g1, e1, Int.toNat_natCast, Int.natCast_nonneg, go_sem, awp_seq, Nat.reduceBNe, Nat.reduceBEq, Nat.reduceAdd, Nat.reduceSub, Nat.reduceMul, Nat.reduceLeDiff, Nat.reduceLT, Nat.reduceEqDiff, Nat.reduceBneDiff, Int.reduceLE, Int.reduceLT, Int.reduceToNat, Int.reduceBEq, Int.reduceBNe, Int.reduceAdd, Int.reduceSub, Int.cast_ofNat_Int]
            refine callA_t V ?_
            simp (maxSteps := 1000000) -implicitDefEqProofs only [w1, go_sem, awp_seq, Nat.reduceBNe, Nat.reduceBEq, Nat.reduceAdd, Nat.reduceSub, Nat.reduceMul, Nat.reduceLeDiff, Nat.reduceLT, Nat.reduceEqDiff, Nat.reduceBneDiff, Int.reduceLE, Int.reduceLT, Int.reduceToNat, Int.reduceBEq, Int.reduceBNe, Int.reduceAdd, Int.reduceSub, Int.cast_ofNat_Int]
            refine roundK_mk ⟨k + 1, by omega, ok1 c2⟩ ?_ (by show L.length - (k + 1) < L.length - k; omega)
            simp (maxSteps := 1000000) -implicitDefEqProofs only [go_sem, awp_seq, Nat.reduceBNe, Nat.reduceBEq, Nat.reduceAdd, Nat.reduceSub, Nat.reduceMul, Nat.reduceLeDiff, Nat.reduceLT, Nat.reduceEqDiff, Nat.reduceBneDiff, Int.reduceLE, Int.reduceLT, Int.reduceToNat, Int.reduceBEq, Int.reduceBNe, Int.reduceAdd, Int.reduceSub, Int.cast_ofNat_Int]
        · have g1 : decide (((k : Nat) : Int) < (L.length : Nat)) = false := by simp; omega
          have e : L.all segB = true := by
            rw [List.all_eq_true]
            intro x hx
            obtain ⟨i, hi, rfl⟩ := List.getElem_of_mem hx
            exact hall i hi (by omega)
          simp (maxSteps := 1000000) -implicitDefEqProofs only [g1, e, go_sem, awp_seq, Nat.reduceBNe, Nat.reduceBEq, Nat.reduceAdd, Nat.reduceSub, Nat.reduceMul, Nat.reduceLeDiff, Nat.reduceLT, Nat.reduceEqDiff, Nat.reduceBneDiff, Int.reduceLE, Int.reduceLT, Int.reduceToNat, Int.reduceBEq, Int.reduceBNe, Int.reduceAdd, Int.reduceSub, Int.cast_ofNat_Int]
end Go.Proofs.YtkmicjpoekbhfaaGreatDoor

/- Chapter 38: the demands of rules. INTS -/
set_option linter.unusedSimpArgs false
set_option linter.unusedVariables false
namespace Go.Proofs.YtkmicjpoekbhfaaGreatDoor
open Go.RowKit Lim

end Go.Proofs.YtkmicjpoekbhfaaGreatDoor

/- Chapter 38: the first error of a specification. INTS -/
set_option linter.unusedSimpArgs false
set_option linter.unusedVariables false
namespace Go.Proofs.YtkmicjpoekbhfaaGreatDoor
open Go.RowKit Lim

section
variable {a b c d : AV}
end
end Go.Proofs.YtkmicjpoekbhfaaGreatDoor

/- Chapter 38: blueprint.Valid. INTS -/
set_option linter.unusedSimpArgs false
set_option linter.unusedVariables false
namespace Go.Proofs.YtkmicjpoekbhfaaGreatDoor
open Go.RowKit Lim

end Go.Proofs.YtkmicjpoekbhfaaGreatDoor

/- Chapter 38: content codes and rules in the reference. INTS -/
set_option linter.unusedSimpArgs false
set_option linter.unusedVariables false
namespace Go.Proofs.YtkmicjpoekbhfaaGreatDoor
open Go.RowKit Lim

/-- The reference's reading of a code: what is left, the number of segments, the size of the present one. -/
def r13 : List UInt8 → Nat → Nat → Bool
  | [], sg, sz => decide (0 < sz) && decide (sg ≤ 5)
  | c :: r, sg, sz => if c.toNat = 46 then (if sz = 0 then false else r13 r (sg + 1) 0) else if okByte c = false then false else if 8 < sz + 1 then false else r13 r sg (sz + 1)
theorem index_miss {s : List UInt8} (h : (46 : UInt8) ∉ s) : Lib.index s [46] = -1 := by
  induction s with
  | nil => rfl
  | cons c s ih =>
    simp only [List.mem_cons, not_or] at h
    unfold Lib.index
    have : ([46] : List UInt8).isPrefixOf (c :: s) = false := by
      simp [List.isPrefixOf]
      exact h.1
    rw [this, ih h.2]
    rfl
theorem index_at {a b : List UInt8} (h : (46 : UInt8) ∉ a) : Lib.index (a ++ 46 :: b) [46] = (a.length : Int) := by
  induction a with
  | nil =>
    rw [List.nil_append]
    unfold Lib.index
    simp [List.isPrefixOf]
  | cons c a ih =>
    simp only [List.mem_cons, not_or] at h
    rw [List.cons_append]
    unfold Lib.index
    have : ([46] : List UInt8).isPrefixOf (c :: (a ++ 46 :: b)) = false := by
      simp [List.isPrefixOf]
      exact h.1
    rw [this, ih h.2]
    have h2 : ((a.length : Int) == -1) = false := by rw [beq_eq_false_iff_ne]; omega
    simp [h2]
theorem cut_miss {s : List UInt8} (h : (46 : UInt8) ∉ s) : Lib.cut s [46] = (s, [], false) := by
  unfold Lib.cut
  rw [index_miss h]
  rfl
theorem cut_at {a b : List UInt8} (h : (46 : UInt8) ∉ a) : Lib.cut (a ++ 46 :: b) [46] = (a, b, true) := by
  unfold Lib.cut
  rw [index_at h, if_pos (by omega)]
  simp
theorem cut_cases (s : List UInt8) : ((46 : UInt8) ∉ s) ∨ ∃ a b, s = a ++ 46 :: b ∧ (46 : UInt8) ∉ a := by
  induction s with
  | nil => left; simp
  | cons c s ih =>
    by_cases hc : c = 46
    · exact .inr ⟨[], s, by rw [hc]; rfl, by simp⟩
    · rcases ih with h | ⟨a, b, rfl, h⟩
      · left; simp [h]; exact fun hq => hc hq.symm
      · exact .inr ⟨c :: a, b, rfl, by simp [h]; exact fun hq => hc hq.symm⟩
end Go.Proofs.YtkmicjpoekbhfaaGreatDoor

/- Chapter 40: slices.Sorted of slices.Values (turned from the kit's worked proofs on slices' iterators and on collecting in a loop over an iterator). -/
set_option linter.unusedSimpArgs false
set_option linter.unusedVariables false
namespace Go.Proofs.YtkmicjpoekbhfaaGreatDoor
open Go.RowKit Go.Shelf Lim

section
attribute [local go_sem] Oper.semAt_some

def upto {α : Type} (f : Nat → α) (k : Nat) : List α := (List.range k).map f
theorem upto_succ {α : Type} (f : Nat → α) (k : Nat) : upto f (k + 1) = upto f k ++ [f k] := by simp [upto, List.range_succ]
theorem upto_length {α : Type} (f : Nat → α) (k : Nat) : (upto f k).length = k := by simp [upto]
theorem upto_all (zs : List Int) : upto (fun j => zs[j]?.getD 0) zs.length = zs := by
  apply List.ext_getElem
  · simp [upto]
  · intro i h1 h2
    simp [upto, h2]
theorem upto_take (zs : List Int) {k : Nat} (hk : k ≤ zs.length) : upto (fun j => zs[j]?.getD 0) k = zs.take k := by
  apply List.ext_getElem
  · simp [upto, hk]
  · intro i h1 h2
    have : i < zs.length := by simp [upto] at h1; omega
    simp [upto, this]
set_option maxRecDepth 100000 in
set_option maxHeartbeats 2000000 in
theorem values1_in (F : Fence) (n : Nat) (h7 : F.fn 93) (hro : F.round = none) (hn : 1 ≤ n) (l Bs o n₀ b off len cap : Nat) (zs : List Int) (hreach : len * 8 ≤ 140737488351232) (hb : b < n₀) (J Jx : List Int → World → Prop)
    (hY : ∀ pre x W, J pre W → pre.length < len → YieldAt F (n - 1) Tryz.prog l #[.int .i64 x] W fun e W' =>
      (e = .returned (.bool true) ∧ J (pre ++ [x]) W' ∧ Below n₀ W W') ∨ (e = .returned (.bool false) ∧ Jx (pre ++ [x]) W'))
    (W : World) (hBs : W.cell? ⟨Bs, o, none⟩ = some (.slice (some ⟨b, off, none⟩) len cap)) (hc : ∀ j, j < len → W.cell? ⟨b, off + j, none⟩ = some (.int .i64 (zs[j]?.getD 0))) (h0 : J [] W) :
    CallsIn F n Tryz.prog 93 #[.func (.yield l) #[] #[], .pointer (some ⟨Bs, o, none⟩)] W fun e W' => (∃ v, e = .returned v) ∧
      ((∃ ys, ys = upto (fun j => zs[j]?.getD 0) len ∧ J ys W') ∨ (∃ pre, (∃ k, k ≤ len ∧ pre = upto (fun j => zs[j]?.getD 0) k) ∧ Jx pre W')) := by
  refine callsIn_of_wp Tryz.func93 rfl h7 ?_ hro
  simp only [Tryz.ntmps93, List.size_toArray, List.length_cons, List.length_nil, Nat.reduceAdd, Nat.reduceSub, Array.replicate_succ, Array.replicate_zero, List.push_toArray, List.append_toArray, List.nil_append, List.cons_append]
  gi_wp2
  gi_loopw [7] (fun i wr => ∃ k : Nat, k ≤ len ∧ i = .int .i64 k ∧ J (upto (fun j => zs[j]?.getD 0) k) wr ∧ Below n₀ W wr)
    (fun i _ => len - (intOf i).toNat)
  case atStart => exact ⟨0, Nat.zero_le _, rfl, h0, Below.refl _ _⟩
  case round =>
    obtain ⟨k, hk, rfl, hJs, hnx⟩ := hrel
    have hcx : k < len → wr.cell? ⟨b, off + k, none⟩ = some (.int .i64 (zs[k]?.getD 0)) := fun h => (hnx.cell (p := ⟨b, off + k, none⟩) hb).trans (hc k h)
    by_cases hlt : k < len
    · obtain ⟨fn, tmps, assign, body, hy, hR⟩ := hY _ (zs[k]?.getD 0) wr hJs (by rw [upto_length]; exact hlt)
      have hcx' := hcx hlt
      gi_wp2
      refine hR.mono ?_
      rintro e W3 (⟨rfl, hJ3, hk3⟩ | ⟨rfl, hJx3⟩)
      · gi_wp2
        go_roundw
        case rel => exact ⟨k + 1, by omega, by simp, by rw [upto_succ]; exact hJ3, hnx.trans hk3⟩
        case measure => simp [intOf]; omega
      · gi_wp2
        refine bodyPost_ret (results_none rfl _ _ _) rfl ?_
        exact ⟨⟨_, rfl⟩, .inr ⟨_, ⟨k + 1, by omega, (upto_succ _ _).symm⟩, hJx3⟩⟩
    · obtain rfl : k = len := by omega
      gi_wp2
      go_end0
      exact ⟨⟨_, rfl⟩, .inl ⟨_, rfl, hJs⟩⟩
set_option maxRecDepth 100000 in
set_option maxHeartbeats 1000000 in
theorem values1_none (F : Fence) (n : Nat) (h7 : F.fn 93) (hro : F.round = none) (l Bs o : Nat) (A : Option Addr) (cap : Nat) (J : List Int → World → Prop) (W : World) (hBs : W.cell? ⟨Bs, o, none⟩ = some (.slice A 0 cap)) (h0 : J [] W) :
    CallsIn F n Tryz.prog 93 #[.func (.yield l) #[] #[], .pointer (some ⟨Bs, o, none⟩)] W fun e W' => (∃ v, e = .returned v) ∧ J [] W' := by
  refine callsIn_of_wp Tryz.func93 rfl h7 ?_ hro
  simp only [Tryz.ntmps93, List.size_toArray, List.length_cons, List.length_nil, Nat.reduceAdd, Nat.reduceSub, Array.replicate_succ, Array.replicate_zero, List.push_toArray, List.append_toArray, List.nil_append, List.cons_append]
  gi_wp2
  gi_loopw [7] (fun i wr => i = .int .i64 0 ∧ J [] wr) (fun _ _ => 0)
  case atStart => exact ⟨rfl, h0⟩
  case round =>
    obtain ⟨rfl, hJs⟩ := hrel
    gi_wp2
    go_end0
    exact ⟨⟨_, rfl⟩, hJs⟩
/-- The slice value holds these numbers, in a block below n₀; or it is empty. -/
def IntsAt (n₀ : Nat) (W : World) (sv : Value) (zs : List Int) : Prop :=
  (∃ A cap, sv = .slice A 0 cap ∧ zs = []) ∨ ∃ b off cap, sv = .slice (some ⟨b, off, none⟩) zs.length cap ∧ b < n₀ ∧ ∀ j, j < zs.length → W.cell? ⟨b, off + j, none⟩ = some (.int .i64 (zs[j]?.getD 0))
theorem IntsAt.below {n₀ : Nat} {A B : World} (h : Below n₀ A B) {sv : Value} {zs : List Int} : IntsAt n₀ A sv zs → IntsAt n₀ B sv zs
  | .inl e => .inl e
  | .inr ⟨b, off, cap, e, hb, hc⟩ => .inr ⟨b, off, cap, e, hb, fun j hj => (h.cell (p := ⟨b, off + j, none⟩) hb).trans (hc j hj)⟩
theorem values_stops (F : Fence) (n : Nat) (h7 : F.fn 93) (hro : F.round = none) (hn : 1 ≤ n) (Bs o n₀ : Nat) (sv : Value) (zs : List Int) (hreach : zs.length * 8 ≤ 140737488351232) (w : World) (hBs : Bs < w.heap.size) (hn₀ : n₀ ≤ w.heap.size)
    (hc : w.cell? ⟨Bs, o, none⟩ = some sv) (hI : IntsAt n₀ w sv zs) :
    SeqStopsK F n Tryz.prog 93 #[.pointer (some ⟨Bs, o, none⟩)] (fun x : Int => #[Value.int .i64 x]) (Below n₀) (fun ys => ys = zs) (fun pre => pre <+: zs) zs.length w := fun l J Jx W hW _ _ hY h0 => by
  have hc' := (hW.cell (p := ⟨Bs, o, none⟩) hBs).trans hc
  rcases hI.below (hW.mono hn₀) with ⟨A, cap, rfl, rfl⟩ | ⟨b, off, cap, rfl, hb, hcs⟩
  · exact (values1_none F n h7 hro l Bs o A cap J W hc' h0).mono fun e W' ⟨he, hj⟩ => ⟨he, .inl ⟨_, rfl, hj⟩⟩
  · refine (values1_in F n h7 hro hn l Bs o n₀ b off zs.length cap zs hreach hb J Jx hY W hc' hcs h0).mono ?_
    rintro e W' ⟨he, ⟨ys, rfl, hj⟩ | ⟨pre, ⟨k, hk, rfl⟩, hj⟩⟩
    · exact ⟨he, .inl ⟨_, upto_all zs, hj⟩⟩
    · exact ⟨he, .inr ⟨_, by rw [upto_take zs hk]; exact List.take_prefix _ _, hj⟩⟩
theorem infoI : (Tryz.prog.info? 3).map (fun i => (i.zero, i.size, i.bytes)) = some (some (.int .i64 0), 1, 8) := by kernel_rfl
set_option maxRecDepth 100000 in
set_option maxHeartbeats 2000000 in
/-- slices.AppendSeq(nil, slices.Values(..)). -/
theorem appendSeq_in (F : Fence) (n : Nat) (h3 : F.fn 131) (h5 : F.fn 93) (hro : F.round = none) (hn : 3 ≤ n) (Bs o : Nat) (sv : Value) (zs : List Int) (hlen : zs.length ≤ 1000000000) (w : World) (hBs : Bs < w.heap.size) (hcc : w.cell? ⟨Bs, o, none⟩ = some sv) (hI : IntsAt w.heap.size w sv zs) :
    CallsIn F n Tryz.prog 131 #[.slice none 0 0, .func (.func 93) #[] #[.pointer (some ⟨Bs, o, none⟩)]] w fun e W' => ∃ v, e = .returned v ∧ W'.ownsRow w.heap.size 3 1 v zs.length (zs.map (Value.int .i64)) ∧ (v = .slice none 0 0 ↔ zs = []) ∧ Below w.heap.size w W' := by
  have h1 : 1 ≤ n := by omega
  obtain ⟨i0, hi, hz0, hz1, hz2⟩ := info_parts infoI
  have hml : zs.length ≤ maxLen := by rw [maxLen_eq]; omega
  refine callsIn_of_wp_marks Tryz.func131 rfl h3 ?_ hro
  simp only [Tryz.ntmps131, List.size_toArray, List.length_cons, List.length_nil, Nat.reduceAdd, Nat.reduceSub, Array.replicate_succ, Array.replicate_zero, List.push_toArray, List.append_toArray, List.nil_append, List.cons_append]
  gi_wp2
  have bO := Boxed.new w 23 (.slice none 0 0)
  have hB0 : Below w.heap.size w (w.alloc (.cells #[.slice none 0 0] 23)) := (Below.refl _ w).alloc (Nat.le_refl _) _
  have hcc0 := (hB0.cell (p := ⟨Bs, o, none⟩) hBs).trans hcc
  refine wpIn_rangeFunc_ownG hro h1 (gf := 93) (lb := #[.pointer (some ⟨Bs, o, none⟩)]) rfl h5 (enters_of Tryz.func93 (by kernel_rfl) rfl)
    (values_stops F (n - 1) h5 hro (by omega) Bs o w.heap.size sv zs (by omega) _ (by simp; omega) (by simp) hcc0 (hI.below hB0)) belowK_t (belowK_b (by simp)) (Below.refl _ _) (fun _ => rfl)
    (fun pre W => (∃ v, Boxed W w.heap.size 23 v ∧ W.ownsRow w.heap.size 3 1 v pre.length (pre.map (Value.int .i64)) ∧ (v = .slice none 0 0 ↔ pre = [])) ∧ Below w.heap.size w W)
    (fun _ _ _ => False)
    (OwnFrom.and (Own.from (holdsRow_own w.heap.size w.heap.size 23 3 1 (fun pre => pre.length) (fun pre => pre.map (Value.int .i64)) (fun pre v => v = .slice none 0 0 ↔ pre = [])) _) (ownFrom_below (Nat.le_refl _) (by simp)))
    (fun _ _ _ _ _ hs _ _ => hs)
    ⟨⟨_, bO, World.ownsRow_nil _ _ _ _, by simp⟩, hB0⟩
    (fun x => { tmps := #[.slice none 0 0, .func (.func 93) #[] #[.pointer (some ⟨Bs, o, none⟩)], .pointer (some ⟨w.heap.size, 0, none⟩), undef, .slice none 0 0, .int .i64 x, .func (.func 93) #[] #[.pointer (some ⟨Bs, o, none⟩)], .int .i64 x, undef, undef, undef, undef, undef], defers := [] }) ?assign ?body ?done ?stop
  case assign =>
    intro l x W K hK
    gi_wp2
    exact hK
  case body =>
    rintro l pre x W ⟨⟨v, hv, hrow, hnil⟩, hB⟩ hlt
    have hc := hv.cell
    gi_wp2_with (gi_at_builtin; refine wpListIn_append_own _ rfl _ _ 23 rfl w.heap.size 3 i0 (.int .i64 0) 1 8 Tryz.underlying23 hi hz0 hz1 hz2 rfl (by decide) _ _ _ rfl (hrow.alloc _) ⟨W.heap.size, 0, none⟩ 1 1 [.int .i64 x] rfl rfl (cell_one_new _ _ _) (by simp [Value.oneCell']) (by omega) (by omega) (by have := hB.size; simp; omega) ?_; intro v' w1 hown' hgrow _; obtain ⟨g', cap', rfl⟩ := ownsRow_succ hown'; obtain ⟨hv1, hv2, hr2, hk2, hb2⟩ := hv.appended (by decide) hrow hB.size (Nat.le_refl _) hown' hgrow; have hc1 := hv1.cell; have hf1 := hv1.frozen)
    exact ⟨hk2.from _, hb2, ⟨_, hv2, by simpa using hr2, by simp⟩, hB.trans hb2⟩
  case done =>
    rintro D ys W hD rfl ⟨⟨v, hv, hrow, hnil⟩, hB⟩ hK
    have hc := hv.cell
    gi_wp2
    refine ⟨by simp, .inl ⟨_, _, rfl, run_takeDeferred hK, ?_⟩⟩
    exact ⟨_, results_tmp rfl _ _ _, v, rfl, ownsRow_putObj hrow _ hK rfl, hnil, hB.trans (belowK_b (w := w) (Nat.le_refl _) W D _ _ (by simp at hD; omega) hK rfl rfl)⟩
  case stop =>
    rintro D c pre W _ _ h _
    exact h.elim
end
end Go.Proofs.YtkmicjpoekbhfaaGreatDoor

/- Chapter 40: functions of the library, in the engine's words. INTS -/
set_option linter.unusedSimpArgs false
set_option linter.unusedVariables false
namespace Go.Proofs.YtkmicjpoekbhfaaGreatDoor
open Go.RowKit Go.Shelf Lim

abbrev strs (L : List (List UInt8)) : AV := .sl 1 (L.map (fun x => str x))
section
variable {w : World} {Z : Zone}
theorem rep_row1 {α : Type} (f : α → Value) {l : List α} {v : Value} (h : Rep w Z (.sl 1 (l.map fun x => AV.lit (f x))) v) :
    (l = [] ∧ ∃ A c, v = .slice A 0 c) ∨ ∃ b off c, v = .slice (some ⟨b, off, none⟩) l.length c ∧ b < w.heap.size ∧ l.length ≤ c ∧ ∀ j (hj : j < l.length), w.cell? ⟨b, off + j, none⟩ = some (f l[j]) := by
  generalize he : (l.map fun x => AV.lit (f x)) = es at h
  cases h with
  | nil => exact .inl ⟨by simpa using he, _, _, rfl⟩
  | sl vs hb hc hk hm hr =>
    right
    have hlen : es.length = l.length := by rw [← he]; simp
    refine ⟨_, _, _, by rw [hlen], hb, by omega, fun j hj => ?_⟩
    have hj' : j < es.length := by omega
    have e1 : es[j]'hj' = .lit (f l[j]) := by simp [← he]
    have hcl : (es[j]'hj').cells.length = 1 := hk j hj'
    have h2 := (hm j 0 hj' (by omega)).1
    have h3 := hr j hj' 0 (by omega)
    have e2 : (es[j]'hj').cells[0]'(by omega) = .lit (f l[j]) := by simp [e1, AV.cells]
    rw [e2] at h3
    rw [h3.lit_eq] at h2
    simpa using h2
theorem row1_rep {α : Type} (f : α → Value) (h1 : ∀ x, (f x).oneCell' = true) (l : List α) {b off c : Nat} (hb : b < w.heap.size) (hc : l.length ≤ c) (hcell : ∀ j (hj : j < l.length), w.cell? ⟨b, off + j, none⟩ = some (f l[j]) ∧ Z b (off + j)) : Rep w Z (.sl 1 (l.map fun x => AV.lit (f x))) (.slice (some ⟨b, off, none⟩) l.length c) := by
  have : Rep w Z (.sl 1 (l.map fun x => AV.lit (f x))) (.slice (some ⟨b, off, none⟩) (l.map fun x => AV.lit (f x)).length c) := by
    refine .sl (fun i _ => if h : i < l.length then f l[i] else undef) hb (by simpa using hc) (fun i hi => by simp [AV.cells]) (fun i j hi hj => ?_) (fun i hi j hj => ?_)
    · have hi' : i < l.length := by simpa using hi
      have : j = 0 := by omega
      subst this
      simp only [hi', dif_pos, Nat.mul_one, Nat.add_zero]
      exact hcell i hi'
    · have hi' : i < l.length := by simpa using hi
      have hj' : j = 0 := by simp [AV.cells] at hj; exact hj
      subst hj'
      simp only [hi', dif_pos]
      simp only [List.getElem_map, AV.cells, List.getElem_cons_zero]
      exact .lit (h1 _)
  simpa using this
theorem owns_rep {α : Type} (f : α → Value) (h1 : ∀ x, (f x).oneCell' = true) (l : List α) {base : Nat} {e : TypeId} {v : Value} (h : w.ownsRow base e 1 v l.length (l.map f)) (hz : ∀ b o, base ≤ b → b < w.heap.size → Z b o) : Rep w Z (.sl 1 (l.map fun x => AV.lit (f x))) v := by
  rcases h.2 with ⟨rfl, h0⟩ | ⟨g, cap, cur, rfl, hg, hcell, hn, hcap, hsz, ht⟩
  · have : l = [] := List.eq_nil_of_length_eq_zero h0
    subst this
    exact .nil
  · have hlt := (Array.getElem?_eq_some_iff.1 hcell).1
    have hbx : Box w g cur e := hcell
    refine row1_rep f h1 l hlt hn fun j hj => ⟨?_, hz _ _ hg hlt⟩
    rw [Nat.zero_add, hbx.cell]
    have : (cur.toList.take (l.length * 1))[j]? = (l.map f)[j]? := by rw [ht]
    rw [List.getElem?_take_of_lt (by omega)] at this
    simpa [hj] using this
end
theorem rep_ptr1 {w : World} {Z : Zone} {a : AV} {p : Value} (h : Rep w Z (.ptr [a]) p) : ∃ b o v, p = .pointer (some ⟨b, o, none⟩) ∧ w.cell? ⟨b, o, none⟩ = some v ∧ Rep w Z a v := by
  cases h with
  | ptr vs hm hr => exact ⟨_, _, vs 0, rfl, by simpa using (hm 0 (by simp)).1, hr 0 (by simp)⟩
theorem rep_fn1 {w : World} {Z : Zone} {f : FuncId} {c : AV} {v : Value} (h : Rep w Z (.fn (.func f) [] [c]) v) : ∃ p, v = .func (.func f) #[] #[p] ∧ Rep w Z c p := by
  cases h with
  | fn hl1 hr1 hl2 hr2 =>
    rename_i us vs
    obtain rfl : us = #[] := Array.eq_empty_of_size_eq_zero (by simpa using hl1)
    have hl3 : vs.size = 1 := by simpa using hl2
    refine ⟨vs[0]'(by omega), ?_, hr2 0 (by simp)⟩
    congr 1
    apply Array.ext
    · simpa using hl3
    · intro i hi1 hi2
      simp at hi2
      subst hi2
      simp
theorem contains_c (l : List Int) (x : Int) (hl : l.length ≤ 1099511627776) : AT 50 [ints l, i64 x] (boo (l.contains x)) := by
  refine ⟨by exact ⟨Tryz.f50, Tryz.func50, by kernel_rfl, rfl⟩, fun w Z vs hE hz _ hr => ?_⟩
  obtain ⟨_, _, rfl, h1, h2⟩ := reps2 hr
  rw [h2.lit_eq]
  rcases rep_row1 (fun x : Int => Value.int .i64 x) h1 with ⟨rfl, A, c, rfl⟩ | ⟨b, off, c, rfl, hb, hc, hcell⟩
  · refine (Tryz.slices_Contains_int_empty A c x w).mono ?_
    rintro e w' ⟨rfl, rfl⟩
    exact ⟨_, rfl, Below.refl _ _, .lit rfl⟩
  · refine (Tryz.slices_Contains_int b off l.length c l x w (Nat.le_refl _) (by omega) (fun j hj => by rw [hcell j hj]; simp [hj])).mono ?_
    rintro e w' ⟨rfl, rfl⟩
    exact ⟨_, rfl, Below.refl _ _, by rw [List.take_length]; exact .lit rfl⟩
theorem index_c (l : List Int) (x : Int) (hl : l.length ≤ 1099511627776) : AT 51 [ints l, i64 x] (i64 (Lib.idxOf l x)) := by
  refine ⟨by exact ⟨Tryz.f51, Tryz.func51, by kernel_rfl, rfl⟩, fun w Z vs hE hz _ hr => ?_⟩
  obtain ⟨_, _, rfl, h1, h2⟩ := reps2 hr
  rw [h2.lit_eq]
  rcases rep_row1 (fun x : Int => Value.int .i64 x) h1 with ⟨rfl, A, c, rfl⟩ | ⟨b, off, c, rfl, hb, hc, hcell⟩
  · refine (Tryz.slices_Index_int_empty A c x w).mono ?_
    rintro e w' ⟨rfl, rfl⟩
    exact ⟨_, rfl, Below.refl _ _, .lit rfl⟩
  · refine (Tryz.slices_Index_int b off l.length c l x w (Nat.le_refl _) (by omega) (fun j hj => by rw [hcell j hj]; simp [hj])).mono ?_
    rintro e w' ⟨rfl, rfl⟩
    exact ⟨_, rfl, Below.refl _ _, by rw [List.take_length]; exact .lit rfl⟩
theorem bs_inj {a b : List UInt8} (h : bs a = bs b) : a = b := by
  have := congrArg (fun x : ByteArray => x.data.toList) h
  exact this
theorem containsS_c (L : List (List UInt8)) (s : List UInt8) (hl : L.length ≤ 1099511627776) : AT 22 [strs L, str s] (boo (L.contains s)) := by
  have e0 : Lib.containsS (L.map bs) (bs s) = L.contains s := by
    rw [Bool.eq_iff_iff, Lib.containsS_iff, List.contains_iff_mem]
    constructor
    · intro h
      obtain ⟨x, hx, he⟩ := List.mem_map.1 h
      rw [← bs_inj he]; exact hx
    · exact fun h => List.mem_map_of_mem h
  refine ⟨by exact ⟨Tryz.f22, Tryz.func22, by kernel_rfl, rfl⟩, fun w Z vs hE hz _ hr => ?_⟩
  obtain ⟨_, _, rfl, h1, h2⟩ := reps2 hr
  rw [h2.lit_eq]
  rcases rep_row1 (fun x : List UInt8 => Value.string (bs x)) h1 with ⟨rfl, A, c, rfl⟩ | ⟨b, off, c, rfl, hb, hc, hcell⟩
  · refine (Tryz.slices_Contains_string_empty A c (bs s) w).mono ?_
    rintro e w' ⟨rfl, rfl⟩
    exact ⟨_, rfl, Below.refl _ _, .lit rfl⟩
  · refine (Tryz.slices_Contains_string b off L.length c (L.map bs) (bs s) w (by simp) (by omega) (fun j hj => by simp at hj; rw [hcell j hj]; simp [hj])).mono ?_
    rintro e w' ⟨rfl, rfl⟩
    refine ⟨_, rfl, Below.refl _ _, ?_⟩
    have : (L.map bs).take L.length = L.map bs := List.take_of_length_le (by simp)
    rw [this, e0]
    exact .lit rfl
theorem hasPrefix_c (s p : List UInt8) : AT 94 [str s, str p] (boo (Lib.hasPrefix s p)) := by
  refine ⟨by exact ⟨Tryz.f94, Tryz.func94, by kernel_rfl, rfl⟩, fun w Z vs hE hz _ hr => ?_⟩
  obtain ⟨_, _, rfl, h1, h2⟩ := reps2 hr
  rw [h1.lit_eq, h2.lit_eq]
  refine (Tryz.strings_HasPrefix (bs s) (bs p) w).mono ?_
  rintro e w' ⟨rfl, rfl⟩
  exact ⟨_, rfl, Below.refl _ _, .lit rfl⟩
theorem hasSuffix_c (s p : List UInt8) (hs : s.length ≤ 1099511627776) : AT 95 [str s, str p] (boo (Lib.hasSuffix s p)) := by
  refine ⟨by exact ⟨Tryz.f95, Tryz.func95, by kernel_rfl, rfl⟩, fun w Z vs hE hz _ hr => ?_⟩
  obtain ⟨_, _, rfl, h1, h2⟩ := reps2 hr
  rw [h1.lit_eq, h2.lit_eq]
  refine (Tryz.strings_HasSuffix (bs s) (bs p) w (by rw [bs_size]; omega)).mono ?_
  rintro e w' ⟨rfl, rfl⟩
  exact ⟨_, rfl, Below.refl _ _, .lit rfl⟩
theorem scontains_c (s p : List UInt8) (hs : s.length < 4294967281) : AT 96 [str s, str p] (boo (Lib.contains s p)) := by
  refine ⟨by exact ⟨Tryz.f96, Tryz.func96, by kernel_rfl, rfl⟩, fun w Z vs hE hz _ hr => ?_⟩
  obtain ⟨_, _, rfl, h1, h2⟩ := reps2 hr
  have hE : Env w := hE
  obtain ⟨m, hm⟩ := hE.mx
  rw [h1.lit_eq, h2.lit_eq]
  refine (Tryz.strings_Contains (bs s) (bs p) m w (by rw [bs_size]; exact hs) hm).mono ?_
  rintro e w' ⟨rfl, rfl⟩
  exact ⟨_, rfl, Below.refl _ _, .lit rfl⟩
theorem cutPfx_c (s p : List UInt8) : AT 82 [str s, str p] (.tup [str (Lib.trimPrefix s p), boo (Lib.hasPrefix s p)]) := by
  refine ⟨by exact ⟨Tryz.f82, Tryz.func82, by kernel_rfl, rfl⟩, fun w Z vs hE hz _ hr => ?_⟩
  obtain ⟨_, _, rfl, h1, h2⟩ := reps2 hr
  rw [h1.lit_eq, h2.lit_eq]
  refine (Tryz.strings_CutPrefix (bs s) (bs p) w).mono ?_
  rintro e w' ⟨rfl, rfl⟩
  exact ⟨_, rfl, Below.refl _ _, rept2 (.lit rfl) (.lit rfl)⟩
theorem replaceAll_c (s p q : List UInt8) (hs : s.length < 4294967281) (hp : 1 ≤ p.length) (hlen : s.length + Lib.countB (bs s) (bs p) * q.length ≤ 140737488355328) : AT 64 [str s, str p, str q] (str (Lib.replaceAll s p q)) := by
  refine ⟨by exact ⟨Tryz.f64, Tryz.func64, by kernel_rfl, rfl⟩, fun w Z vs hE hz _ hr => ?_⟩
  obtain ⟨_, _, _, rfl, h1, h2, h3⟩ := reps3 hr
  have hE : Env w := hE
  obtain ⟨m, hm⟩ := hE.mx
  rw [h1.lit_eq, h2.lit_eq, h3.lit_eq]
  refine (Tryz.strings_ReplaceAll (bs s) (bs p) (bs q) m w (by rw [bs_size]; exact hs) hm (by rw [bs_size]; exact hp) (by rw [bs_size, bs_size]; exact hlen)).mono ?_
  rintro e w' ⟨rfl, hb⟩
  exact ⟨_, rfl, hb, .lit rfl⟩
/-! slices.Sorted of slices.Values. -/
section
attribute [local go_sem] Oper.semAt_some
set_option maxRecDepth 100000 in
set_option maxHeartbeats 2000000 in
theorem collect_w (n : Nat) (hn : 4 ≤ n) (Bs o : Nat) (sv : Value) (zs : List Int) (hlen : zs.length ≤ 1000000000) (w : World) (hBs : Bs < w.heap.size) (hcc : w.cell? ⟨Bs, o, none⟩ = some sv) (hI : IntsAt w.heap.size w sv zs) :
    CallsIn Fence.wide n Tryz.prog 92 #[.func (.func 93) #[] #[.pointer (some ⟨Bs, o, none⟩)]] w fun e W' => ∃ v, e = .returned v ∧ W'.ownsRow w.heap.size 3 1 v zs.length (zs.map (Value.int .i64)) ∧ (v = .slice none 0 0 ↔ zs = []) ∧ Below w.heap.size w W' := by
  refine callsIn_of_wp Tryz.func92 rfl trivial ?_ rfl
  have h1 : 1 ≤ n := by omega
  have hf1 : Fence.wide.fn 131 := trivial
  simp only [Tryz.ntmps92, List.size_toArray, List.length_cons, List.length_nil, Nat.reduceAdd, Nat.reduceSub, Array.replicate_succ, Array.replicate_zero, List.push_toArray, List.append_toArray, List.nil_append, List.cons_append]
  gi_wp2_with (gi_at_call 131; refine (appendSeq_in Fence.wide (n - 1) trivial trivial rfl (by omega) Bs o sv zs hlen _ hBs hcc hI).mono ?_; rintro e w' ⟨v, rfl, hrow, hnil, hb⟩)
  go_ret
  exact ⟨v, rfl, hrow, hnil, hb⟩
set_option maxRecDepth 100000 in
set_option maxHeartbeats 2000000 in
theorem sorted_w (n : Nat) (hn : 5 ≤ n) (Bs o : Nat) (sv : Value) (zs : List Int) (hlen : zs.length ≤ 1000000000) (w : World) (hBs : Bs < w.heap.size) (hcc : w.cell? ⟨Bs, o, none⟩ = some sv) (hI : IntsAt w.heap.size w sv zs) :
    CallsIn Fence.wide n Tryz.prog 66 #[.func (.func 93) #[] #[.pointer (some ⟨Bs, o, none⟩)]] w fun e W' => ∃ v, e = .returned v ∧ W'.ownsRow w.heap.size 3 1 v zs.length ((zs.mergeSort (fun x y => decide (x ≤ y))).map (Value.int .i64)) ∧ Below w.heap.size w W' := by
  refine callsIn_of_wp Tryz.func66 rfl trivial ?_ rfl
  have h1 : 1 ≤ n := by omega
  have hf1 : Fence.wide.fn 92 := trivial
  have hf2 : Fence.wide.fn 61 := trivial
  simp only [Tryz.ntmps66, List.size_toArray, List.length_cons, List.length_nil, Nat.reduceAdd, Nat.reduceSub, Array.replicate_succ, Array.replicate_zero, List.push_toArray, List.append_toArray, List.nil_append, List.cons_append]
  gi_wp2_with (gi_at_call 92; refine (collect_w (n - 1) (by omega) Bs o sv zs hlen _ hBs hcc hI).mono ?_; rintro e W ⟨v, rfl, hrow, hnil, hb⟩)
  rcases hrow.2 with ⟨rfl, hz⟩ | ⟨gb, cap, cur, rfl, hbase, hgb, r1, r2, r3, r4⟩
  · have hss : zs = [] := List.eq_nil_of_length_eq_zero hz
    subst hss
    gi_wp2_with (gi_at_call 61; refine (callsIn_wide.2 (Tryz.slices_Sort_int_none none 0 W)).mono ?_; rintro e w' ⟨rfl, rfl⟩)
    go_ret
    exact ⟨_, rfl, by simpa using hrow, hb⟩
  · have hH := holds_of_blockI hgb (by simpa using r4)
    have hgl : gb < W.heap.size := (Array.getElem?_eq_some_iff.1 hgb).1
    have hsz : zs.length < 4611686018427387904 := by omega
    gi_wp2_with (gi_at_call 61; refine (callsIn_wide.2 (Tryz.slices_Sort_int gb 0 cap zs W hH hgl hsz)).mono ?_; rintro e w' ⟨rfl, nn, os, rfl⟩)
    go_ret
    exact ⟨_, rfl, ownsRow_sortedI (by simp) hbase hgb r1 r2 r3, hb.grown (grownBy_sortedI _) hb.size (fun j hj => by cases hj; exact hbase)⟩
end
abbrev sortI (l : List Int) : List Int := l.mergeSort (fun x y => decide (x ≤ y))
set_option maxRecDepth 100000 in
theorem sorted_c (l : List Int) (hl : l.length ≤ 1000000000) : AT 66 [.fn (.func 93) [] [.ptr [ints l]]] (ints (sortI l)) := by
  refine ⟨by exact ⟨Tryz.f66, Tryz.func66, by kernel_rfl, rfl⟩, fun w Z vs hE hz _ hr => ?_⟩
  obtain ⟨_, rfl, h1⟩ := reps1 hr
  obtain ⟨p, rfl, h2⟩ := rep_fn1 h1
  obtain ⟨b, o, v0, rfl, hc, h3⟩ := rep_ptr1 h2
  have hI : IntsAt w.heap.size w v0 l := by
    rcases rep_row1 (fun x : Int => Value.int .i64 x) h3 with ⟨rfl, A, c, e⟩ | ⟨b', off, c, e, hb, hc', hcell⟩
    · exact .inl ⟨A, c, e, rfl⟩
    · exact .inr ⟨b', off, c, e, hb, fun j hj => by rw [hcell j hj]; simp [hj]⟩
  refine (callsIn_wide.1 (sorted_w 5 (by omega) b o v0 l hl w (World.block_lt_of_cell? w _ hc) hc hI)).mono ?_
  rintro e w' ⟨v, rfl, hrow, hb⟩
  refine ⟨v, rfl, hb, ?_⟩
  have hlen : (sortI l).length = l.length := by simp
  rw [← hlen] at hrow
  exact owns_rep (fun x : Int => Value.int .i64 x) (fun _ => rfl) (sortI l) hrow (fun b o h1 h2 => .inr ⟨h1, h2⟩)
theorem values_c (l : List Int) : AT 67 [ints l] (.fn (.func 93) [] [.ptr [ints l]]) := by
  refine ACalls.of ⟨3, [(1, 1)], []⟩ (fn := Tryz.f67) Tryz.func67 rfl rfl rfl (by kernel_rfl) (by kernel_rfl) (Nat.le_of_ble_eq_true rfl) ?_
  simp (maxSteps := 1000000) -implicitDefEqProofs only [go_sem, awp_seq, Nat.reduceBNe, Nat.reduceBEq, Nat.reduceAdd, Nat.reduceSub, Nat.reduceMul, Nat.reduceLeDiff, Nat.reduceLT, Nat.reduceEqDiff, Nat.reduceBneDiff, Int.reduceLE, Int.reduceLT, Int.reduceToNat, Int.reduceBEq, Int.reduceBNe, Int.reduceAdd, Int.reduceSub, Int.cast_ofNat_Int]
end Go.Proofs.YtkmicjpoekbhfaaGreatDoor

/- Chapter 40: items: numbers, printable texts, rising numbers. INTS -/
set_option linter.unusedSimpArgs false
set_option linter.unusedVariables false
namespace Go.Proofs.YtkmicjpoekbhfaaGreatDoor
open Go.RowKit Lim

/-- An item. -/
structure ItV where
  id : Int
  ver : Int
  kind : Int
  stem : List UInt8
  opts : List (List UInt8)
  key : List Int
  val : Int
  tol : Int
  texts : List (List UInt8)
  pts : Int
  content : List UInt8
  fam : Int
  set : Int
  words : Int
  secs : Int
  assets : List Int
  rubric : Int
abbrev itC (it : ItV) : List AV := [i64 it.id, i64 it.ver, i64 it.kind, str it.stem, strs it.opts, ints it.key, i64 it.val, i64 it.tol, strs it.texts, i64 it.pts, str it.content, i64 it.fam, i64 it.set, i64 it.words, i64 it.secs, ints it.assets, i64 it.rubric]
abbrev itA (it : ItV) : AV := .agg (itC it)
def inI (z : Int) : Prop := -9223372036854775808 ≤ z ∧ z ≤ 9223372036854775807
/-- No longer than an argument can be. -/
structure IOK (it : ItV) : Prop where
  stem : it.stem.length ≤ 2000000
  opts : it.opts.length ≤ 2000000
  optl : ∀ o ∈ it.opts, o.length ≤ 2000000
  key : it.key.length ≤ 2000000
  keyi : ∀ z ∈ it.key, inI z
  texts : it.texts.length ≤ 2000000
  textl : ∀ o ∈ it.texts, o.length ≤ 2000000
  content : it.content.length ≤ 2000000
  assets : it.assets.length ≤ 2000000
  pts : inI it.pts
  val : inI it.val
  tol : inI it.tol
def withinB (n lo hi : Int) : Bool := decide (lo ≤ n) && decide (n ≤ hi)
theorem within_c (n lo hi : Int) : AT 39 [i64 n, i64 lo, i64 hi] (boo (withinB n lo hi)) := by
  unfold withinB
  cases c1 : decide (lo ≤ n) with
  | true =>
    refine ACalls.of ⟨7, [], []⟩ (fn := Tryz.f39) Tryz.func39 rfl rfl rfl (by kernel_rfl) (by kernel_rfl) (Nat.le_of_ble_eq_true rfl) ?_
    simp (maxSteps := 1000000) -implicitDefEqProofs only [c1, go_sem, awp_seq, Nat.reduceBNe, Nat.reduceBEq, Nat.reduceAdd, Nat.reduceSub, Nat.reduceMul, Nat.reduceLeDiff, Nat.reduceLT, Nat.reduceEqDiff, Nat.reduceBneDiff, Int.reduceLE, Int.reduceLT, Int.reduceToNat, Int.reduceBEq, Int.reduceBNe, Int.reduceAdd, Int.reduceSub, Int.cast_ofNat_Int]
  | false =>
    refine ACalls.of ⟨7, [], []⟩ (fn := Tryz.f39) Tryz.func39 rfl rfl rfl (by kernel_rfl) (by kernel_rfl) (Nat.le_of_ble_eq_true rfl) ?_
    simp (maxSteps := 1000000) -implicitDefEqProofs only [c1, go_sem, awp_seq, Nat.reduceBNe, Nat.reduceBEq, Nat.reduceAdd, Nat.reduceSub, Nat.reduceMul, Nat.reduceLeDiff, Nat.reduceLT, Nat.reduceEqDiff, Nat.reduceBneDiff, Int.reduceLE, Int.reduceLT, Int.reduceToNat, Int.reduceBEq, Int.reduceBNe, Int.reduceAdd, Int.reduceSub, Int.cast_ofNat_Int]
def numsB (it : ItV) : Bool := withinB it.id 1 9999999 && withinB it.ver 1 50 && withinB it.pts 1 5 && withinB it.words 0 2000 && withinB it.secs 1 2000 && withinB it.fam 0 9999999 && withinB it.set 0 9999999 && withinB it.rubric 0 9999999
set_option maxHeartbeats 4000000 in
theorem validNumbers_c (it : ItV) : AT 38 [itA it] (boo (numsB it)) := by
  have W1 := within_c it.id 1 9999999
  have W2 := within_c it.ver 1 50
  have W3 := within_c it.pts 1 5
  have W4 := within_c it.words 0 2000
  have W5 := within_c it.secs 1 2000
  have W6 := within_c it.fam 0 9999999
  have W7 := within_c it.set 0 9999999
  have W8 := within_c it.rubric 0 9999999
  unfold numsB
  generalize withinB it.id 1 9999999 = b1 at *
  generalize withinB it.ver 1 50 = b2 at *
  generalize withinB it.pts 1 5 = b3 at *
  generalize withinB it.words 0 2000 = b4 at *
  generalize withinB it.secs 1 2000 = b5 at *
  generalize withinB it.fam 0 9999999 = b6 at *
  generalize withinB it.set 0 9999999 = b7 at *
  generalize withinB it.rubric 0 9999999 = b8 at *
  refine ACalls.of ⟨3, [], []⟩ (fn := Tryz.f38) Tryz.func38 rfl rfl rfl (by kernel_rfl) (by kernel_rfl) (Nat.le_of_ble_eq_true rfl) ?_
  simp (maxSteps := 1000000) -implicitDefEqProofs only [go_sem, awp_seq, Nat.reduceBNe, Nat.reduceBEq, Nat.reduceAdd, Nat.reduceSub, Nat.reduceMul, Nat.reduceLeDiff, Nat.reduceLT, Nat.reduceEqDiff, Nat.reduceBneDiff, Int.reduceLE, Int.reduceLT, Int.reduceToNat, Int.reduceBEq, Int.reduceBNe, Int.reduceAdd, Int.reduceSub, Int.cast_ofNat_Int]
  refine callA_tt W1 ?_
  cases b1 with
  | false => simp (maxSteps := 1000000) -implicitDefEqProofs only [Bool.false_and, go_sem, awp_seq, Nat.reduceBNe, Nat.reduceBEq, Nat.reduceAdd, Nat.reduceSub, Nat.reduceMul, Nat.reduceLeDiff, Nat.reduceLT, Nat.reduceEqDiff, Nat.reduceBneDiff, Int.reduceLE, Int.reduceLT, Int.reduceToNat, Int.reduceBEq, Int.reduceBNe, Int.reduceAdd, Int.reduceSub, Int.cast_ofNat_Int]
  | true =>
  simp (maxSteps := 1000000) -implicitDefEqProofs only [Bool.true_and, go_sem, awp_seq, Nat.reduceBNe, Nat.reduceBEq, Nat.reduceAdd, Nat.reduceSub, Nat.reduceMul, Nat.reduceLeDiff, Nat.reduceLT, Nat.reduceEqDiff, Nat.reduceBneDiff, Int.reduceLE, Int.reduceLT, Int.reduceToNat, Int.reduceBEq, Int.reduceBNe, Int.reduceAdd, Int.reduceSub, Int.cast_ofNat_Int]
  refine callA_tt W2 ?_
  cases b2 with
  | false => simp (maxSteps := 1000000) -implicitDefEqProofs only [Bool.false_and, go_sem, awp_seq, Nat.reduceBNe, Nat.reduceBEq, Nat.reduceAdd, Nat.reduceSub, Nat.reduceMul, Nat.reduceLeDiff, Nat.reduceLT, Nat.reduceEqDiff, Nat.reduceBneDiff, Int.reduceLE, Int.reduceLT, Int.reduceToNat, Int.reduceBEq, Int.reduceBNe, Int.reduceAdd, Int.reduceSub, Int.cast_ofNat_Int]
  | true =>
  simp (maxSteps := 1000000) -implicitDefEqProofs only [Bool.true_and, go_sem, awp_seq, Nat.reduceBNe, Nat.reduceBEq, Nat.reduceAdd, Nat.reduceSub, Nat.reduceMul, Nat.reduceLeDiff, Nat.reduceLT, Nat.reduceEqDiff, Nat.reduceBneDiff, Int.reduceLE, Int.reduceLT, Int.reduceToNat, Int.reduceBEq, Int.reduceBNe, Int.reduceAdd, Int.reduceSub, Int.cast_ofNat_Int]
  refine callA_tt W3 ?_
  cases b3 with
  | false => simp (maxSteps := 1000000) -implicitDefEqProofs only [Bool.false_and, go_sem, awp_seq, Nat.reduceBNe, Nat.reduceBEq, Nat.reduceAdd, Nat.reduceSub, Nat.reduceMul, Nat.reduceLeDiff, Nat.reduceLT, Nat.reduceEqDiff, Nat.reduceBneDiff, Int.reduceLE, Int.reduceLT, Int.reduceToNat, Int.reduceBEq, Int.reduceBNe, Int.reduceAdd, Int.reduceSub, Int.cast_ofNat_Int]
  | true =>
  simp (maxSteps := 1000000) -implicitDefEqProofs only [Bool.true_and, go_sem, awp_seq, Nat.reduceBNe, Nat.reduceBEq, Nat.reduceAdd, Nat.reduceSub, Nat.reduceMul, Nat.reduceLeDiff, Nat.reduceLT, Nat.reduceEqDiff, Nat.reduceBneDiff, Int.reduceLE, Int.reduceLT, Int.reduceToNat, Int.reduceBEq, Int.reduceBNe, Int.reduceAdd, Int.reduceSub, Int.cast_ofNat_Int]
  refine callA_tt W4 ?_
  cases b4 with
  | false => simp (maxSteps := 1000000) -implicitDefEqProofs only [Bool.false_and, go_sem, awp_seq, Nat.reduceBNe, Nat.reduceBEq, Nat.reduceAdd, Nat.reduceSub, Nat.reduceMul, Nat.reduceLeDiff, Nat.reduceLT, Nat.reduceEqDiff, Nat.reduceBneDiff, Int.reduceLE, Int.reduceLT, Int.reduceToNat, Int.reduceBEq, Int.reduceBNe, Int.reduceAdd, Int.reduceSub, Int.cast_ofNat_Int]
  | true =>
  simp (maxSteps := 1000000) -implicitDefEqProofs only [Bool.true_and, go_sem, awp_seq, Nat.reduceBNe, Nat.reduceBEq, Nat.reduceAdd, Nat.reduceSub, Nat.reduceMul, Nat.reduceLeDiff, Nat.reduceLT, Nat.reduceEqDiff, Nat.reduceBneDiff, Int.reduceLE, Int.reduceLT, Int.reduceToNat, Int.reduceBEq, Int.reduceBNe, Int.reduceAdd, Int.reduceSub, Int.cast_ofNat_Int]
  refine callA_tt W5 ?_
  cases b5 with
  | false => simp (maxSteps := 1000000) -implicitDefEqProofs only [Bool.false_and, go_sem, awp_seq, Nat.reduceBNe, Nat.reduceBEq, Nat.reduceAdd, Nat.reduceSub, Nat.reduceMul, Nat.reduceLeDiff, Nat.reduceLT, Nat.reduceEqDiff, Nat.reduceBneDiff, Int.reduceLE, Int.reduceLT, Int.reduceToNat, Int.reduceBEq, Int.reduceBNe, Int.reduceAdd, Int.reduceSub, Int.cast_ofNat_Int]
  | true =>
  simp (maxSteps := 1000000) -implicitDefEqProofs only [Bool.true_and, go_sem, awp_seq, Nat.reduceBNe, Nat.reduceBEq, Nat.reduceAdd, Nat.reduceSub, Nat.reduceMul, Nat.reduceLeDiff, Nat.reduceLT, Nat.reduceEqDiff, Nat.reduceBneDiff, Int.reduceLE, Int.reduceLT, Int.reduceToNat, Int.reduceBEq, Int.reduceBNe, Int.reduceAdd, Int.reduceSub, Int.cast_ofNat_Int]
  refine callA_tt W6 ?_
  cases b6 with
  | false => simp (maxSteps := 1000000) -implicitDefEqProofs only [Bool.false_and, go_sem, awp_seq, Nat.reduceBNe, Nat.reduceBEq, Nat.reduceAdd, Nat.reduceSub, Nat.reduceMul, Nat.reduceLeDiff, Nat.reduceLT, Nat.reduceEqDiff, Nat.reduceBneDiff, Int.reduceLE, Int.reduceLT, Int.reduceToNat, Int.reduceBEq, Int.reduceBNe, Int.reduceAdd, Int.reduceSub, Int.cast_ofNat_Int]
  | true =>
  simp (maxSteps := 1000000) -implicitDefEqProofs only [Bool.true_and, go_sem, awp_seq, Nat.reduceBNe, Nat.reduceBEq, Nat.reduceAdd, Nat.reduceSub, Nat.reduceMul, Nat.reduceLeDiff, Nat.reduceLT, Nat.reduceEqDiff, Nat.reduceBneDiff, Int.reduceLE, Int.reduceLT, Int.reduceToNat, Int.reduceBEq, Int.reduceBNe, Int.reduceAdd, Int.reduceSub, Int.cast_ofNat_Int]
  refine callA_tt W7 ?_
  cases b7 with
  | false => simp (maxSteps := 1000000) -implicitDefEqProofs only [Bool.false_and, go_sem, awp_seq, Nat.reduceBNe, Nat.reduceBEq, Nat.reduceAdd, Nat.reduceSub, Nat.reduceMul, Nat.reduceLeDiff, Nat.reduceLT, Nat.reduceEqDiff, Nat.reduceBneDiff, Int.reduceLE, Int.reduceLT, Int.reduceToNat, Int.reduceBEq, Int.reduceBNe, Int.reduceAdd, Int.reduceSub, Int.cast_ofNat_Int]
  | true =>
  simp (maxSteps := 1000000) -implicitDefEqProofs only [Bool.true_and, go_sem, awp_seq, Nat.reduceBNe, Nat.reduceBEq, Nat.reduceAdd, Nat.reduceSub, Nat.reduceMul, Nat.reduceLeDiff, Nat.reduceLT, Nat.reduceEqDiff, Nat.reduceBneDiff, Int.reduceLE, Int.reduceLT, Int.reduceToNat, Int.reduceBEq, Int.reduceBNe, Int.reduceAdd, Int.reduceSub, Int.cast_ofNat_Int]
  refine callA_tt W8 ?_
  simp (maxSteps := 1000000) -implicitDefEqProofs only [Bool.true_and, go_sem, awp_seq, Nat.reduceBNe, Nat.reduceBEq, Nat.reduceAdd, Nat.reduceSub, Nat.reduceMul, Nat.reduceLeDiff, Nat.reduceLT, Nat.reduceEqDiff, Nat.reduceBneDiff, Int.reduceLE, Int.reduceLT, Int.reduceToNat, Int.reduceBEq, Int.reduceBNe, Int.reduceAdd, Int.reduceSub, Int.cast_ofNat_Int]
/-- A printable byte. -/
def pchar (c : UInt8) : Bool := !decide ((c.toNat : Int) < 32) && !decide ((126 : Int) < c.toNat)
def prB (s : List UInt8) (most : Int) : Bool := s.all pchar && (decide ((1 : Int) ≤ (s.length : Nat)) && decide (((s.length : Nat) : Int) ≤ most))
theorem printable_c (s : List UInt8) (most : Int) (hs : s.length < 4611686018427387904) : AT 63 [str s, i64 most] (boo (prB s most)) := by
  have bad : ∀ k (hk : k < s.length), pchar s[k] = false → prB s most = false := fun k hk hb => by
    have : s.all pchar = false := by
      rw [List.all_eq_false]
      exact ⟨s[k], List.getElem_mem hk, by simp [hb]⟩
    simp [prB, this]
  refine ACalls.of ⟨6, [], []⟩ (fn := Tryz.f63) Tryz.func63 rfl rfl rfl (by kernel_rfl) (by kernel_rfl) (Nat.le_of_ble_eq_true rfl) ?_
  simp (maxSteps := 1000000) -implicitDefEqProofs only [go_sem, awp_seq, Nat.reduceBNe, Nat.reduceBEq, Nat.reduceAdd, Nat.reduceSub, Nat.reduceMul, Nat.reduceLeDiff, Nat.reduceLT, Nat.reduceEqDiff, Nat.reduceBneDiff, Int.reduceLE, Int.reduceLT, Int.reduceToNat, Int.reduceBEq, Int.reduceBNe, Int.reduceAdd, Int.reduceSub, Int.cast_ofNat_Int]
  refine loop_mk (α := {k : Nat // k ≤ s.length ∧ ∀ i (hi : i < s.length), i < k → pchar s[i] = true}) (fun k => [(0, some (.av (str s))), (1, some (.av (i64 most))), (4, some (.av (boo false))), (5, some (.av (i64 (k.1 : Nat))))]) (fun _ => []) (fun _ => []) (fun k => s.length - k.1) ⟨0, Nat.zero_le _, fun i _ hi => by omega⟩ ?_ ?_
  · simp (maxSteps := 1000000) -implicitDefEqProofs only [go_sem, awp_seq, Nat.reduceBNe, Nat.reduceBEq, Nat.reduceAdd, Nat.reduceSub, Nat.reduceMul, Nat.reduceLeDiff, Nat.reduceLT, Nat.reduceEqDiff, Nat.reduceBneDiff, Int.reduceLE, Int.reduceLT, Int.reduceToNat, Int.reduceBEq, Int.reduceBNe, Int.reduceAdd, Int.reduceSub, Int.cast_ofNat_Int]
  · rintro ⟨k, hk, hall⟩
    by_cases hlt : k < s.length
    · have g1 : decide (((k : Nat) : Int) < (s.length : Nat)) = true := by simp; omega
      have e1 : s[k]? = some s[k] := List.getElem?_eq_getElem hlt
      have w1 : IntKind.i64.wrap ((k : Int) + 1) = ((k + 1 : Nat) : Int) := by rw [IntWalk.i64_in _ (by omega)]; omega
      have b0 := bad k hlt
      have ok1 : pchar s[k] = true → ∀ i (hi : i < s.length), i < k + 1 → pchar s[i] = true := fun h i hi hik => by
        by_cases he : i = k
        · subst he; exact h
        · exact hall i hi (by omega)
      generalize s[k] = b at *
      cases c1 : decide ((b.toNat : Int) < 32) <;> cases c2 : decide ((126 : Int) < b.toNat)
      · simp (maxSteps := 1000000) -implicitDefEqProofs only [bs_size, strK_bs, g1, e1, c1, c2, w1, Int.toNat_natCast, Int.natCast_nonneg, go_sem, awp_seq, Nat.reduceBNe, Nat.reduceBEq, Nat.reduceAdd, Nat.reduceSub, Nat.reduceMul, Nat.reduceLeDiff, Nat.reduceLT, Nat.reduceEqDiff, Nat.reduceBneDiff, Int.reduceLE, Int.reduceLT, Int.reduceToNat, Int.reduceBEq, Int.reduceBNe, Int.reduceAdd, Int.reduceSub, Int.cast_ofNat_Int]
        refine roundK_mk ⟨k + 1, by omega, ok1 (by simp [pchar, c1, c2])⟩ ?_ (by show s.length - (k + 1) < s.length - k; omega)
        simp (maxSteps := 1000000) -implicitDefEqProofs only [go_sem, awp_seq, Nat.reduceBNe, Nat.reduceBEq, Nat.reduceAdd, Nat.reduceSub, Nat.reduceMul, Nat.reduceLeDiff, Nat.reduceLT, Nat.reduceEqDiff, Nat.reduceBneDiff, Int.reduceLE, Int.reduceLT, Int.reduceToNat, Int.reduceBEq, Int.reduceBNe, Int.reduceAdd, Int.reduceSub, Int.cast_ofNat_Int]
      all_goals
        have e := b0 (by simp [pchar, c1, c2])
        simp (maxSteps := 1000000) -implicitDefEqProofs only [bs_size, strK_bs, g1, e1, c1, c2, e, Int.toNat_natCast, Int.natCast_nonneg, go_sem, awp_seq, Nat.reduceBNe, Nat.reduceBEq, Nat.reduceAdd, Nat.reduceSub, Nat.reduceMul, Nat.reduceLeDiff, Nat.reduceLT, Nat.reduceEqDiff, Nat.reduceBneDiff, Int.reduceLE, Int.reduceLT, Int.reduceToNat, Int.reduceBEq, Int.reduceBNe, Int.reduceAdd, Int.reduceSub, Int.cast_ofNat_Int]
    · have g1 : decide (((k : Nat) : Int) < (s.length : Nat)) = false := by simp; omega
      have hA : s.all pchar = true := by
        rw [List.all_eq_true]
        intro x hx
        obtain ⟨i, hi, rfl⟩ := List.getElem_of_mem hx
        exact hall i hi (by omega)
      have e : prB s most = (decide ((1 : Int) ≤ (s.length : Nat)) && decide (((s.length : Nat) : Int) ≤ most)) := by rw [prB, hA, Bool.true_and]
      rw [e]
      cases c1 : decide ((1 : Int) ≤ (s.length : Nat)) with
      | true => simp (maxSteps := 1000000) -implicitDefEqProofs only [bs_size, g1, c1, go_sem, awp_seq, Nat.reduceBNe, Nat.reduceBEq, Nat.reduceAdd, Nat.reduceSub, Nat.reduceMul, Nat.reduceLeDiff, Nat.reduceLT, Nat.reduceEqDiff, Nat.reduceBneDiff, Int.reduceLE, Int.reduceLT, Int.reduceToNat, Int.reduceBEq, Int.reduceBNe, Int.reduceAdd, Int.reduceSub, Int.cast_ofNat_Int]
      | false => simp (maxSteps := 1000000) -implicitDefEqProofs only [bs_size, g1, c1, go_sem, awp_seq, Nat.reduceBNe, Nat.reduceBEq, Nat.reduceAdd, Nat.reduceSub, Nat.reduceMul, Nat.reduceLeDiff, Nat.reduceLT, Nat.reduceEqDiff, Nat.reduceBneDiff, Int.reduceLE, Int.reduceLT, Int.reduceToNat, Int.reduceBEq, Int.reduceBNe, Int.reduceAdd, Int.reduceSub, Int.cast_ofNat_Int]
/-- The number at i is in its range and above the one before. -/
def risAt (lo hi : Int) (l : List Int) (i : Nat) : Bool := withinB (l[i]?.getD 0) lo hi && !(decide ((0 : Int) < (i : Nat)) && decide (l[i]?.getD 0 ≤ l[i - 1]?.getD 0))
def risB (lo hi : Int) (l : List Int) : Bool := (List.range l.length).all (risAt lo hi l)
theorem risB_bad {lo hi : Int} {l : List Int} {k : Nat} (hk : k < l.length) (h : risAt lo hi l k = false) : risB lo hi l = false := by
  unfold risB
  rw [List.all_eq_false]
  exact ⟨k, List.mem_range.2 hk, by simp [h]⟩
theorem risB_ok {lo hi : Int} {l : List Int} (h : ∀ i, i < l.length → risAt lo hi l i = true) : risB lo hi l = true := by
  unfold risB
  rw [List.all_eq_true]
  exact fun i hi => h i (List.mem_range.1 hi)
theorem rising_c (l : List Int) (lo hi : Int) (hl : l.length < 4611686018427387904) : AT 43 [ints l, i64 lo, i64 hi] (boo (risB lo hi l)) := by
  have bad : ∀ k, k < l.length → risAt lo hi l k = false → risB lo hi l = false := fun k hk h => risB_bad hk h
  have good : (∀ i, i < l.length → risAt lo hi l i = true) → risB lo hi l = true := risB_ok
  generalize risB lo hi l = R at *
  refine ACalls.of ⟨12, [], []⟩ (fn := Tryz.f43) Tryz.func43 rfl rfl rfl (by kernel_rfl) (by kernel_rfl) (Nat.le_of_ble_eq_true rfl) ?_
  simp (maxSteps := 1000000) -implicitDefEqProofs only [List.length_map, go_sem, awp_seq, Nat.reduceBNe, Nat.reduceBEq, Nat.reduceAdd, Nat.reduceSub, Nat.reduceMul, Nat.reduceLeDiff, Nat.reduceLT, Nat.reduceEqDiff, Nat.reduceBneDiff, Int.reduceLE, Int.reduceLT, Int.reduceToNat, Int.reduceBEq, Int.reduceBNe, Int.reduceAdd, Int.reduceSub, Int.cast_ofNat_Int]
  refine loop_mk (α := {k : Nat // k ≤ l.length ∧ ∀ i, i < k → risAt lo hi l i = true}) (fun k => [(0, some (.av (ints l))), (1, some (.av (i64 lo))), (2, some (.av (i64 hi))), (6, some (.av (boo false))), (9, some (.av (ints l))), (10, some (.av (i64 (l.length : Nat)))), (11, some (.av (i64 (k.1 : Nat))))]) (fun _ => []) (fun _ => []) (fun k => l.length - k.1) ⟨0, Nat.zero_le _, fun i hi => by omega⟩ ?_ ?_
  · simp (maxSteps := 1000000) -implicitDefEqProofs only [List.length_map, go_sem, awp_seq, Nat.reduceBNe, Nat.reduceBEq, Nat.reduceAdd, Nat.reduceSub, Nat.reduceMul, Nat.reduceLeDiff, Nat.reduceLT, Nat.reduceEqDiff, Nat.reduceBneDiff, Int.reduceLE, Int.reduceLT, Int.reduceToNat, Int.reduceBEq, Int.reduceBNe, Int.reduceAdd, Int.reduceSub, Int.cast_ofNat_Int]
  · rintro ⟨k, hk, hall⟩
    by_cases hlt : k < l.length
    · have g1 : decide (((k : Nat) : Int) < (l.length : Nat)) = true := by simp; omega
      have e1 := ints_get l k
      have e2 : l[k]? = some l[k] := List.getElem?_eq_getElem hlt
      rw [e2] at e1
      simp only [Option.map_some] at e1
      have w1 : IntKind.i64.wrap ((k : Int) + 1) = ((k + 1 : Nat) : Int) := by rw [IntWalk.i64_in _ (by omega)]; omega
      have W := within_c l[k] lo hi
      have hr : risAt lo hi l k = (withinB l[k] lo hi && !(decide ((0 : Int) < (k : Nat)) && decide (l[k] ≤ l[k - 1]?.getD 0))) := by simp [risAt, hlt]
      have b0 := bad k hlt
      have ok1 : risAt lo hi l k = true → ∀ i, i < k + 1 → risAt lo hi l i = true := fun h i hik => by
        by_cases he : i = k
        · subst he; exact h
        · exact hall i (by omega)
      rw [hr] at b0 ok1
      generalize withinB l[k] lo hi = wb at *
      cases wb with
      | false =>
        have e := b0 rfl
        subst e
        simp (maxSteps := 1000000) -implicitDefEqProofs only [g1, e1, Int.toNat_natCast, Int.natCast_nonneg, go_sem, awp_seq, Nat.reduceBNe, Nat.reduceBEq, Nat.reduceAdd, Nat.reduceSub, Nat.reduceMul, Nat.reduceLeDiff, Nat.reduceLT, Nat.reduceEqDiff, Nat.reduceBneDiff, Int.reduceLE, Int.reduceLT, Int.reduceToNat, Int.reduceBEq, Int.reduceBNe, Int.reduceAdd, Int.reduceSub, Int.cast_ofNat_Int]
        refine callA_tt W ?_
        simp (maxSteps := 1000000) -implicitDefEqProofs only [go_sem, awp_seq, Nat.reduceBNe, Nat.reduceBEq, Nat.reduceAdd, Nat.reduceSub, Nat.reduceMul, Nat.reduceLeDiff, Nat.reduceLT, Nat.reduceEqDiff, Nat.reduceBneDiff, Int.reduceLE, Int.reduceLT, Int.reduceToNat, Int.reduceBEq, Int.reduceBNe, Int.reduceAdd, Int.reduceSub, Int.cast_ofNat_Int]
      | true =>
        cases c1 : decide ((0 : Int) < (k : Nat)) with
        | false =>
          simp (maxSteps := 1000000) -implicitDefEqProofs only [g1, e1, Int.toNat_natCast, Int.natCast_nonneg, go_sem, awp_seq, Nat.reduceBNe, Nat.reduceBEq, Nat.reduceAdd, Nat.reduceSub, Nat.reduceMul, Nat.reduceLeDiff, Nat.reduceLT, Nat.reduceEqDiff, Nat.reduceBneDiff, Int.reduceLE, Int.reduceLT, Int.reduceToNat, Int.reduceBEq, Int.reduceBNe, Int.reduceAdd, Int.reduceSub, Int.cast_ofNat_Int]
          refine callA_tt W ?_
          simp (maxSteps := 1000000) -implicitDefEqProofs only [c1, w1, go_sem, awp_seq, Nat.reduceBNe, Nat.reduceBEq, Nat.reduceAdd, Nat.reduceSub, Nat.reduceMul, Nat.reduceLeDiff, Nat.reduceLT, Nat.reduceEqDiff, Nat.reduceBneDiff, Int.reduceLE, Int.reduceLT, Int.reduceToNat, Int.reduceBEq, Int.reduceBNe, Int.reduceAdd, Int.reduceSub, Int.cast_ofNat_Int]
          refine roundK_mk ⟨k + 1, by omega, ok1 (by rw [c1]; rfl)⟩ ?_ (by show l.length - (k + 1) < l.length - k; omega)
          simp (maxSteps := 1000000) -implicitDefEqProofs only [go_sem, awp_seq, Nat.reduceBNe, Nat.reduceBEq, Nat.reduceAdd, Nat.reduceSub, Nat.reduceMul, Nat.reduceLeDiff, Nat.reduceLT, Nat.reduceEqDiff, Nat.reduceBneDiff, Int.reduceLE, Int.reduceLT, Int.reduceToNat, Int.reduceBEq, Int.reduceBNe, Int.reduceAdd, Int.reduceSub, Int.cast_ofNat_Int]
        | true =>
          have hk0 : 0 < k := by simpa using c1
          have w2 : IntKind.i64.wrap ((k : Int) - 1) = ((k - 1 : Nat) : Int) := by rw [IntWalk.i64_in _ (by omega)]; omega
          have e3 := ints_get l (k - 1)
          have e4 : l[k - 1]? = some (l[k - 1]'(by omega)) := List.getElem?_eq_getElem (by omega)
          rw [e4] at e3 b0 ok1
          simp only [Option.map_some, Option.getD_some] at e3 b0 ok1
          cases c2 : decide (l[k] ≤ l[k - 1]'(by omega)) with
          | true =>
            have e := b0 (by rw [c1, c2]; rfl)
            subst e
            simp (maxSteps := 1000000) -implicitDefEqProofs only [g1, e1, Int.toNat_natCast, Int.natCast_nonneg, go_sem, awp_seq, Nat.reduceBNe, Nat.reduceBEq, Nat.reduceAdd, Nat.reduceSub, Nat.reduceMul, Nat.reduceLeDiff, Nat.reduceLT, Nat.reduceEqDiff, Nat.reduceBneDiff, Int.reduceLE, Int.reduceLT, Int.reduceToNat, Int.reduceBEq, Int.reduceBNe, Int.reduceAdd, Int.reduceSub, Int.cast_ofNat_Int]
            refine callA_tt W ?_
            simp (maxSteps := 1000000) -implicitDefEqProofs only [c1, c2, w2, e3, Int.toNat_natCast, Int.natCast_nonneg, go_sem, awp_seq, Nat.reduceBNe, Nat.reduceBEq, Nat.reduceAdd, Nat.reduceSub, Nat.reduceMul, Nat.reduceLeDiff, Nat.reduceLT, Nat.reduceEqDiff, Nat.reduceBneDiff, Int.reduceLE, Int.reduceLT, Int.reduceToNat, Int.reduceBEq, Int.reduceBNe, Int.reduceAdd, Int.reduceSub, Int.cast_ofNat_Int]
          | false =>
            simp (maxSteps := 1000000) -implicitDefEqProofs only [g1, e1, Int.toNat_natCast, Int.natCast_nonneg, go_sem, awp_seq, Nat.reduceBNe, Nat.reduceBEq, Nat.reduceAdd, Nat.reduceSub, Nat.reduceMul, Nat.reduceLeDiff, Nat.reduceLT, Nat.reduceEqDiff, Nat.reduceBneDiff, Int.reduceLE, Int.reduceLT, Int.reduceToNat, Int.reduceBEq, Int.reduceBNe, Int.reduceAdd, Int.reduceSub, Int.cast_ofNat_Int]
            refine callA_tt W ?_
            simp (maxSteps := 1000000) -implicitDefEqProofs only [c1, c2, w1, w2, e3, Int.toNat_natCast, Int.natCast_nonneg, go_sem, awp_seq, Nat.reduceBNe, Nat.reduceBEq, Nat.reduceAdd, Nat.reduceSub, Nat.reduceMul, Nat.reduceLeDiff, Nat.reduceLT, Nat.reduceEqDiff, Nat.reduceBneDiff, Int.reduceLE, Int.reduceLT, Int.reduceToNat, Int.reduceBEq, Int.reduceBNe, Int.reduceAdd, Int.reduceSub, Int.cast_ofNat_Int]
            refine roundK_mk ⟨k + 1, by omega, ok1 (by rw [c1, c2]; rfl)⟩ ?_ (by show l.length - (k + 1) < l.length - k; omega)
            simp (maxSteps := 1000000) -implicitDefEqProofs only [go_sem, awp_seq, Nat.reduceBNe, Nat.reduceBEq, Nat.reduceAdd, Nat.reduceSub, Nat.reduceMul, Nat.reduceLeDiff, Nat.reduceLT, Nat.reduceEqDiff, Nat.reduceBneDiff, Int.reduceLE, Int.reduceLT, Int.reduceToNat, Int.reduceBEq, Int.reduceBNe, Int.reduceAdd, Int.reduceSub, Int.cast_ofNat_Int]
    · have g1 : decide (((k : Nat) : Int) < (l.length : Nat)) = false := by simp; omega
      have e := good (fun i hi => hall i (by omega))
      subst e
      simp (maxSteps := 1000000) -implicitDefEqProofs only [g1, go_sem, awp_seq, Nat.reduceBNe, Nat.reduceBEq, Nat.reduceAdd, Nat.reduceSub, Nat.reduceMul, Nat.reduceLeDiff, Nat.reduceLT, Nat.reduceEqDiff, Nat.reduceBneDiff, Int.reduceLE, Int.reduceLT, Int.reduceToNat, Int.reduceBEq, Int.reduceBNe, Int.reduceAdd, Int.reduceSub, Int.cast_ofNat_Int]
end Go.Proofs.YtkmicjpoekbhfaaGreatDoor

/- Chapter 40: normalized texts; the key of an item. INTS -/
set_option linter.unusedSimpArgs false
set_option linter.unusedVariables false
namespace Go.Proofs.YtkmicjpoekbhfaaGreatDoor
open Go.RowKit Lim

/-- A byte of a normalized text. -/
def nchar (c : UInt8) : Bool := ((c.toNat : Int) == 32) || withinB c.toNat 97 122 || withinB c.toNat 48 57
def normB (s : List UInt8) : Bool := s.all nchar && (!Lib.hasPrefix s [32] && !Lib.hasSuffix s [32] && !Lib.contains s [32, 32])
theorem wrap_byte (c : UInt8) : IntKind.i64.wrap ((c.toNat : Nat) : Int) = (c.toNat : Nat) := by
  have := c.toNat_lt
  rw [IntWalk.i64_in _ (by omega)]
set_option maxHeartbeats 1000000 in
theorem normalized_c (s : List UInt8) (hs : s.length ≤ 2000000) : AT 68 [str s] (boo (normB s)) := by
  have bad : ∀ k (hk : k < s.length), nchar s[k] = false → normB s = false := fun k hk hb => by
    have : s.all nchar = false := by
      rw [List.all_eq_false]
      exact ⟨s[k], List.getElem_mem hk, by simp [hb]⟩
    simp [normB, this]
  refine ACalls.of ⟨4, [], []⟩ (fn := Tryz.f68) Tryz.func68 rfl rfl rfl (by kernel_rfl) (by kernel_rfl) (Nat.le_of_ble_eq_true rfl) ?_
  simp (maxSteps := 1000000) -implicitDefEqProofs only [go_sem, awp_seq, Nat.reduceBNe, Nat.reduceBEq, Nat.reduceAdd, Nat.reduceSub, Nat.reduceMul, Nat.reduceLeDiff, Nat.reduceLT, Nat.reduceEqDiff, Nat.reduceBneDiff, Int.reduceLE, Int.reduceLT, Int.reduceToNat, Int.reduceBEq, Int.reduceBNe, Int.reduceAdd, Int.reduceSub, Int.cast_ofNat_Int]
  refine loop_mk (α := {k : Nat // k ≤ s.length ∧ ∀ i (hi : i < s.length), i < k → nchar s[i] = true}) (fun k => [(0, some (.av (str s))), (2, some (.av (boo false))), (3, some (.av (i64 (k.1 : Nat))))]) (fun _ => []) (fun _ => []) (fun k => s.length - k.1) ⟨0, Nat.zero_le _, fun i _ hi => by omega⟩ ?_ ?_
  · simp (maxSteps := 1000000) -implicitDefEqProofs only [go_sem, awp_seq, Nat.reduceBNe, Nat.reduceBEq, Nat.reduceAdd, Nat.reduceSub, Nat.reduceMul, Nat.reduceLeDiff, Nat.reduceLT, Nat.reduceEqDiff, Nat.reduceBneDiff, Int.reduceLE, Int.reduceLT, Int.reduceToNat, Int.reduceBEq, Int.reduceBNe, Int.reduceAdd, Int.reduceSub, Int.cast_ofNat_Int]
  · rintro ⟨k, hk, hall⟩
    by_cases hlt : k < s.length
    · have g1 : decide (((k : Nat) : Int) < (s.length : Nat)) = true := by simp; omega
      have e1 : s[k]? = some s[k] := List.getElem?_eq_getElem hlt
      have w1 : IntKind.i64.wrap ((k : Int) + 1) = ((k + 1 : Nat) : Int) := by rw [IntWalk.i64_in _ (by omega)]; omega
      have b0 := bad k hlt
      have ok1 : nchar s[k] = true → ∀ i (hi : i < s.length), i < k + 1 → nchar s[i] = true := fun h i hi hik => by
        by_cases he : i = k
        · subst he; exact h
        · exact hall i hi (by omega)
      generalize s[k] = b at *
      have W1 := within_c b.toNat 97 122
      have W2 := within_c b.toNat 48 57
      have wb := wrap_byte b
      unfold nchar at b0 ok1
      generalize withinB b.toNat 97 122 = q1 at *
      generalize withinB b.toNat 48 57 = q2 at *
      cases c1 : ((b.toNat : Int) == 32) with
      | true =>
        have c1' : ((b.toNat : Int) != 32) = false := by simp only [bne, c1, Bool.not_true]
        simp (maxSteps := 1000000) -implicitDefEqProofs only [bs_size, strK_bs, g1, e1, c1', w1, Int.toNat_natCast, Int.natCast_nonneg, go_sem, awp_seq, Nat.reduceBNe, Nat.reduceBEq, Nat.reduceAdd, Nat.reduceSub, Nat.reduceMul, Nat.reduceLeDiff, Nat.reduceLT, Nat.reduceEqDiff, Nat.reduceBneDiff, Int.reduceLE, Int.reduceLT, Int.reduceToNat, Int.reduceBEq, Int.reduceBNe, Int.reduceAdd, Int.reduceSub, Int.cast_ofNat_Int]
        refine roundK_mk ⟨k + 1, by omega, ok1 (by simp [c1])⟩ ?_ (by show s.length - (k + 1) < s.length - k; omega)
        simp (maxSteps := 1000000) -implicitDefEqProofs only [go_sem, awp_seq, Nat.reduceBNe, Nat.reduceBEq, Nat.reduceAdd, Nat.reduceSub, Nat.reduceMul, Nat.reduceLeDiff, Nat.reduceLT, Nat.reduceEqDiff, Nat.reduceBneDiff, Int.reduceLE, Int.reduceLT, Int.reduceToNat, Int.reduceBEq, Int.reduceBNe, Int.reduceAdd, Int.reduceSub, Int.cast_ofNat_Int]
      | false =>
        have c1' : ((b.toNat : Int) != 32) = true := by simp only [bne, c1, Bool.not_false]
        simp (maxSteps := 1000000) -implicitDefEqProofs only [bs_size, strK_bs, g1, e1, c1', w1, wb, Int.toNat_natCast, Int.natCast_nonneg, go_sem, awp_seq, Nat.reduceBNe, Nat.reduceBEq, Nat.reduceAdd, Nat.reduceSub, Nat.reduceMul, Nat.reduceLeDiff, Nat.reduceLT, Nat.reduceEqDiff, Nat.reduceBneDiff, Int.reduceLE, Int.reduceLT, Int.reduceToNat, Int.reduceBEq, Int.reduceBNe, Int.reduceAdd, Int.reduceSub, Int.cast_ofNat_Int]
        refine callA_tt W1 ?_
        cases q1 with
        | true =>
          simp (maxSteps := 1000000) -implicitDefEqProofs only [bs_size, strK_bs, e1, w1, Int.toNat_natCast, Int.natCast_nonneg, go_sem, awp_seq, Nat.reduceBNe, Nat.reduceBEq, Nat.reduceAdd, Nat.reduceSub, Nat.reduceMul, Nat.reduceLeDiff, Nat.reduceLT, Nat.reduceEqDiff, Nat.reduceBneDiff, Int.reduceLE, Int.reduceLT, Int.reduceToNat, Int.reduceBEq, Int.reduceBNe, Int.reduceAdd, Int.reduceSub, Int.cast_ofNat_Int]
          refine roundK_mk ⟨k + 1, by omega, ok1 (by simp)⟩ ?_ (by show s.length - (k + 1) < s.length - k; omega)
          simp (maxSteps := 1000000) -implicitDefEqProofs only [go_sem, awp_seq, Nat.reduceBNe, Nat.reduceBEq, Nat.reduceAdd, Nat.reduceSub, Nat.reduceMul, Nat.reduceLeDiff, Nat.reduceLT, Nat.reduceEqDiff, Nat.reduceBneDiff, Int.reduceLE, Int.reduceLT, Int.reduceToNat, Int.reduceBEq, Int.reduceBNe, Int.reduceAdd, Int.reduceSub, Int.cast_ofNat_Int]
        | false =>
          simp (maxSteps := 1000000) -implicitDefEqProofs only [bs_size, strK_bs, e1, wb, Int.toNat_natCast, Int.natCast_nonneg, go_sem, awp_seq, Nat.reduceBNe, Nat.reduceBEq, Nat.reduceAdd, Nat.reduceSub, Nat.reduceMul, Nat.reduceLeDiff, Nat.reduceLT, Nat.reduceEqDiff, Nat.reduceBneDiff, Int.reduceLE, Int.reduceLT, Int.reduceToNat, Int.reduceBEq, Int.reduceBNe, Int.reduceAdd, Int.reduceSub, Int.cast_ofNat_Int]
          refine callA_tt W2 ?_
          cases q2 with
          | true =>
            simp (maxSteps := 1000000) -implicitDefEqProofs only [bs_size, strK_bs, e1, w1, Int.toNat_natCast, Int.natCast_nonneg, go_sem, awp_seq, Nat.reduceBNe, Nat.reduceBEq, Nat.reduceAdd, Nat.reduceSub, Nat.reduceMul, Nat.reduceLeDiff, Nat.reduceLT, Nat.reduceEqDiff, Nat.reduceBneDiff, Int.reduceLE, Int.reduceLT, Int.reduceToNat, Int.reduceBEq, Int.reduceBNe, Int.reduceAdd, Int.reduceSub, Int.cast_ofNat_Int]
            refine roundK_mk ⟨k + 1, by omega, ok1 (by simp)⟩ ?_ (by show s.length - (k + 1) < s.length - k; omega)
            simp (maxSteps := 1000000) -implicitDefEqProofs only [go_sem, awp_seq, Nat.reduceBNe, Nat.reduceBEq, Nat.reduceAdd, Nat.reduceSub, Nat.reduceMul, Nat.reduceLeDiff, Nat.reduceLT, Nat.reduceEqDiff, Nat.reduceBneDiff, Int.reduceLE, Int.reduceLT, Int.reduceToNat, Int.reduceBEq, Int.reduceBNe, Int.reduceAdd, Int.reduceSub, Int.cast_ofNat_Int]
          | false =>
            have e := b0 (by simp [c1])
            simp (maxSteps := 1000000) -implicitDefEqProofs only [bs_size, strK_bs, e1, e, Int.toNat_natCast, Int.natCast_nonneg, go_sem, awp_seq, Nat.reduceBNe, Nat.reduceBEq, Nat.reduceAdd, Nat.reduceSub, Nat.reduceMul, Nat.reduceLeDiff, Nat.reduceLT, Nat.reduceEqDiff, Nat.reduceBneDiff, Int.reduceLE, Int.reduceLT, Int.reduceToNat, Int.reduceBEq, Int.reduceBNe, Int.reduceAdd, Int.reduceSub, Int.cast_ofNat_Int]
    · have g1 : decide (((k : Nat) : Int) < (s.length : Nat)) = false := by simp; omega
      have hA : s.all nchar = true := by
        rw [List.all_eq_true]
        intro x hx
        obtain ⟨i, hi, rfl⟩ := List.getElem_of_mem hx
        exact hall i hi (by omega)
      have e : normB s = (!Lib.hasPrefix s [32] && !Lib.hasSuffix s [32] && !Lib.contains s [32, 32]) := by rw [normB, hA, Bool.true_and]
      rw [e]
      have P1 := hasPrefix_c s [32]
      have P2 := hasSuffix_c s [32] (by omega)
      have P3 := scontains_c s [32, 32] (by omega)
      generalize Lib.hasPrefix s [32] = q1 at *
      generalize Lib.hasSuffix s [32] = q2 at *
      generalize Lib.contains s [32, 32] = q3 at *
      simp (maxSteps := 1000000) -implicitDefEqProofs only [bs_size, g1, go_sem, awp_seq, Nat.reduceBNe, Nat.reduceBEq, Nat.reduceAdd, Nat.reduceSub, Nat.reduceMul, Nat.reduceLeDiff, Nat.reduceLT, Nat.reduceEqDiff, Nat.reduceBneDiff, Int.reduceLE, Int.reduceLT, Int.reduceToNat, Int.reduceBEq, Int.reduceBNe, Int.reduceAdd, Int.reduceSub, Int.cast_ofNat_Int]
      refine callA_tt P1 ?_
      cases q1 with
      | true => simp (maxSteps := 1000000) -implicitDefEqProofs only [go_sem, awp_seq, Nat.reduceBNe, Nat.reduceBEq, Nat.reduceAdd, Nat.reduceSub, Nat.reduceMul, Nat.reduceLeDiff, Nat.reduceLT, Nat.reduceEqDiff, Nat.reduceBneDiff, Int.reduceLE, Int.reduceLT, Int.reduceToNat, Int.reduceBEq, Int.reduceBNe, Int.reduceAdd, Int.reduceSub, Int.cast_ofNat_Int]
      | false =>
        simp (maxSteps := 1000000) -implicitDefEqProofs only [go_sem, awp_seq, Nat.reduceBNe, Nat.reduceBEq, Nat.reduceAdd, Nat.reduceSub, Nat.reduceMul, Nat.reduceLeDiff, Nat.reduceLT, Nat.reduceEqDiff, Nat.reduceBneDiff, Int.reduceLE, Int.reduceLT, Int.reduceToNat, Int.reduceBEq, Int.reduceBNe, Int.reduceAdd, Int.reduceSub, Int.cast_ofNat_Int]
        refine callA_tt P2 ?_
        cases q2 with
        | true => simp (maxSteps := 1000000) -implicitDefEqProofs only [go_sem, awp_seq, Nat.reduceBNe, Nat.reduceBEq, Nat.reduceAdd, Nat.reduceSub, Nat.reduceMul, Nat.reduceLeDiff, Nat.reduceLT, Nat.reduceEqDiff, Nat.reduceBneDiff, Int.reduceLE, Int.reduceLT, Int.reduceToNat, Int.reduceBEq, Int.reduceBNe, Int.reduceAdd, Int.reduceSub, Int.cast_ofNat_Int]
        | false =>
          simp (maxSteps := 1000000) -implicitDefEqProofs only [go_sem, awp_seq, Nat.reduceBNe, Nat.reduceBEq, Nat.reduceAdd, Nat.reduceSub, Nat.reduceMul, Nat.reduceLeDiff, Nat.reduceLT, Nat.reduceEqDiff, Nat.reduceBneDiff, Int.reduceLE, Int.reduceLT, Int.reduceToNat, Int.reduceBEq, Int.reduceBNe, Int.reduceAdd, Int.reduceSub, Int.cast_ofNat_Int]
          refine callA_tt P3 ?_
          simp (maxSteps := 1000000) -implicitDefEqProofs only [go_sem, awp_seq, Nat.reduceBNe, Nat.reduceBEq, Nat.reduceAdd, Nat.reduceSub, Nat.reduceMul, Nat.reduceLeDiff, Nat.reduceLT, Nat.reduceEqDiff, Nat.reduceBneDiff, Int.reduceLE, Int.reduceLT, Int.reduceToNat, Int.reduceBEq, Int.reduceBNe, Int.reduceAdd, Int.reduceSub, Int.cast_ofNat_Int]
/-- The fields of the key that the kind does not use are empty. -/
def onlyB (it : ItV) : Bool :=
  !(decide ((3 : Int) < it.kind) && (decide ((0 : Int) < (it.opts.length : Nat)) || decide ((0 : Int) < (it.key.length : Nat)))) && !((it.kind != 4) && ((it.val != 0) || (it.tol != 0))) &&
    (((it.kind == 5) || (((it.texts.length : Nat) : Int) == 0)) && ((it.kind == 6) || (it.rubric == 0)))
set_option maxHeartbeats 2000000 in
theorem onlyKey_c (it : ItV) : AT 41 [itA it] (boo (onlyB it)) := by
  unfold onlyB
  refine ACalls.of ⟨3, [], []⟩ (fn := Tryz.f41) Tryz.func41 rfl rfl rfl (by kernel_rfl) (by kernel_rfl) (Nat.le_of_ble_eq_true rfl) ?_
  simp (maxSteps := 1000000) -implicitDefEqProofs only [List.length_map, go_sem, awp_seq, Nat.reduceBNe, Nat.reduceBEq, Nat.reduceAdd, Nat.reduceSub, Nat.reduceMul, Nat.reduceLeDiff, Nat.reduceLT, Nat.reduceEqDiff, Nat.reduceBneDiff, Int.reduceLE, Int.reduceLT, Int.reduceToNat, Int.reduceBEq, Int.reduceBNe, Int.reduceAdd, Int.reduceSub, Int.cast_ofNat_Int]
  cases c1 : decide ((3 : Int) < it.kind) with
  | true =>
    cases c2 : decide ((0 : Int) < (it.opts.length : Nat)) with
    | true =>
      simp (maxSteps := 1000000) -implicitDefEqProofs only [List.length_map, Bool.not_true, Bool.not_false, Bool.or_true, Bool.true_or, Bool.or_false, Bool.false_or, Bool.and_true, Bool.true_and, Bool.false_and, Bool.and_false, c1, c2, go_sem, awp_seq, Nat.reduceBNe, Nat.reduceBEq, Nat.reduceAdd, Nat.reduceSub, Nat.reduceMul, Nat.reduceLeDiff, Nat.reduceLT, Nat.reduceEqDiff, Nat.reduceBneDiff, Int.reduceLE, Int.reduceLT, Int.reduceToNat, Int.reduceBEq, Int.reduceBNe, Int.reduceAdd, Int.reduceSub, Int.cast_ofNat_Int]
    | false =>
      cases c3 : decide ((0 : Int) < (it.key.length : Nat)) with
      | true =>
        simp (maxSteps := 1000000) -implicitDefEqProofs only [List.length_map, Bool.not_true, Bool.not_false, Bool.or_true, Bool.true_or, Bool.or_false, Bool.false_or, Bool.and_true, Bool.true_and, Bool.false_and, Bool.and_false, c1, c2, c3, go_sem, awp_seq, Nat.reduceBNe, Nat.reduceBEq, Nat.reduceAdd, Nat.reduceSub, Nat.reduceMul, Nat.reduceLeDiff, Nat.reduceLT, Nat.reduceEqDiff, Nat.reduceBneDiff, Int.reduceLE, Int.reduceLT, Int.reduceToNat, Int.reduceBEq, Int.reduceBNe, Int.reduceAdd, Int.reduceSub, Int.cast_ofNat_Int]
      | false =>
        simp (maxSteps := 1000000) -implicitDefEqProofs only [List.length_map, Bool.not_true, Bool.not_false, Bool.or_true, Bool.true_or, Bool.or_false, Bool.false_or, Bool.and_true, Bool.true_and, Bool.false_and, Bool.and_false, c1, c2, c3, go_sem, awp_seq, Nat.reduceBNe, Nat.reduceBEq, Nat.reduceAdd, Nat.reduceSub, Nat.reduceMul, Nat.reduceLeDiff, Nat.reduceLT, Nat.reduceEqDiff, Nat.reduceBneDiff, Int.reduceLE, Int.reduceLT, Int.reduceToNat, Int.reduceBEq, Int.reduceBNe, Int.reduceAdd, Int.reduceSub, Int.cast_ofNat_Int]
        cases c4 : it.kind != 4 with
        | true =>
          cases c5 : it.val != 0 with
          | true =>
            simp (maxSteps := 1000000) -implicitDefEqProofs only [List.length_map, Bool.not_true, Bool.not_false, Bool.or_true, Bool.true_or, Bool.or_false, Bool.false_or, Bool.and_true, Bool.true_and, Bool.false_and, Bool.and_false, c1, c2, c3, c4, c5, go_sem, awp_seq, Nat.reduceBNe, Nat.reduceBEq, Nat.reduceAdd, Nat.reduceSub, Nat.reduceMul, Nat.reduceLeDiff, Nat.reduceLT, Nat.reduceEqDiff, Nat.reduceBneDiff, Int.reduceLE, Int.reduceLT, Int.reduceToNat, Int.reduceBEq, Int.reduceBNe, Int.reduceAdd, Int.reduceSub, Int.cast_ofNat_Int]
          | false =>
            cases c6 : it.tol != 0 with
            | true =>
              simp (maxSteps := 1000000) -implicitDefEqProofs only [List.length_map, Bool.not_true, Bool.not_false, Bool.or_true, Bool.true_or, Bool.or_false, Bool.false_or, Bool.and_true, Bool.true_and, Bool.false_and, Bool.and_false, c1, c2, c3, c4, c5, c6, go_sem, awp_seq, Nat.reduceBNe, Nat.reduceBEq, Nat.reduceAdd, Nat.reduceSub, Nat.reduceMul, Nat.reduceLeDiff, Nat.reduceLT, Nat.reduceEqDiff, Nat.reduceBneDiff, Int.reduceLE, Int.reduceLT, Int.reduceToNat, Int.reduceBEq, Int.reduceBNe, Int.reduceAdd, Int.reduceSub, Int.cast_ofNat_Int]
            | false =>
              simp (maxSteps := 1000000) -implicitDefEqProofs only [List.length_map, Bool.not_true, Bool.not_false, Bool.or_true, Bool.true_or, Bool.or_false, Bool.false_or, Bool.and_true, Bool.true_and, Bool.false_and, Bool.and_false, c1, c2, c3, c4, c5, c6, go_sem, awp_seq, Nat.reduceBNe, Nat.reduceBEq, Nat.reduceAdd, Nat.reduceSub, Nat.reduceMul, Nat.reduceLeDiff, Nat.reduceLT, Nat.reduceEqDiff, Nat.reduceBneDiff, Int.reduceLE, Int.reduceLT, Int.reduceToNat, Int.reduceBEq, Int.reduceBNe, Int.reduceAdd, Int.reduceSub, Int.cast_ofNat_Int]
              cases c7 : it.kind == 5 with
              | true =>
                cases c9 : it.kind == 6 with
                | true =>
                  simp (maxSteps := 1000000) -implicitDefEqProofs only [List.length_map, Bool.not_true, Bool.not_false, Bool.or_true, Bool.true_or, Bool.or_false, Bool.false_or, Bool.and_true, Bool.true_and, Bool.false_and, Bool.and_false, c1, c2, c3, c4, c5, c6, c7, c9, go_sem, awp_seq, Nat.reduceBNe, Nat.reduceBEq, Nat.reduceAdd, Nat.reduceSub, Nat.reduceMul, Nat.reduceLeDiff, Nat.reduceLT, Nat.reduceEqDiff, Nat.reduceBneDiff, Int.reduceLE, Int.reduceLT, Int.reduceToNat, Int.reduceBEq, Int.reduceBNe, Int.reduceAdd, Int.reduceSub, Int.cast_ofNat_Int]
                | false =>
                  cases c10 : it.rubric == 0 with
                  | true =>
                    simp (maxSteps := 1000000) -implicitDefEqProofs only [List.length_map, Bool.not_true, Bool.not_false, Bool.or_true, Bool.true_or, Bool.or_false, Bool.false_or, Bool.and_true, Bool.true_and, Bool.false_and, Bool.and_false, c1, c2, c3, c4, c5, c6, c7, c9, c10, go_sem, awp_seq, Nat.reduceBNe, Nat.reduceBEq, Nat.reduceAdd, Nat.reduceSub, Nat.reduceMul, Nat.reduceLeDiff, Nat.reduceLT, Nat.reduceEqDiff, Nat.reduceBneDiff, Int.reduceLE, Int.reduceLT, Int.reduceToNat, Int.reduceBEq, Int.reduceBNe, Int.reduceAdd, Int.reduceSub, Int.cast_ofNat_Int]
                  | false =>
                    simp (maxSteps := 1000000) -implicitDefEqProofs only [List.length_map, Bool.not_true, Bool.not_false, Bool.or_true, Bool.true_or, Bool.or_false, Bool.false_or, Bool.and_true, Bool.true_and, Bool.false_and, Bool.and_false, c1, c2, c3, c4, c5, c6, c7, c9, c10, go_sem, awp_seq, Nat.reduceBNe, Nat.reduceBEq, Nat.reduceAdd, Nat.reduceSub, Nat.reduceMul, Nat.reduceLeDiff, Nat.reduceLT, Nat.reduceEqDiff, Nat.reduceBneDiff, Int.reduceLE, Int.reduceLT, Int.reduceToNat, Int.reduceBEq, Int.reduceBNe, Int.reduceAdd, Int.reduceSub, Int.cast_ofNat_Int]
              | false =>
                cases c8 : ((it.texts.length : Nat) : Int) == 0 with
                | true =>
                  cases c9 : it.kind == 6 with
                  | true =>
                    simp (maxSteps := 1000000) -implicitDefEqProofs only [List.length_map, Bool.not_true, Bool.not_false, Bool.or_true, Bool.true_or, Bool.or_false, Bool.false_or, Bool.and_true, Bool.true_and, Bool.false_and, Bool.and_false, c1, c2, c3, c4, c5, c6, c7, c8, c9, go_sem, awp_seq, Nat.reduceBNe, Nat.reduceBEq, Nat.reduceAdd, Nat.reduceSub, Nat.reduceMul, Nat.reduceLeDiff, Nat.reduceLT, Nat.reduceEqDiff, Nat.reduceBneDiff, Int.reduceLE, Int.reduceLT, Int.reduceToNat, Int.reduceBEq, Int.reduceBNe, Int.reduceAdd, Int.reduceSub, Int.cast_ofNat_Int]
                  | false =>
                    cases c10 : it.rubric == 0 with
                    | true =>
                      simp (maxSteps := 1000000) -implicitDefEqProofs only [List.length_map, Bool.not_true, Bool.not_false, Bool.or_true, Bool.true_or, Bool.or_false, Bool.false_or, Bool.and_true, Bool.true_and, Bool.false_and, Bool.and_false, c1, c2, c3, c4, c5, c6, c7, c8, c9, c10, go_sem, awp_seq, Nat.reduceBNe, Nat.reduceBEq, Nat.reduceAdd, Nat.reduceSub, Nat.reduceMul, Nat.reduceLeDiff, Nat.reduceLT, Nat.reduceEqDiff, Nat.reduceBneDiff, Int.reduceLE, Int.reduceLT, Int.reduceToNat, Int.reduceBEq, Int.reduceBNe, Int.reduceAdd, Int.reduceSub, Int.cast_ofNat_Int]
                    | false =>
                      simp (maxSteps := 1000000) -implicitDefEqProofs only [List.length_map, Bool.not_true, Bool.not_false, Bool.or_true, Bool.true_or, Bool.or_false, Bool.false_or, Bool.and_true, Bool.true_and, Bool.false_and, Bool.and_false, c1, c2, c3, c4, c5, c6, c7, c8, c9, c10, go_sem, awp_seq, Nat.reduceBNe, Nat.reduceBEq, Nat.reduceAdd, Nat.reduceSub, Nat.reduceMul, Nat.reduceLeDiff, Nat.reduceLT, Nat.reduceEqDiff, Nat.reduceBneDiff, Int.reduceLE, Int.reduceLT, Int.reduceToNat, Int.reduceBEq, Int.reduceBNe, Int.reduceAdd, Int.reduceSub, Int.cast_ofNat_Int]
                | false =>
                  simp (maxSteps := 1000000) -implicitDefEqProofs only [List.length_map, Bool.not_true, Bool.not_false, Bool.or_true, Bool.true_or, Bool.or_false, Bool.false_or, Bool.and_true, Bool.true_and, Bool.false_and, Bool.and_false, c1, c2, c3, c4, c5, c6, c7, c8, go_sem, awp_seq, Nat.reduceBNe, Nat.reduceBEq, Nat.reduceAdd, Nat.reduceSub, Nat.reduceMul, Nat.reduceLeDiff, Nat.reduceLT, Nat.reduceEqDiff, Nat.reduceBneDiff, Int.reduceLE, Int.reduceLT, Int.reduceToNat, Int.reduceBEq, Int.reduceBNe, Int.reduceAdd, Int.reduceSub, Int.cast_ofNat_Int]
        | false =>
          simp (maxSteps := 1000000) -implicitDefEqProofs only [List.length_map, Bool.not_true, Bool.not_false, Bool.or_true, Bool.true_or, Bool.or_false, Bool.false_or, Bool.and_true, Bool.true_and, Bool.false_and, Bool.and_false, c1, c2, c3, c4, go_sem, awp_seq, Nat.reduceBNe, Nat.reduceBEq, Nat.reduceAdd, Nat.reduceSub, Nat.reduceMul, Nat.reduceLeDiff, Nat.reduceLT, Nat.reduceEqDiff, Nat.reduceBneDiff, Int.reduceLE, Int.reduceLT, Int.reduceToNat, Int.reduceBEq, Int.reduceBNe, Int.reduceAdd, Int.reduceSub, Int.cast_ofNat_Int]
          cases c7 : it.kind == 5 with
          | true =>
            cases c9 : it.kind == 6 with
            | true =>
              simp (maxSteps := 1000000) -implicitDefEqProofs only [List.length_map, Bool.not_true, Bool.not_false, Bool.or_true, Bool.true_or, Bool.or_false, Bool.false_or, Bool.and_true, Bool.true_and, Bool.false_and, Bool.and_false, c1, c2, c3, c4, c7, c9, go_sem, awp_seq, Nat.reduceBNe, Nat.reduceBEq, Nat.reduceAdd, Nat.reduceSub, Nat.reduceMul, Nat.reduceLeDiff, Nat.reduceLT, Nat.reduceEqDiff, Nat.reduceBneDiff, Int.reduceLE, Int.reduceLT, Int.reduceToNat, Int.reduceBEq, Int.reduceBNe, Int.reduceAdd, Int.reduceSub, Int.cast_ofNat_Int]
            | false =>
              cases c10 : it.rubric == 0 with
              | true =>
                simp (maxSteps := 1000000) -implicitDefEqProofs only [List.length_map, Bool.not_true, Bool.not_false, Bool.or_true, Bool.true_or, Bool.or_false, Bool.false_or, Bool.and_true, Bool.true_and, Bool.false_and, Bool.and_false, c1, c2, c3, c4, c7, c9, c10, go_sem, awp_seq, Nat.reduceBNe, Nat.reduceBEq, Nat.reduceAdd, Nat.reduceSub, Nat.reduceMul, Nat.reduceLeDiff, Nat.reduceLT, Nat.reduceEqDiff, Nat.reduceBneDiff, Int.reduceLE, Int.reduceLT, Int.reduceToNat, Int.reduceBEq, Int.reduceBNe, Int.reduceAdd, Int.reduceSub, Int.cast_ofNat_Int]
              | false =>
                simp (maxSteps := 1000000) -implicitDefEqProofs only [List.length_map, Bool.not_true, Bool.not_false, Bool.or_true, Bool.true_or, Bool.or_false, Bool.false_or, Bool.and_true, Bool.true_and, Bool.false_and, Bool.and_false, c1, c2, c3, c4, c7, c9, c10, go_sem, awp_seq, Nat.reduceBNe, Nat.reduceBEq, Nat.reduceAdd, Nat.reduceSub, Nat.reduceMul, Nat.reduceLeDiff, Nat.reduceLT, Nat.reduceEqDiff, Nat.reduceBneDiff, Int.reduceLE, Int.reduceLT, Int.reduceToNat, Int.reduceBEq, Int.reduceBNe, Int.reduceAdd, Int.reduceSub, Int.cast_ofNat_Int]
          | false =>
            cases c8 : ((it.texts.length : Nat) : Int) == 0 with
            | true =>
              cases c9 : it.kind == 6 with
              | true =>
                simp (maxSteps := 1000000) -implicitDefEqProofs only [List.length_map, Bool.not_true, Bool.not_false, Bool.or_true, Bool.true_or, Bool.or_false, Bool.false_or, Bool.and_true, Bool.true_and, Bool.false_and, Bool.and_false, c1, c2, c3, c4, c7, c8, c9, go_sem, awp_seq, Nat.reduceBNe, Nat.reduceBEq, Nat.reduceAdd, Nat.reduceSub, Nat.reduceMul, Nat.reduceLeDiff, Nat.reduceLT, Nat.reduceEqDiff, Nat.reduceBneDiff, Int.reduceLE, Int.reduceLT, Int.reduceToNat, Int.reduceBEq, Int.reduceBNe, Int.reduceAdd, Int.reduceSub, Int.cast_ofNat_Int]
              | false =>
                cases c10 : it.rubric == 0 with
                | true =>
                  simp (maxSteps := 1000000) -implicitDefEqProofs only [List.length_map, Bool.not_true, Bool.not_false, Bool.or_true, Bool.true_or, Bool.or_false, Bool.false_or, Bool.and_true, Bool.true_and, Bool.false_and, Bool.and_false, c1, c2, c3, c4, c7, c8, c9, c10, go_sem, awp_seq, Nat.reduceBNe, Nat.reduceBEq, Nat.reduceAdd, Nat.reduceSub, Nat.reduceMul, Nat.reduceLeDiff, Nat.reduceLT, Nat.reduceEqDiff, Nat.reduceBneDiff, Int.reduceLE, Int.reduceLT, Int.reduceToNat, Int.reduceBEq, Int.reduceBNe, Int.reduceAdd, Int.reduceSub, Int.cast_ofNat_Int]
                | false =>
                  simp (maxSteps := 1000000) -implicitDefEqProofs only [List.length_map, Bool.not_true, Bool.not_false, Bool.or_true, Bool.true_or, Bool.or_false, Bool.false_or, Bool.and_true, Bool.true_and, Bool.false_and, Bool.and_false, c1, c2, c3, c4, c7, c8, c9, c10, go_sem, awp_seq, Nat.reduceBNe, Nat.reduceBEq, Nat.reduceAdd, Nat.reduceSub, Nat.reduceMul, Nat.reduceLeDiff, Nat.reduceLT, Nat.reduceEqDiff, Nat.reduceBneDiff, Int.reduceLE, Int.reduceLT, Int.reduceToNat, Int.reduceBEq, Int.reduceBNe, Int.reduceAdd, Int.reduceSub, Int.cast_ofNat_Int]
            | false =>
              simp (maxSteps := 1000000) -implicitDefEqProofs only [List.length_map, Bool.not_true, Bool.not_false, Bool.or_true, Bool.true_or, Bool.or_false, Bool.false_or, Bool.and_true, Bool.true_and, Bool.false_and, Bool.and_false, c1, c2, c3, c4, c7, c8, go_sem, awp_seq, Nat.reduceBNe, Nat.reduceBEq, Nat.reduceAdd, Nat.reduceSub, Nat.reduceMul, Nat.reduceLeDiff, Nat.reduceLT, Nat.reduceEqDiff, Nat.reduceBneDiff, Int.reduceLE, Int.reduceLT, Int.reduceToNat, Int.reduceBEq, Int.reduceBNe, Int.reduceAdd, Int.reduceSub, Int.cast_ofNat_Int]
  | false =>
    simp (maxSteps := 1000000) -implicitDefEqProofs only [List.length_map, Bool.not_true, Bool.not_false, Bool.or_true, Bool.true_or, Bool.or_false, Bool.false_or, Bool.and_true, Bool.true_and, Bool.false_and, Bool.and_false, c1, go_sem, awp_seq, Nat.reduceBNe, Nat.reduceBEq, Nat.reduceAdd, Nat.reduceSub, Nat.reduceMul, Nat.reduceLeDiff, Nat.reduceLT, Nat.reduceEqDiff, Nat.reduceBneDiff, Int.reduceLE, Int.reduceLT, Int.reduceToNat, Int.reduceBEq, Int.reduceBNe, Int.reduceAdd, Int.reduceSub, Int.cast_ofNat_Int]
    cases c4 : it.kind != 4 with
    | true =>
      cases c5 : it.val != 0 with
      | true =>
        simp (maxSteps := 1000000) -implicitDefEqProofs only [List.length_map, Bool.not_true, Bool.not_false, Bool.or_true, Bool.true_or, Bool.or_false, Bool.false_or, Bool.and_true, Bool.true_and, Bool.false_and, Bool.and_false, c1, c4, c5, go_sem, awp_seq, Nat.reduceBNe, Nat.reduceBEq, Nat.reduceAdd, Nat.reduceSub, Nat.reduceMul, Nat.reduceLeDiff, Nat.reduceLT, Nat.reduceEqDiff, Nat.reduceBneDiff, Int.reduceLE, Int.reduceLT, Int.reduceToNat, Int.reduceBEq, Int.reduceBNe, Int.reduceAdd, Int.reduceSub, Int.cast_ofNat_Int]
      | false =>
        cases c6 : it.tol != 0 with
        | true =>
          simp (maxSteps := 1000000) -implicitDefEqProofs only [List.length_map, Bool.not_true, Bool.not_false, Bool.or_true, Bool.true_or, Bool.or_false, Bool.false_or, Bool.and_true, Bool.true_and, Bool.false_and, Bool.and_false, c1, c4, c5, c6, go_sem, awp_seq, Nat.reduceBNe, Nat.reduceBEq, Nat.reduceAdd, Nat.reduceSub, Nat.reduceMul, Nat.reduceLeDiff, Nat.reduceLT, Nat.reduceEqDiff, Nat.reduceBneDiff, Int.reduceLE, Int.reduceLT, Int.reduceToNat, Int.reduceBEq, Int.reduceBNe, Int.reduceAdd, Int.reduceSub, Int.cast_ofNat_Int]
        | false =>
          simp (maxSteps := 1000000) -implicitDefEqProofs only [List.length_map, Bool.not_true, Bool.not_false, Bool.or_true, Bool.true_or, Bool.or_false, Bool.false_or, Bool.and_true, Bool.true_and, Bool.false_and, Bool.and_false, c1, c4, c5, c6, go_sem, awp_seq, Nat.reduceBNe, Nat.reduceBEq, Nat.reduceAdd, Nat.reduceSub, Nat.reduceMul, Nat.reduceLeDiff, Nat.reduceLT, Nat.reduceEqDiff, Nat.reduceBneDiff, Int.reduceLE, Int.reduceLT, Int.reduceToNat, Int.reduceBEq, Int.reduceBNe, Int.reduceAdd, Int.reduceSub, Int.cast_ofNat_Int]
          cases c7 : it.kind == 5 with
          | true =>
            cases c9 : it.kind == 6 with
            | true =>
              simp (maxSteps := 1000000) -implicitDefEqProofs only [List.length_map, Bool.not_true, Bool.not_false, Bool.or_true, Bool.true_or, Bool.or_false, Bool.false_or, Bool.and_true, Bool.true_and, Bool.false_and, Bool.and_false, c1, c4, c5, c6, c7, c9, go_sem, awp_seq, Nat.reduceBNe, Nat.reduceBEq, Nat.reduceAdd, Nat.reduceSub, Nat.reduceMul, Nat.reduceLeDiff, Nat.reduceLT, Nat.reduceEqDiff, Nat.reduceBneDiff, Int.reduceLE, Int.reduceLT, Int.reduceToNat, Int.reduceBEq, Int.reduceBNe, Int.reduceAdd, Int.reduceSub, Int.cast_ofNat_Int]
            | false =>
              cases c10 : it.rubric == 0 with
              | true =>
                simp (maxSteps := 1000000) -implicitDefEqProofs only [List.length_map, Bool.not_true, Bool.not_false, Bool.or_true, Bool.true_or, Bool.or_false, Bool.false_or, Bool.and_true, Bool.true_and, Bool.false_and, Bool.and_false, c1, c4, c5, c6, c7, c9, c10, go_sem, awp_seq, Nat.reduceBNe, Nat.reduceBEq, Nat.reduceAdd, Nat.reduceSub, Nat.reduceMul, Nat.reduceLeDiff, Nat.reduceLT, Nat.reduceEqDiff, Nat.reduceBneDiff, Int.reduceLE, Int.reduceLT, Int.reduceToNat, Int.reduceBEq, Int.reduceBNe, Int.reduceAdd, Int.reduceSub, Int.cast_ofNat_Int]
              | false =>
                simp (maxSteps := 1000000) -implicitDefEqProofs only [List.length_map, Bool.not_true, Bool.not_false, Bool.or_true, Bool.true_or, Bool.or_false, Bool.false_or, Bool.and_true, Bool.true_and, Bool.false_and, Bool.and_false, c1, c4, c5, c6, c7, c9, c10, go_sem, awp_seq, Nat.reduceBNe, Nat.reduceBEq, Nat.reduceAdd, Nat.reduceSub, Nat.reduceMul, Nat.reduceLeDiff, Nat.reduceLT, Nat.reduceEqDiff, Nat.reduceBneDiff, Int.reduceLE, Int.reduceLT, Int.reduceToNat, Int.reduceBEq, Int.reduceBNe, Int.reduceAdd, Int.reduceSub, Int.cast_ofNat_Int]
          | false =>
            cases c8 : ((it.texts.length : Nat) : Int) == 0 with
            | true =>
              cases c9 : it.kind == 6 with
              | true =>
                simp (maxSteps := 1000000) -implicitDefEqProofs only [List.length_map, Bool.not_true, Bool.not_false, Bool.or_true, Bool.true_or, Bool.or_false, Bool.false_or, Bool.and_true, Bool.true_and, Bool.false_and, Bool.and_false, c1, c4, c5, c6, c7, c8, c9, go_sem, awp_seq, Nat.reduceBNe, Nat.reduceBEq, Nat.reduceAdd, Nat.reduceSub, Nat.reduceMul, Nat.reduceLeDiff, Nat.reduceLT, Nat.reduceEqDiff, Nat.reduceBneDiff, Int.reduceLE, Int.reduceLT, Int.reduceToNat, Int.reduceBEq, Int.reduceBNe, Int.reduceAdd, Int.reduceSub, Int.cast_ofNat_Int]
              | false =>
                cases c10 : it.rubric == 0 with
                | true =>
                  simp (maxSteps := 1000000) -implicitDefEqProofs only [List.length_map, Bool.not_true, Bool.not_false, Bool.or_true, Bool.true_or, Bool.or_false, Bool.false_or, Bool.and_true, Bool.true_and, Bool.false_and, Bool.and_false, c1, c4, c5, c6, c7, c8, c9, c10, go_sem, awp_seq, Nat.reduceBNe, Nat.reduceBEq, Nat.reduceAdd, Nat.reduceSub, Nat.reduceMul, Nat.reduceLeDiff, Nat.reduceLT, Nat.reduceEqDiff, Nat.reduceBneDiff, Int.reduceLE, Int.reduceLT, Int.reduceToNat, Int.reduceBEq, Int.reduceBNe, Int.reduceAdd, Int.reduceSub, Int.cast_ofNat_Int]
                | false =>
                  simp (maxSteps := 1000000) -implicitDefEqProofs only [List.length_map, Bool.not_true, Bool.not_false, Bool.or_true, Bool.true_or, Bool.or_false, Bool.false_or, Bool.and_true, Bool.true_and, Bool.false_and, Bool.and_false, c1, c4, c5, c6, c7, c8, c9, c10, go_sem, awp_seq, Nat.reduceBNe, Nat.reduceBEq, Nat.reduceAdd, Nat.reduceSub, Nat.reduceMul, Nat.reduceLeDiff, Nat.reduceLT, Nat.reduceEqDiff, Nat.reduceBneDiff, Int.reduceLE, Int.reduceLT, Int.reduceToNat, Int.reduceBEq, Int.reduceBNe, Int.reduceAdd, Int.reduceSub, Int.cast_ofNat_Int]
            | false =>
              simp (maxSteps := 1000000) -implicitDefEqProofs only [List.length_map, Bool.not_true, Bool.not_false, Bool.or_true, Bool.true_or, Bool.or_false, Bool.false_or, Bool.and_true, Bool.true_and, Bool.false_and, Bool.and_false, c1, c4, c5, c6, c7, c8, go_sem, awp_seq, Nat.reduceBNe, Nat.reduceBEq, Nat.reduceAdd, Nat.reduceSub, Nat.reduceMul, Nat.reduceLeDiff, Nat.reduceLT, Nat.reduceEqDiff, Nat.reduceBneDiff, Int.reduceLE, Int.reduceLT, Int.reduceToNat, Int.reduceBEq, Int.reduceBNe, Int.reduceAdd, Int.reduceSub, Int.cast_ofNat_Int]
    | false =>
      simp (maxSteps := 1000000) -implicitDefEqProofs only [List.length_map, Bool.not_true, Bool.not_false, Bool.or_true, Bool.true_or, Bool.or_false, Bool.false_or, Bool.and_true, Bool.true_and, Bool.false_and, Bool.and_false, c1, c4, go_sem, awp_seq, Nat.reduceBNe, Nat.reduceBEq, Nat.reduceAdd, Nat.reduceSub, Nat.reduceMul, Nat.reduceLeDiff, Nat.reduceLT, Nat.reduceEqDiff, Nat.reduceBneDiff, Int.reduceLE, Int.reduceLT, Int.reduceToNat, Int.reduceBEq, Int.reduceBNe, Int.reduceAdd, Int.reduceSub, Int.cast_ofNat_Int]
      cases c7 : it.kind == 5 with
      | true =>
        cases c9 : it.kind == 6 with
        | true =>
          simp (maxSteps := 1000000) -implicitDefEqProofs only [List.length_map, Bool.not_true, Bool.not_false, Bool.or_true, Bool.true_or, Bool.or_false, Bool.false_or, Bool.and_true, Bool.true_and, Bool.false_and, Bool.and_false, c1, c4, c7, c9, go_sem, awp_seq, Nat.reduceBNe, Nat.reduceBEq, Nat.reduceAdd, Nat.reduceSub, Nat.reduceMul, Nat.reduceLeDiff, Nat.reduceLT, Nat.reduceEqDiff, Nat.reduceBneDiff, Int.reduceLE, Int.reduceLT, Int.reduceToNat, Int.reduceBEq, Int.reduceBNe, Int.reduceAdd, Int.reduceSub, Int.cast_ofNat_Int]
        | false =>
          cases c10 : it.rubric == 0 with
          | true =>
            simp (maxSteps := 1000000) -implicitDefEqProofs only [List.length_map, Bool.not_true, Bool.not_false, Bool.or_true, Bool.true_or, Bool.or_false, Bool.false_or, Bool.and_true, Bool.true_and, Bool.false_and, Bool.and_false, c1, c4, c7, c9, c10, go_sem, awp_seq, Nat.reduceBNe, Nat.reduceBEq, Nat.reduceAdd, Nat.reduceSub, Nat.reduceMul, Nat.reduceLeDiff, Nat.reduceLT, Nat.reduceEqDiff, Nat.reduceBneDiff, Int.reduceLE, Int.reduceLT, Int.reduceToNat, Int.reduceBEq, Int.reduceBNe, Int.reduceAdd, Int.reduceSub, Int.cast_ofNat_Int]
          | false =>
            simp (maxSteps := 1000000) -implicitDefEqProofs only [List.length_map, Bool.not_true, Bool.not_false, Bool.or_true, Bool.true_or, Bool.or_false, Bool.false_or, Bool.and_true, Bool.true_and, Bool.false_and, Bool.and_false, c1, c4, c7, c9, c10, go_sem, awp_seq, Nat.reduceBNe, Nat.reduceBEq, Nat.reduceAdd, Nat.reduceSub, Nat.reduceMul, Nat.reduceLeDiff, Nat.reduceLT, Nat.reduceEqDiff, Nat.reduceBneDiff, Int.reduceLE, Int.reduceLT, Int.reduceToNat, Int.reduceBEq, Int.reduceBNe, Int.reduceAdd, Int.reduceSub, Int.cast_ofNat_Int]
      | false =>
        cases c8 : ((it.texts.length : Nat) : Int) == 0 with
        | true =>
          cases c9 : it.kind == 6 with
          | true =>
            simp (maxSteps := 1000000) -implicitDefEqProofs only [List.length_map, Bool.not_true, Bool.not_false, Bool.or_true, Bool.true_or, Bool.or_false, Bool.false_or, Bool.and_true, Bool.true_and, Bool.false_and, Bool.and_false, c1, c4, c7, c8, c9, go_sem, awp_seq, Nat.reduceBNe, Nat.reduceBEq, Nat.reduceAdd, Nat.reduceSub, Nat.reduceMul, Nat.reduceLeDiff, Nat.reduceLT, Nat.reduceEqDiff, Nat.reduceBneDiff, Int.reduceLE, Int.reduceLT, Int.reduceToNat, Int.reduceBEq, Int.reduceBNe, Int.reduceAdd, Int.reduceSub, Int.cast_ofNat_Int]
          | false =>
            cases c10 : it.rubric == 0 with
            | true =>
              simp (maxSteps := 1000000) -implicitDefEqProofs only [List.length_map, Bool.not_true, Bool.not_false, Bool.or_true, Bool.true_or, Bool.or_false, Bool.false_or, Bool.and_true, Bool.true_and, Bool.false_and, Bool.and_false, c1, c4, c7, c8, c9, c10, go_sem, awp_seq, Nat.reduceBNe, Nat.reduceBEq, Nat.reduceAdd, Nat.reduceSub, Nat.reduceMul, Nat.reduceLeDiff, Nat.reduceLT, Nat.reduceEqDiff, Nat.reduceBneDiff, Int.reduceLE, Int.reduceLT, Int.reduceToNat, Int.reduceBEq, Int.reduceBNe, Int.reduceAdd, Int.reduceSub, Int.cast_ofNat_Int]
            | false =>
              simp (maxSteps := 1000000) -implicitDefEqProofs only [List.length_map, Bool.not_true, Bool.not_false, Bool.or_true, Bool.true_or, Bool.or_false, Bool.false_or, Bool.and_true, Bool.true_and, Bool.false_and, Bool.and_false, c1, c4, c7, c8, c9, c10, go_sem, awp_seq, Nat.reduceBNe, Nat.reduceBEq, Nat.reduceAdd, Nat.reduceSub, Nat.reduceMul, Nat.reduceLeDiff, Nat.reduceLT, Nat.reduceEqDiff, Nat.reduceBneDiff, Int.reduceLE, Int.reduceLT, Int.reduceToNat, Int.reduceBEq, Int.reduceBNe, Int.reduceAdd, Int.reduceSub, Int.cast_ofNat_Int]
        | false =>
          simp (maxSteps := 1000000) -implicitDefEqProofs only [List.length_map, Bool.not_true, Bool.not_false, Bool.or_true, Bool.true_or, Bool.or_false, Bool.false_or, Bool.and_true, Bool.true_and, Bool.false_and, Bool.and_false, c1, c4, c7, c8, go_sem, awp_seq, Nat.reduceBNe, Nat.reduceBEq, Nat.reduceAdd, Nat.reduceSub, Nat.reduceMul, Nat.reduceLeDiff, Nat.reduceLT, Nat.reduceEqDiff, Nat.reduceBneDiff, Int.reduceLE, Int.reduceLT, Int.reduceToNat, Int.reduceBEq, Int.reduceBNe, Int.reduceAdd, Int.reduceSub, Int.cast_ofNat_Int]
end Go.Proofs.YtkmicjpoekbhfaaGreatDoor

/- Chapter 40: the texts and the key of an item; its first error. INTS -/
set_option linter.unusedSimpArgs false
set_option linter.unusedVariables false
namespace Go.Proofs.YtkmicjpoekbhfaaGreatDoor
open Go.RowKit Lim

def strB (it : ItV) : Bool := prB (Lib.replaceAll it.stem [10] [32]) 2000 && it.opts.all (fun o => prB o 200) && it.texts.all (fun o => prB o 200) && contentB it.content
theorem count_le (s : List UInt8) (c : UInt8) : Lib.countB (bs s) (bs [c]) ≤ s.length := by
  show Lib.count s [c] ≤ s.length
  rw [Lib.count_one]
  exact List.count_le_length
theorem repl_len (s : List UInt8) : (Lib.replaceAll s [10] [32]).length = s.length := by
  have key : ∀ (k : Nat) (s : List UInt8), (Lib.replaceK [10] [32] k s).length = s.length := by
    intro k
    induction k with
    | zero => intro s; rfl
    | succ k ih =>
      intro s
      unfold Lib.replaceK
      split
      · rfl
      · rename_i hh
        have h0 : 0 ≤ Lib.index s [10] := by
          rcases Lib.index_spec s [10] with ⟨h1, _⟩ | ⟨i, h1, _⟩
          · exact absurd (by rw [h1]; rfl) hh
          · omega
        have := Lib.index_room s [10] h0
        simp only [List.length_append, List.length_take, List.length_drop, List.length_cons, List.length_nil, ih] at *
        omega
  unfold Lib.replaceAll Lib.replace
  rw [if_neg (by decide)]
  exact key _ s
set_option maxHeartbeats 1000000 in
theorem validStrings_c (it : ItV) (h : IOK it) : AC 40 [itA it] (boo (strB it)) := by
  have R := replaceAll_c it.stem [10] [32] (by have := h.stem; omega) (by simp) (by have := h.stem; have := count_le it.stem 10; simp; omega)
  have P := printable_c (Lib.replaceAll it.stem [10] [32]) 2000 (by rw [repl_len]; have := h.stem; omega)
  have V := cvalid_c it.content
  unfold strB
  generalize Lib.replaceAll it.stem [10] [32] = rs at *
  generalize prB rs 2000 = b1 at *
  generalize contentB it.content = b4 at *
  refine ACalls.of ⟨27, [], []⟩ (fn := Tryz.f40) Tryz.func40 rfl rfl rfl (by kernel_rfl) (by kernel_rfl) (Nat.le_of_ble_eq_true rfl) ?_
  simp (maxSteps := 1000000) -implicitDefEqProofs only [List.length_map, go_sem, awp_seq, Nat.reduceBNe, Nat.reduceBEq, Nat.reduceAdd, Nat.reduceSub, Nat.reduceMul, Nat.reduceLeDiff, Nat.reduceLT, Nat.reduceEqDiff, Nat.reduceBneDiff, Int.reduceLE, Int.reduceLT, Int.reduceToNat, Int.reduceBEq, Int.reduceBNe, Int.reduceAdd, Int.reduceSub, Int.cast_ofNat_Int]
  refine callA_t R ?_
  simp (maxSteps := 1000000) -implicitDefEqProofs only [go_sem, awp_seq, Nat.reduceBNe, Nat.reduceBEq, Nat.reduceAdd, Nat.reduceSub, Nat.reduceMul, Nat.reduceLeDiff, Nat.reduceLT, Nat.reduceEqDiff, Nat.reduceBneDiff, Int.reduceLE, Int.reduceLT, Int.reduceToNat, Int.reduceBEq, Int.reduceBNe, Int.reduceAdd, Int.reduceSub, Int.cast_ofNat_Int]
  refine callA_t P ?_
  cases b1 with
  | false => simp (maxSteps := 1000000) -implicitDefEqProofs only [Bool.false_and, go_sem, awp_seq, Nat.reduceBNe, Nat.reduceBEq, Nat.reduceAdd, Nat.reduceSub, Nat.reduceMul, Nat.reduceLeDiff, Nat.reduceLT, Nat.reduceEqDiff, Nat.reduceBneDiff, Int.reduceLE, Int.reduceLT, Int.reduceToNat, Int.reduceBEq, Int.reduceBNe, Int.reduceAdd, Int.reduceSub, Int.cast_ofNat_Int]
  | true =>
  simp (maxSteps := 1000000) -implicitDefEqProofs only [List.length_map, Bool.true_and, go_sem, awp_seq, Nat.reduceBNe, Nat.reduceBEq, Nat.reduceAdd, Nat.reduceSub, Nat.reduceMul, Nat.reduceLeDiff, Nat.reduceLT, Nat.reduceEqDiff, Nat.reduceBneDiff, Int.reduceLE, Int.reduceLT, Int.reduceToNat, Int.reduceBEq, Int.reduceBNe, Int.reduceAdd, Int.reduceSub, Int.cast_ofNat_Int]
  have bad2 : ∀ k (hk : k < it.opts.length), prB it.opts[k] 200 = false → it.opts.all (fun o => prB o 200) = false := fun k hk hb => by
    rw [List.all_eq_false]; exact ⟨it.opts[k], List.getElem_mem hk, by simp [hb]⟩
  have good2 : (∀ k (hk : k < it.opts.length), prB it.opts[k] 200 = true) → it.opts.all (fun o => prB o 200) = true := fun hh => by
    rw [List.all_eq_true]; intro x hx; obtain ⟨i, hi, rfl⟩ := List.getElem_of_mem hx; exact hh i hi
  have bad3 : ∀ k (hk : k < it.texts.length), prB it.texts[k] 200 = false → it.texts.all (fun o => prB o 200) = false := fun k hk hb => by
    rw [List.all_eq_false]; exact ⟨it.texts[k], List.getElem_mem hk, by simp [hb]⟩
  have good3 : (∀ k (hk : k < it.texts.length), prB it.texts[k] 200 = true) → it.texts.all (fun o => prB o 200) = true := fun hh => by
    rw [List.all_eq_true]; intro x hx; obtain ⟨i, hi, rfl⟩ := List.getElem_of_mem hx; exact hh i hi
  have ol : ∀ k (hk : k < it.opts.length), it.opts[k].length ≤ 2000000 := fun k hk => h.optl _ (List.getElem_mem hk)
  have tl : ∀ k (hk : k < it.texts.length), it.texts[k].length ≤ 2000000 := fun k hk => h.textl _ (List.getElem_mem hk)
  have on := h.opts
  have tn := h.texts
  generalize it.opts.all (fun o => prB o 200) = b2 at *
  generalize it.texts.all (fun o => prB o 200) = b3 at *
  refine loop_mk (α := {k : Nat // k ≤ it.opts.length ∧ ∀ i (hi : i < it.opts.length), i < k → prB it.opts[i] 200 = true}) (fun k => [(0, some (.av (itA it))), (1, some (.ref 1 0)), (2, some (.av (boo false))), (13, some (.av (strs it.opts))), (14, some (.av (i64 (it.opts.length : Nat)))), (15, some (.av (i64 (k.1 : Nat))))]) (fun _ => [(1, itC it)]) (fun _ => []) (fun k => it.opts.length - k.1) ⟨0, Nat.zero_le _, fun i hi hi2 => by omega⟩ ?_ ?_
  · simp (maxSteps := 1000000) -implicitDefEqProofs only [List.length_map, go_sem, awp_seq, Nat.reduceBNe, Nat.reduceBEq, Nat.reduceAdd, Nat.reduceSub, Nat.reduceMul, Nat.reduceLeDiff, Nat.reduceLT, Nat.reduceEqDiff, Nat.reduceBneDiff, Int.reduceLE, Int.reduceLT, Int.reduceToNat, Int.reduceBEq, Int.reduceBNe, Int.reduceAdd, Int.reduceSub, Int.cast_ofNat_Int]
  · rintro ⟨k, hk, hall⟩
    by_cases hlt : k < it.opts.length
    · have g1 : decide (((k : Nat) : Int) < (it.opts.length : Nat)) = true := by simp; omega
      have e1 := map_get (fun x => str x) it.opts hlt
      have w1 : IntKind.i64.wrap ((k : Int) + 1) = ((k + 1 : Nat) : Int) := by rw [IntWalk.i64_in _ (by omega)]; omega
      have W := printable_c it.opts[k] 200 (by have := ol k hlt; omega)
      have b0 := bad2 k hlt
      have ok1 : prB it.opts[k] 200 = true → ∀ i (hi : i < it.opts.length), i < k + 1 → prB it.opts[i] 200 = true := fun hh i hi hik => by
        by_cases he : i = k
        · subst he; exact hh
        · exact hall i hi (by omega)
      generalize prB it.opts[k] 200 = wb at *
      cases wb with
      | false =>
        have e := b0 rfl
        subst e
        simp (maxSteps := 1000000) -implicitDefEqProofs only [g1, e1, Int.toNat_natCast, Int.natCast_nonneg, go_sem, awp_seq, Nat.reduceBNe, Nat.reduceBEq, Nat.reduceAdd, Nat.reduceSub, Nat.reduceMul, Nat.reduceLeDiff, Nat.reduceLT, Nat.reduceEqDiff, Nat.reduceBneDiff, Int.reduceLE, Int.reduceLT, Int.reduceToNat, Int.reduceBEq, Int.reduceBNe, Int.reduceAdd, Int.reduceSub, Int.cast_ofNat_Int]
        refine callA_t W ?_
        simp (maxSteps := 1000000) -implicitDefEqProofs only [Bool.false_and, go_sem, awp_seq, Nat.reduceBNe, Nat.reduceBEq, Nat.reduceAdd, Nat.reduceSub, Nat.reduceMul, Nat.reduceLeDiff, Nat.reduceLT, Nat.reduceEqDiff, Nat.reduceBneDiff, Int.reduceLE, Int.reduceLT, Int.reduceToNat, Int.reduceBEq, Int.reduceBNe, Int.reduceAdd, Int.reduceSub, Int.cast_ofNat_Int]
      | true =>
        simp (maxSteps := 1000000) -implicitDefEqProofs only [g1, e1, Int.toNat_natCast, Int.natCast_nonneg, go_sem, awp_seq, Nat.reduceBNe, Nat.reduceBEq, Nat.reduceAdd, Nat.reduceSub, Nat.reduceMul, Nat.reduceLeDiff, Nat.reduceLT, Nat.reduceEqDiff, Nat.reduceBneDiff, Int.reduceLE, Int.reduceLT, Int.reduceToNat, Int.reduceBEq, Int.reduceBNe, Int.reduceAdd, Int.reduceSub, Int.cast_ofNat_Int]
        refine callA_t W ?_
        simp (maxSteps := 1000000) -implicitDefEqProofs only [w1, go_sem, awp_seq, Nat.reduceBNe, Nat.reduceBEq, Nat.reduceAdd, Nat.reduceSub, Nat.reduceMul, Nat.reduceLeDiff, Nat.reduceLT, Nat.reduceEqDiff, Nat.reduceBneDiff, Int.reduceLE, Int.reduceLT, Int.reduceToNat, Int.reduceBEq, Int.reduceBNe, Int.reduceAdd, Int.reduceSub, Int.cast_ofNat_Int]
        refine roundK_mk ⟨k + 1, by omega, ok1 rfl⟩ ?_ (by show it.opts.length - (k + 1) < it.opts.length - k; omega)
        simp (maxSteps := 1000000) -implicitDefEqProofs only [go_sem, awp_seq, Nat.reduceBNe, Nat.reduceBEq, Nat.reduceAdd, Nat.reduceSub, Nat.reduceMul, Nat.reduceLeDiff, Nat.reduceLT, Nat.reduceEqDiff, Nat.reduceBneDiff, Int.reduceLE, Int.reduceLT, Int.reduceToNat, Int.reduceBEq, Int.reduceBNe, Int.reduceAdd, Int.reduceSub, Int.cast_ofNat_Int]
    · have g1 : decide (((k : Nat) : Int) < (it.opts.length : Nat)) = false := by simp; omega
      have e := good2 (fun i hi => hall i hi (by omega))
      subst e
      simp (maxSteps := 1000000) -implicitDefEqProofs only [g1, List.length_map, Bool.true_and, go_sem, awp_seq, Nat.reduceBNe, Nat.reduceBEq, Nat.reduceAdd, Nat.reduceSub, Nat.reduceMul, Nat.reduceLeDiff, Nat.reduceLT, Nat.reduceEqDiff, Nat.reduceBneDiff, Int.reduceLE, Int.reduceLT, Int.reduceToNat, Int.reduceBEq, Int.reduceBNe, Int.reduceAdd, Int.reduceSub, Int.cast_ofNat_Int]
      clear hall hlt g1 hk bad2 good2
      refine loop_mk (α := {k : Nat // k ≤ it.texts.length ∧ ∀ i (hi : i < it.texts.length), i < k → prB it.texts[i] 200 = true}) (fun k => [(0, some (.av (itA it))), (1, some (.ref 1 0)), (2, some (.av (boo false))), (24, some (.av (strs it.texts))), (25, some (.av (i64 (it.texts.length : Nat)))), (26, some (.av (i64 (k.1 : Nat))))]) (fun _ => [(1, itC it)]) (fun _ => []) (fun k => it.texts.length - k.1) ⟨0, Nat.zero_le _, fun i hi hi2 => by omega⟩ ?_ ?_
      · simp (maxSteps := 1000000) -implicitDefEqProofs only [List.length_map, go_sem, awp_seq, Nat.reduceBNe, Nat.reduceBEq, Nat.reduceAdd, Nat.reduceSub, Nat.reduceMul, Nat.reduceLeDiff, Nat.reduceLT, Nat.reduceEqDiff, Nat.reduceBneDiff, Int.reduceLE, Int.reduceLT, Int.reduceToNat, Int.reduceBEq, Int.reduceBNe, Int.reduceAdd, Int.reduceSub, Int.cast_ofNat_Int]
      · rintro ⟨k, hk, hall⟩
        by_cases hlt : k < it.texts.length
        · have g1 : decide (((k : Nat) : Int) < (it.texts.length : Nat)) = true := by simp; omega
          have e1 := map_get (fun x => str x) it.texts hlt
          have w1 : IntKind.i64.wrap ((k : Int) + 1) = ((k + 1 : Nat) : Int) := by rw [IntWalk.i64_in _ (by omega)]; omega
          have W := printable_c it.texts[k] 200 (by have := tl k hlt; omega)
          have b0 := bad3 k hlt
          have ok1 : prB it.texts[k] 200 = true → ∀ i (hi : i < it.texts.length), i < k + 1 → prB it.texts[i] 200 = true := fun hh i hi hik => by
            by_cases he : i = k
            · subst he; exact hh
            · exact hall i hi (by omega)
          generalize prB it.texts[k] 200 = wb at *
          cases wb with
          | false =>
            have e := b0 rfl
            subst e
            simp (maxSteps := 1000000) -implicitDefEqProofs only [g1, e1, Int.toNat_natCast, Int.natCast_nonneg, go_sem, awp_seq, Nat.reduceBNe, Nat.reduceBEq, Nat.reduceAdd, Nat.reduceSub, Nat.reduceMul, Nat.reduceLeDiff, Nat.reduceLT, Nat.reduceEqDiff, Nat.reduceBneDiff, Int.reduceLE, Int.reduceLT, Int.reduceToNat, Int.reduceBEq, Int.reduceBNe, Int.reduceAdd, Int.reduceSub, Int.cast_ofNat_Int]
            refine callA_t W ?_
            simp (maxSteps := 1000000) -implicitDefEqProofs only [Bool.false_and, go_sem, awp_seq, Nat.reduceBNe, Nat.reduceBEq, Nat.reduceAdd, Nat.reduceSub, Nat.reduceMul, Nat.reduceLeDiff, Nat.reduceLT, Nat.reduceEqDiff, Nat.reduceBneDiff, Int.reduceLE, Int.reduceLT, Int.reduceToNat, Int.reduceBEq, Int.reduceBNe, Int.reduceAdd, Int.reduceSub, Int.cast_ofNat_Int]
          | true =>
            simp (maxSteps := 1000000) -implicitDefEqProofs only [g1, e1, Int.toNat_natCast, Int.natCast_nonneg, go_sem, awp_seq, Nat.reduceBNe, Nat.reduceBEq, Nat.reduceAdd, Nat.reduceSub, Nat.reduceMul, Nat.reduceLeDiff, Nat.reduceLT, Nat.reduceEqDiff, Nat.reduceBneDiff, Int.reduceLE, Int.reduceLT, Int.reduceToNat, Int.reduceBEq, Int.reduceBNe, Int.reduceAdd, Int.reduceSub, Int.cast_ofNat_Int]
            refine callA_t W ?_
            simp (maxSteps := 1000000) -implicitDefEqProofs only [w1, go_sem, awp_seq, Nat.reduceBNe, Nat.reduceBEq, Nat.reduceAdd, Nat.reduceSub, Nat.reduceMul, Nat.reduceLeDiff, Nat.reduceLT, Nat.reduceEqDiff, Nat.reduceBneDiff, Int.reduceLE, Int.reduceLT, Int.reduceToNat, Int.reduceBEq, Int.reduceBNe, Int.reduceAdd, Int.reduceSub, Int.cast_ofNat_Int]
            refine roundK_mk ⟨k + 1, by omega, ok1 rfl⟩ ?_ (by show it.texts.length - (k + 1) < it.texts.length - k; omega)
            simp (maxSteps := 1000000) -implicitDefEqProofs only [go_sem, awp_seq, Nat.reduceBNe, Nat.reduceBEq, Nat.reduceAdd, Nat.reduceSub, Nat.reduceMul, Nat.reduceLeDiff, Nat.reduceLT, Nat.reduceEqDiff, Nat.reduceBneDiff, Int.reduceLE, Int.reduceLT, Int.reduceToNat, Int.reduceBEq, Int.reduceBNe, Int.reduceAdd, Int.reduceSub, Int.cast_ofNat_Int]
        · have g1 : decide (((k : Nat) : Int) < (it.texts.length : Nat)) = false := by simp; omega
          have e := good3 (fun i hi => hall i hi (by omega))
          subst e
          simp (maxSteps := 1000000) -implicitDefEqProofs only [g1, Bool.true_and, go_sem, awp_seq, Nat.reduceBNe, Nat.reduceBEq, Nat.reduceAdd, Nat.reduceSub, Nat.reduceMul, Nat.reduceLeDiff, Nat.reduceLT, Nat.reduceEqDiff, Nat.reduceBneDiff, Int.reduceLE, Int.reduceLT, Int.reduceToNat, Int.reduceBEq, Int.reduceBNe, Int.reduceAdd, Int.reduceSub, Int.cast_ofNat_Int]
          refine callA_mk V ?_
          simp (maxSteps := 1000000) -implicitDefEqProofs only [go_sem, awp_seq, Nat.reduceBNe, Nat.reduceBEq, Nat.reduceAdd, Nat.reduceSub, Nat.reduceMul, Nat.reduceLeDiff, Nat.reduceLT, Nat.reduceEqDiff, Nat.reduceBneDiff, Int.reduceLE, Int.reduceLT, Int.reduceToNat, Int.reduceBEq, Int.reduceBNe, Int.reduceAdd, Int.reduceSub, Int.cast_ofNat_Int]
/-! The key. -/
def lastI (it : ItV) : Int := ((it.opts.length : Nat) : Int) - 1
def sle (a b : List UInt8) : Bool := Op.bytesLess a b || a == b
/-- The text at i is normalized and behind the one before. -/
def txtAt (L : List (List UInt8)) (i : Nat) : Bool := normB (L[i]?.getD []) && !(decide ((0 : Int) < (i : Nat)) && sle (L[i]?.getD []) (L[i - 1]?.getD []))
def txtsB (L : List (List UInt8)) : Bool := (List.range L.length).all (txtAt L) && decide ((1 : Int) ≤ (L.length : Nat))
def key1 (it : ItV) : Bool := decide ((1 : Int) ≤ lastI it) && (((it.key.length : Nat) : Int) == 1) && withinB (it.key[0]?.getD 0) 0 (lastI it)
def key2 (it : ItV) : Bool := decide ((1 : Int) ≤ lastI it) && decide ((1 : Int) ≤ (it.key.length : Nat)) && risB 0 (lastI it) it.key
def key3 (it : ItV) : Bool := decide ((1 : Int) ≤ lastI it) && (((it.key.length : Nat) : Int) == lastI it + 1) && risB 0 (lastI it) (sortI it.key)
def key4 (it : ItV) : Bool := withinB it.val (-9999999) 9999999 && withinB it.tol 0 9999999
def keyB (it : ItV) : Bool := bif it.kind == 1 then key1 it else bif it.kind == 2 then key2 it else bif it.kind == 3 then key3 it else bif it.kind == 4 then key4 it else bif it.kind == 5 then txtsB it.texts else decide ((1 : Int) ≤ it.rubric)
theorem last_wrap (it : ItV) (h : IOK it) : IntKind.i64.wrap (((it.opts.length : Nat) : Int) - 1) = lastI it := by
  have := h.opts
  rw [IntWalk.i64_in _ (by omega)]
  rfl
theorem last_wrap2 (it : ItV) (h : IOK it) : IntKind.i64.wrap (lastI it + 1) = lastI it + 1 := by
  have := h.opts
  unfold lastI
  rw [IntWalk.i64_in _ (by omega)]
set_option maxHeartbeats 1000000 in
theorem key1_c (it : ItV) (h : IOK it) (hk : it.kind = 1) : AT 42 [itA it] (boo (key1 it)) := by
  have k1 : (it.kind == 1) = true := by rw [hk]; rfl
  have L := last_wrap it h
  unfold key1
  refine ACalls.of ⟨82, [], []⟩ (fn := Tryz.f42) Tryz.func42 rfl rfl rfl (by kernel_rfl) (by kernel_rfl) (Nat.le_of_ble_eq_true rfl) ?_
  simp (maxSteps := 1000000) -implicitDefEqProofs only [List.length_map, L, k1, go_sem, awp_seq, Nat.reduceBNe, Nat.reduceBEq, Nat.reduceAdd, Nat.reduceSub, Nat.reduceMul, Nat.reduceLeDiff, Nat.reduceLT, Nat.reduceEqDiff, Nat.reduceBneDiff, Int.reduceLE, Int.reduceLT, Int.reduceToNat, Int.reduceBEq, Int.reduceBNe, Int.reduceAdd, Int.reduceSub, Int.cast_ofNat_Int]
  cases c1 : decide ((1 : Int) ≤ lastI it) with
  | false => simp (maxSteps := 1000000) -implicitDefEqProofs only [Bool.false_and, c1, go_sem, awp_seq, Nat.reduceBNe, Nat.reduceBEq, Nat.reduceAdd, Nat.reduceSub, Nat.reduceMul, Nat.reduceLeDiff, Nat.reduceLT, Nat.reduceEqDiff, Nat.reduceBneDiff, Int.reduceLE, Int.reduceLT, Int.reduceToNat, Int.reduceBEq, Int.reduceBNe, Int.reduceAdd, Int.reduceSub, Int.cast_ofNat_Int]
  | true =>
  cases c2 : (((it.key.length : Nat) : Int) == 1) with
  | false => simp (maxSteps := 1000000) -implicitDefEqProofs only [List.length_map, Bool.and_false, Bool.false_and, c1, c2, go_sem, awp_seq, Nat.reduceBNe, Nat.reduceBEq, Nat.reduceAdd, Nat.reduceSub, Nat.reduceMul, Nat.reduceLeDiff, Nat.reduceLT, Nat.reduceEqDiff, Nat.reduceBneDiff, Int.reduceLE, Int.reduceLT, Int.reduceToNat, Int.reduceBEq, Int.reduceBNe, Int.reduceAdd, Int.reduceSub, Int.cast_ofNat_Int]
  | true =>
    have hl : it.key.length = 1 := by simp at c2; omega
    obtain ⟨z, hz⟩ : ∃ z, it.key = [z] := List.length_eq_one_iff.1 hl
    have W := within_c z 0 (lastI it)
    have e1 : (List.map (fun x => i64 x) it.key)[0]? = some (i64 z) := by rw [hz]; rfl
    have e2 : it.key[0]?.getD 0 = z := by rw [hz]; rfl
    rw [e2]
    simp (maxSteps := 1000000) -implicitDefEqProofs only [List.length_map, Bool.true_and, c1, c2, e1, Int.toNat_zero, Int.le_refl, go_sem, awp_seq, Nat.reduceBNe, Nat.reduceBEq, Nat.reduceAdd, Nat.reduceSub, Nat.reduceMul, Nat.reduceLeDiff, Nat.reduceLT, Nat.reduceEqDiff, Nat.reduceBneDiff, Int.reduceLE, Int.reduceLT, Int.reduceToNat, Int.reduceBEq, Int.reduceBNe, Int.reduceAdd, Int.reduceSub, Int.cast_ofNat_Int]
    refine callA_tt W ?_
    simp (maxSteps := 1000000) -implicitDefEqProofs only [go_sem, awp_seq, Nat.reduceBNe, Nat.reduceBEq, Nat.reduceAdd, Nat.reduceSub, Nat.reduceMul, Nat.reduceLeDiff, Nat.reduceLT, Nat.reduceEqDiff, Nat.reduceBneDiff, Int.reduceLE, Int.reduceLT, Int.reduceToNat, Int.reduceBEq, Int.reduceBNe, Int.reduceAdd, Int.reduceSub, Int.cast_ofNat_Int]
set_option maxHeartbeats 1000000 in
theorem key2_c (it : ItV) (h : IOK it) (hk : it.kind = 2) : AT 42 [itA it] (boo (key2 it)) := by
  have k1 : (it.kind == 1) = false := by rw [hk]; rfl
  have k2 : (it.kind == 2) = true := by rw [hk]; rfl
  have L := last_wrap it h
  have W := rising_c it.key 0 (lastI it) (by have := h.key; omega)
  unfold key2
  refine ACalls.of ⟨82, [], []⟩ (fn := Tryz.f42) Tryz.func42 rfl rfl rfl (by kernel_rfl) (by kernel_rfl) (Nat.le_of_ble_eq_true rfl) ?_
  simp (maxSteps := 1000000) -implicitDefEqProofs only [List.length_map, L, k1, k2, go_sem, awp_seq, Nat.reduceBNe, Nat.reduceBEq, Nat.reduceAdd, Nat.reduceSub, Nat.reduceMul, Nat.reduceLeDiff, Nat.reduceLT, Nat.reduceEqDiff, Nat.reduceBneDiff, Int.reduceLE, Int.reduceLT, Int.reduceToNat, Int.reduceBEq, Int.reduceBNe, Int.reduceAdd, Int.reduceSub, Int.cast_ofNat_Int]
  cases c1 : decide ((1 : Int) ≤ lastI it) with
  | false => simp (maxSteps := 1000000) -implicitDefEqProofs only [Bool.false_and, c1, go_sem, awp_seq, Nat.reduceBNe, Nat.reduceBEq, Nat.reduceAdd, Nat.reduceSub, Nat.reduceMul, Nat.reduceLeDiff, Nat.reduceLT, Nat.reduceEqDiff, Nat.reduceBneDiff, Int.reduceLE, Int.reduceLT, Int.reduceToNat, Int.reduceBEq, Int.reduceBNe, Int.reduceAdd, Int.reduceSub, Int.cast_ofNat_Int]
  | true =>
  cases c2 : decide ((1 : Int) ≤ (it.key.length : Nat)) with
  | false => simp (maxSteps := 1000000) -implicitDefEqProofs only [List.length_map, Bool.and_false, Bool.false_and, c1, c2, go_sem, awp_seq, Nat.reduceBNe, Nat.reduceBEq, Nat.reduceAdd, Nat.reduceSub, Nat.reduceMul, Nat.reduceLeDiff, Nat.reduceLT, Nat.reduceEqDiff, Nat.reduceBneDiff, Int.reduceLE, Int.reduceLT, Int.reduceToNat, Int.reduceBEq, Int.reduceBNe, Int.reduceAdd, Int.reduceSub, Int.cast_ofNat_Int]
  | true =>
    simp (maxSteps := 1000000) -implicitDefEqProofs only [List.length_map, Bool.true_and, c1, c2, go_sem, awp_seq, Nat.reduceBNe, Nat.reduceBEq, Nat.reduceAdd, Nat.reduceSub, Nat.reduceMul, Nat.reduceLeDiff, Nat.reduceLT, Nat.reduceEqDiff, Nat.reduceBneDiff, Int.reduceLE, Int.reduceLT, Int.reduceToNat, Int.reduceBEq, Int.reduceBNe, Int.reduceAdd, Int.reduceSub, Int.cast_ofNat_Int]
    refine callA_tt W ?_
    simp (maxSteps := 1000000) -implicitDefEqProofs only [go_sem, awp_seq, Nat.reduceBNe, Nat.reduceBEq, Nat.reduceAdd, Nat.reduceSub, Nat.reduceMul, Nat.reduceLeDiff, Nat.reduceLT, Nat.reduceEqDiff, Nat.reduceBneDiff, Int.reduceLE, Int.reduceLT, Int.reduceToNat, Int.reduceBEq, Int.reduceBNe, Int.reduceAdd, Int.reduceSub, Int.cast_ofNat_Int]
set_option maxHeartbeats 1000000 in
theorem key3_c (it : ItV) (h : IOK it) (hk : it.kind = 3) : AT 42 [itA it] (boo (key3 it)) := by
  have k1 : (it.kind == 1) = false := by rw [hk]; rfl
  have k2 : (it.kind == 2) = false := by rw [hk]; rfl
  have k3 : (it.kind == 3) = true := by rw [hk]; rfl
  have L := last_wrap it h
  have L2 := last_wrap2 it h
  have V := values_c it.key
  have S := sorted_c it.key (by have := h.key; omega)
  have W := rising_c (sortI it.key) 0 (lastI it) (by have := h.key; simp; omega)
  unfold key3
  refine ACalls.of ⟨82, [], []⟩ (fn := Tryz.f42) Tryz.func42 rfl rfl rfl (by kernel_rfl) (by kernel_rfl) (Nat.le_of_ble_eq_true rfl) ?_
  simp (maxSteps := 1000000) -implicitDefEqProofs only [List.length_map, L, k1, k2, k3, go_sem, awp_seq, Nat.reduceBNe, Nat.reduceBEq, Nat.reduceAdd, Nat.reduceSub, Nat.reduceMul, Nat.reduceLeDiff, Nat.reduceLT, Nat.reduceEqDiff, Nat.reduceBneDiff, Int.reduceLE, Int.reduceLT, Int.reduceToNat, Int.reduceBEq, Int.reduceBNe, Int.reduceAdd, Int.reduceSub, Int.cast_ofNat_Int]
  cases c1 : decide ((1 : Int) ≤ lastI it) with
  | false => simp (maxSteps := 1000000) -implicitDefEqProofs only [Bool.false_and, c1, go_sem, awp_seq, Nat.reduceBNe, Nat.reduceBEq, Nat.reduceAdd, Nat.reduceSub, Nat.reduceMul, Nat.reduceLeDiff, Nat.reduceLT, Nat.reduceEqDiff, Nat.reduceBneDiff, Int.reduceLE, Int.reduceLT, Int.reduceToNat, Int.reduceBEq, Int.reduceBNe, Int.reduceAdd, Int.reduceSub, Int.cast_ofNat_Int]
  | true =>
  cases c2 : (((it.key.length : Nat) : Int) == lastI it + 1) with
  | false => simp (maxSteps := 1000000) -implicitDefEqProofs only [List.length_map, Bool.and_false, Bool.false_and, c1, c2, L2, go_sem, awp_seq, Nat.reduceBNe, Nat.reduceBEq, Nat.reduceAdd, Nat.reduceSub, Nat.reduceMul, Nat.reduceLeDiff, Nat.reduceLT, Nat.reduceEqDiff, Nat.reduceBneDiff, Int.reduceLE, Int.reduceLT, Int.reduceToNat, Int.reduceBEq, Int.reduceBNe, Int.reduceAdd, Int.reduceSub, Int.cast_ofNat_Int]
  | true =>
    simp (maxSteps := 1000000) -implicitDefEqProofs only [List.length_map, Bool.true_and, c1, c2, L2, go_sem, awp_seq, Nat.reduceBNe, Nat.reduceBEq, Nat.reduceAdd, Nat.reduceSub, Nat.reduceMul, Nat.reduceLeDiff, Nat.reduceLT, Nat.reduceEqDiff, Nat.reduceBneDiff, Int.reduceLE, Int.reduceLT, Int.reduceToNat, Int.reduceBEq, Int.reduceBNe, Int.reduceAdd, Int.reduceSub, Int.cast_ofNat_Int]
    refine callA_tt V ?_
    simp (maxSteps := 1000000) -implicitDefEqProofs only [go_sem, awp_seq, Nat.reduceBNe, Nat.reduceBEq, Nat.reduceAdd, Nat.reduceSub, Nat.reduceMul, Nat.reduceLeDiff, Nat.reduceLT, Nat.reduceEqDiff, Nat.reduceBneDiff, Int.reduceLE, Int.reduceLT, Int.reduceToNat, Int.reduceBEq, Int.reduceBNe, Int.reduceAdd, Int.reduceSub, Int.cast_ofNat_Int]
    refine callA_tt S ?_
    simp (maxSteps := 1000000) -implicitDefEqProofs only [go_sem, awp_seq, Nat.reduceBNe, Nat.reduceBEq, Nat.reduceAdd, Nat.reduceSub, Nat.reduceMul, Nat.reduceLeDiff, Nat.reduceLT, Nat.reduceEqDiff, Nat.reduceBneDiff, Int.reduceLE, Int.reduceLT, Int.reduceToNat, Int.reduceBEq, Int.reduceBNe, Int.reduceAdd, Int.reduceSub, Int.cast_ofNat_Int]
    refine callA_tt W ?_
    simp (maxSteps := 1000000) -implicitDefEqProofs only [go_sem, awp_seq, Nat.reduceBNe, Nat.reduceBEq, Nat.reduceAdd, Nat.reduceSub, Nat.reduceMul, Nat.reduceLeDiff, Nat.reduceLT, Nat.reduceEqDiff, Nat.reduceBneDiff, Int.reduceLE, Int.reduceLT, Int.reduceToNat, Int.reduceBEq, Int.reduceBNe, Int.reduceAdd, Int.reduceSub, Int.cast_ofNat_Int]
set_option maxHeartbeats 1000000 in
theorem key4_c (it : ItV) (h : IOK it) (hk : it.kind = 4) : AT 42 [itA it] (boo (key4 it)) := by
  have k1 : (it.kind == 1) = false := by rw [hk]; rfl
  have k2 : (it.kind == 2) = false := by rw [hk]; rfl
  have k3 : (it.kind == 3) = false := by rw [hk]; rfl
  have k4 : (it.kind == 4) = true := by rw [hk]; rfl
  have L := last_wrap it h
  have W1 := within_c it.val (-9999999) 9999999
  have W2 := within_c it.tol 0 9999999
  unfold key4
  generalize withinB it.val (-9999999) 9999999 = b1 at *
  refine ACalls.of ⟨82, [], []⟩ (fn := Tryz.f42) Tryz.func42 rfl rfl rfl (by kernel_rfl) (by kernel_rfl) (Nat.le_of_ble_eq_true rfl) ?_
  simp (maxSteps := 1000000) -implicitDefEqProofs only [List.length_map, L, k1, k2, k3, k4, go_sem, awp_seq, Nat.reduceBNe, Nat.reduceBEq, Nat.reduceAdd, Nat.reduceSub, Nat.reduceMul, Nat.reduceLeDiff, Nat.reduceLT, Nat.reduceEqDiff, Nat.reduceBneDiff, Int.reduceLE, Int.reduceLT, Int.reduceToNat, Int.reduceBEq, Int.reduceBNe, Int.reduceAdd, Int.reduceSub, Int.cast_ofNat_Int]
  refine callA_tt W1 ?_
  cases b1 with
  | false => simp (maxSteps := 1000000) -implicitDefEqProofs only [Bool.false_and, go_sem, awp_seq, Nat.reduceBNe, Nat.reduceBEq, Nat.reduceAdd, Nat.reduceSub, Nat.reduceMul, Nat.reduceLeDiff, Nat.reduceLT, Nat.reduceEqDiff, Nat.reduceBneDiff, Int.reduceLE, Int.reduceLT, Int.reduceToNat, Int.reduceBEq, Int.reduceBNe, Int.reduceAdd, Int.reduceSub, Int.cast_ofNat_Int]
  | true =>
    simp (maxSteps := 1000000) -implicitDefEqProofs only [Bool.true_and, go_sem, awp_seq, Nat.reduceBNe, Nat.reduceBEq, Nat.reduceAdd, Nat.reduceSub, Nat.reduceMul, Nat.reduceLeDiff, Nat.reduceLT, Nat.reduceEqDiff, Nat.reduceBneDiff, Int.reduceLE, Int.reduceLT, Int.reduceToNat, Int.reduceBEq, Int.reduceBNe, Int.reduceAdd, Int.reduceSub, Int.cast_ofNat_Int]
    refine callA_tt W2 ?_
    simp (maxSteps := 1000000) -implicitDefEqProofs only [go_sem, awp_seq, Nat.reduceBNe, Nat.reduceBEq, Nat.reduceAdd, Nat.reduceSub, Nat.reduceMul, Nat.reduceLeDiff, Nat.reduceLT, Nat.reduceEqDiff, Nat.reduceBneDiff, Int.reduceLE, Int.reduceLT, Int.reduceToNat, Int.reduceBEq, Int.reduceBNe, Int.reduceAdd, Int.reduceSub, Int.cast_ofNat_Int]
set_option maxHeartbeats 1000000 in
theorem key6_c (it : ItV) (h : IOK it) (h1 : it.kind ≠ 1) (h2 : it.kind ≠ 2) (h3 : it.kind ≠ 3) (h4 : it.kind ≠ 4) (h5 : it.kind ≠ 5) : AT 42 [itA it] (boo (decide ((1 : Int) ≤ it.rubric))) := by
  have k1 : (it.kind == 1) = false := by simpa using h1
  have k2 : (it.kind == 2) = false := by simpa using h2
  have k3 : (it.kind == 3) = false := by simpa using h3
  have k4 : (it.kind == 4) = false := by simpa using h4
  have k5 : (it.kind == 5) = false := by simpa using h5
  have L := last_wrap it h
  refine ACalls.of ⟨82, [], []⟩ (fn := Tryz.f42) Tryz.func42 rfl rfl rfl (by kernel_rfl) (by kernel_rfl) (Nat.le_of_ble_eq_true rfl) ?_
  simp (maxSteps := 1000000) -implicitDefEqProofs only [List.length_map, L, k1, k2, k3, k4, k5, go_sem, awp_seq, Nat.reduceBNe, Nat.reduceBEq, Nat.reduceAdd, Nat.reduceSub, Nat.reduceMul, Nat.reduceLeDiff, Nat.reduceLT, Nat.reduceEqDiff, Nat.reduceBneDiff, Int.reduceLE, Int.reduceLT, Int.reduceToNat, Int.reduceBEq, Int.reduceBNe, Int.reduceAdd, Int.reduceSub, Int.cast_ofNat_Int]
set_option maxHeartbeats 2000000 in
theorem key5_c (it : ItV) (h : IOK it) (hk : it.kind = 5) : AT 42 [itA it] (boo (txtsB it.texts)) := by
  have k1 : (it.kind == 1) = false := by rw [hk]; rfl
  have k2 : (it.kind == 2) = false := by rw [hk]; rfl
  have k3 : (it.kind == 3) = false := by rw [hk]; rfl
  have k4 : (it.kind == 4) = false := by rw [hk]; rfl
  have k5 : (it.kind == 5) = true := by rw [hk]; rfl
  have L := last_wrap it h
  have bad : ∀ k, k < it.texts.length → txtAt it.texts k = false → (List.range it.texts.length).all (txtAt it.texts) = false := fun k hk hb => by
    rw [List.all_eq_false]; exact ⟨k, List.mem_range.2 hk, by simp [hb]⟩
  have good : (∀ k, k < it.texts.length → txtAt it.texts k = true) → (List.range it.texts.length).all (txtAt it.texts) = true := fun hh => by
    rw [List.all_eq_true]; exact fun k hk => hh k (List.mem_range.1 hk)
  have tl : ∀ k (hk : k < it.texts.length), it.texts[k].length ≤ 2000000 := fun k hk => h.textl _ (List.getElem_mem hk)
  have tn := h.texts
  unfold txtsB
  generalize (List.range it.texts.length).all (txtAt it.texts) = R at *
  refine ACalls.of ⟨82, [], []⟩ (fn := Tryz.f42) Tryz.func42 rfl rfl rfl (by kernel_rfl) (by kernel_rfl) (Nat.le_of_ble_eq_true rfl) ?_
  simp (maxSteps := 1000000) -implicitDefEqProofs only [List.length_map, L, k1, k2, k3, k4, k5, go_sem, awp_seq, Nat.reduceBNe, Nat.reduceBEq, Nat.reduceAdd, Nat.reduceSub, Nat.reduceMul, Nat.reduceLeDiff, Nat.reduceLT, Nat.reduceEqDiff, Nat.reduceBneDiff, Int.reduceLE, Int.reduceLT, Int.reduceToNat, Int.reduceBEq, Int.reduceBNe, Int.reduceAdd, Int.reduceSub, Int.cast_ofNat_Int]
  refine loop_mk (α := {k : Nat // k ≤ it.texts.length ∧ ∀ i, i < k → txtAt it.texts i = true}) (fun k => [(0, some (.av (itA it))), (1, some (.ref 1 0)), (2, some (.av (boo false))), (79, some (.av (strs it.texts))), (80, some (.av (i64 (it.texts.length : Nat)))), (81, some (.av (i64 (k.1 : Nat))))]) (fun _ => [(1, itC it)]) (fun _ => []) (fun k => it.texts.length - k.1) ⟨0, Nat.zero_le _, fun i hi => by omega⟩ ?_ ?_
  · simp (maxSteps := 1000000) -implicitDefEqProofs only [List.length_map, go_sem, awp_seq, Nat.reduceBNe, Nat.reduceBEq, Nat.reduceAdd, Nat.reduceSub, Nat.reduceMul, Nat.reduceLeDiff, Nat.reduceLT, Nat.reduceEqDiff, Nat.reduceBneDiff, Int.reduceLE, Int.reduceLT, Int.reduceToNat, Int.reduceBEq, Int.reduceBNe, Int.reduceAdd, Int.reduceSub, Int.cast_ofNat_Int]
  · rintro ⟨k, hk, hall⟩
    by_cases hlt : k < it.texts.length
    · have g1 : decide (((k : Nat) : Int) < (it.texts.length : Nat)) = true := by simp; omega
      have e1 := map_get (fun x => str x) it.texts hlt
      have w1 : IntKind.i64.wrap ((k : Int) + 1) = ((k + 1 : Nat) : Int) := by rw [IntWalk.i64_in _ (by omega)]; omega
      have W := normalized_c it.texts[k] (tl k hlt)
      have hr : txtAt it.texts k = (normB it.texts[k] && !(decide ((0 : Int) < (k : Nat)) && sle it.texts[k] (it.texts[k - 1]?.getD []))) := by simp [txtAt, hlt]
      have b0 := bad k hlt
      have ok1 : txtAt it.texts k = true → ∀ i, i < k + 1 → txtAt it.texts i = true := fun hh i hik => by
        by_cases he : i = k
        · subst he; exact hh
        · exact hall i (by omega)
      rw [hr] at b0 ok1
      generalize normB it.texts[k] = wb at *
      cases wb with
      | false =>
        have e := b0 rfl
        subst e
        simp (maxSteps := 1000000) -implicitDefEqProofs only [g1, e1, Int.toNat_natCast, Int.natCast_nonneg, go_sem, awp_seq, Nat.reduceBNe, Nat.reduceBEq, Nat.reduceAdd, Nat.reduceSub, Nat.reduceMul, Nat.reduceLeDiff, Nat.reduceLT, Nat.reduceEqDiff, Nat.reduceBneDiff, Int.reduceLE, Int.reduceLT, Int.reduceToNat, Int.reduceBEq, Int.reduceBNe, Int.reduceAdd, Int.reduceSub, Int.cast_ofNat_Int]
        refine callA_tt W ?_
        simp (maxSteps := 1000000) -implicitDefEqProofs only [Bool.false_and, go_sem, awp_seq, Nat.reduceBNe, Nat.reduceBEq, Nat.reduceAdd, Nat.reduceSub, Nat.reduceMul, Nat.reduceLeDiff, Nat.reduceLT, Nat.reduceEqDiff, Nat.reduceBneDiff, Int.reduceLE, Int.reduceLT, Int.reduceToNat, Int.reduceBEq, Int.reduceBNe, Int.reduceAdd, Int.reduceSub, Int.cast_ofNat_Int]
      | true =>
        cases c1 : decide ((0 : Int) < (k : Nat)) with
        | false =>
          simp (maxSteps := 1000000) -implicitDefEqProofs only [g1, e1, Int.toNat_natCast, Int.natCast_nonneg, go_sem, awp_seq, Nat.reduceBNe, Nat.reduceBEq, Nat.reduceAdd, Nat.reduceSub, Nat.reduceMul, Nat.reduceLeDiff, Nat.reduceLT, Nat.reduceEqDiff, Nat.reduceBneDiff, Int.reduceLE, Int.reduceLT, Int.reduceToNat, Int.reduceBEq, Int.reduceBNe, Int.reduceAdd, Int.reduceSub, Int.cast_ofNat_Int]
          refine callA_tt W ?_
          simp (maxSteps := 1000000) -implicitDefEqProofs only [c1, w1, go_sem, awp_seq, Nat.reduceBNe, Nat.reduceBEq, Nat.reduceAdd, Nat.reduceSub, Nat.reduceMul, Nat.reduceLeDiff, Nat.reduceLT, Nat.reduceEqDiff, Nat.reduceBneDiff, Int.reduceLE, Int.reduceLT, Int.reduceToNat, Int.reduceBEq, Int.reduceBNe, Int.reduceAdd, Int.reduceSub, Int.cast_ofNat_Int]
          refine roundK_mk ⟨k + 1, by omega, ok1 (by rw [c1]; rfl)⟩ ?_ (by show it.texts.length - (k + 1) < it.texts.length - k; omega)
          simp (maxSteps := 1000000) -implicitDefEqProofs only [go_sem, awp_seq, Nat.reduceBNe, Nat.reduceBEq, Nat.reduceAdd, Nat.reduceSub, Nat.reduceMul, Nat.reduceLeDiff, Nat.reduceLT, Nat.reduceEqDiff, Nat.reduceBneDiff, Int.reduceLE, Int.reduceLT, Int.reduceToNat, Int.reduceBEq, Int.reduceBNe, Int.reduceAdd, Int.reduceSub, Int.cast_ofNat_Int]
        | true =>
          have hk0 : 0 < k := by simpa using c1
          have w2 : IntKind.i64.wrap ((k : Int) - 1) = ((k - 1 : Nat) : Int) := by rw [IntWalk.i64_in _ (by omega)]; omega
          have e3 := map_get (fun x => str x) it.texts (show k - 1 < it.texts.length by omega)
          have e4 : it.texts[k - 1]? = some (it.texts[k - 1]'(by omega)) := List.getElem?_eq_getElem (by omega)
          rw [e4] at b0 ok1
          simp only [Option.getD_some] at b0 ok1
          generalize it.texts[k - 1]'(by omega) = y at *
          generalize it.texts[k] = x at *
          cases c2 : sle x y with
          | true =>
            have e := b0 (by rw [c1, c2]; rfl)
            subst e
            have c3 : (Op.bytesLess x y || x == y) = true := c2
            simp (maxSteps := 1000000) -implicitDefEqProofs only [g1, e1, Int.toNat_natCast, Int.natCast_nonneg, go_sem, awp_seq, Nat.reduceBNe, Nat.reduceBEq, Nat.reduceAdd, Nat.reduceSub, Nat.reduceMul, Nat.reduceLeDiff, Nat.reduceLT, Nat.reduceEqDiff, Nat.reduceBneDiff, Int.reduceLE, Int.reduceLT, Int.reduceToNat, Int.reduceBEq, Int.reduceBNe, Int.reduceAdd, Int.reduceSub, Int.cast_ofNat_Int]
            refine callA_tt W ?_
            simp (maxSteps := 1000000) -implicitDefEqProofs only [c1, w2, e3, toList_bs, c3, Bool.false_and, Int.toNat_natCast, Int.natCast_nonneg, go_sem, awp_seq, Nat.reduceBNe, Nat.reduceBEq, Nat.reduceAdd, Nat.reduceSub, Nat.reduceMul, Nat.reduceLeDiff, Nat.reduceLT, Nat.reduceEqDiff, Nat.reduceBneDiff, Int.reduceLE, Int.reduceLT, Int.reduceToNat, Int.reduceBEq, Int.reduceBNe, Int.reduceAdd, Int.reduceSub, Int.cast_ofNat_Int]
          | false =>
            have c3 : (Op.bytesLess x y || x == y) = false := c2
            simp (maxSteps := 1000000) -implicitDefEqProofs only [g1, e1, Int.toNat_natCast, Int.natCast_nonneg, go_sem, awp_seq, Nat.reduceBNe, Nat.reduceBEq, Nat.reduceAdd, Nat.reduceSub, Nat.reduceMul, Nat.reduceLeDiff, Nat.reduceLT, Nat.reduceEqDiff, Nat.reduceBneDiff, Int.reduceLE, Int.reduceLT, Int.reduceToNat, Int.reduceBEq, Int.reduceBNe, Int.reduceAdd, Int.reduceSub, Int.cast_ofNat_Int]
            refine callA_tt W ?_
            simp (maxSteps := 1000000) -implicitDefEqProofs only [c1, w1, w2, e3, toList_bs, c3, Int.toNat_natCast, Int.natCast_nonneg, go_sem, awp_seq, Nat.reduceBNe, Nat.reduceBEq, Nat.reduceAdd, Nat.reduceSub, Nat.reduceMul, Nat.reduceLeDiff, Nat.reduceLT, Nat.reduceEqDiff, Nat.reduceBneDiff, Int.reduceLE, Int.reduceLT, Int.reduceToNat, Int.reduceBEq, Int.reduceBNe, Int.reduceAdd, Int.reduceSub, Int.cast_ofNat_Int]
            refine roundK_mk ⟨k + 1, by omega, ok1 (by rw [c1, c2]; rfl)⟩ ?_ (by show it.texts.length - (k + 1) < it.texts.length - k; omega)
            simp (maxSteps := 1000000) -implicitDefEqProofs only [go_sem, awp_seq, Nat.reduceBNe, Nat.reduceBEq, Nat.reduceAdd, Nat.reduceSub, Nat.reduceMul, Nat.reduceLeDiff, Nat.reduceLT, Nat.reduceEqDiff, Nat.reduceBneDiff, Int.reduceLE, Int.reduceLT, Int.reduceToNat, Int.reduceBEq, Int.reduceBNe, Int.reduceAdd, Int.reduceSub, Int.cast_ofNat_Int]
    · have g1 : decide (((k : Nat) : Int) < (it.texts.length : Nat)) = false := by simp; omega
      have e := good (fun i hi => hall i (by omega))
      subst e
      simp (maxSteps := 1000000) -implicitDefEqProofs only [g1, List.length_map, Bool.true_and, go_sem, awp_seq, Nat.reduceBNe, Nat.reduceBEq, Nat.reduceAdd, Nat.reduceSub, Nat.reduceMul, Nat.reduceLeDiff, Nat.reduceLT, Nat.reduceEqDiff, Nat.reduceBneDiff, Int.reduceLE, Int.reduceLT, Int.reduceToNat, Int.reduceBEq, Int.reduceBNe, Int.reduceAdd, Int.reduceSub, Int.cast_ofNat_Int]
theorem validKey_c (it : ItV) (h : IOK it) : AT 42 [itA it] (boo (keyB it)) := by
  by_cases h1 : it.kind = 1
  · have e : keyB it = key1 it := by simp [keyB, h1]
    rw [e]; exact key1_c it h h1
  by_cases h2 : it.kind = 2
  · have e : keyB it = key2 it := by simp [keyB, h2]
    rw [e]; exact key2_c it h h2
  by_cases h3 : it.kind = 3
  · have e : keyB it = key3 it := by simp [keyB, h3]
    rw [e]; exact key3_c it h h3
  by_cases h4 : it.kind = 4
  · have e : keyB it = key4 it := by simp [keyB, h4]
    rw [e]; exact key4_c it h h4
  by_cases h5 : it.kind = 5
  · have e : keyB it = txtsB it.texts := by simp [keyB, h5]
    rw [e]; exact key5_c it h h5
  have k1 : (it.kind == 1) = false := by simpa using h1
  have k2 : (it.kind == 2) = false := by simpa using h2
  have k3 : (it.kind == 3) = false := by simpa using h3
  have k4 : (it.kind == 4) = false := by simpa using h4
  have k5 : (it.kind == 5) = false := by simpa using h5
  have e : keyB it = decide ((1 : Int) ≤ it.rubric) := by simp only [keyB, k1, k2, k3, k4, k5, cond_false]
  rw [e]; exact key6_c it h h1 h2 h3 h4 h5
/-- The first error of an item. -/
def itemE (it : ItV) : Int :=
  bif !numsB it then 3 else bif !withinB it.kind 1 6 then 1 else bif !strB it then 2 else
    bif decide ((10 : Int) < (it.opts.length : Nat)) || decide ((10 : Int) < (it.texts.length : Nat)) || decide ((8 : Int) < (it.assets.length : Nat)) then 5 else
      bif !onlyB it || !keyB it then 19 else bif !risB 1 9999999 it.assets then 23 else 0
set_option maxHeartbeats 2000000 in
theorem itemValid_c (it : ItV) (h : IOK it) : AC 16 [itA it] (i64 (itemE it)) := by
  have W1 := validNumbers_c it
  have W2 := within_c it.kind 1 6
  have W3 := validStrings_c it h
  have W4 := onlyKey_c it
  have W5 := validKey_c it h
  have W6 := rising_c it.assets 1 9999999 (by have := h.assets; omega)
  unfold itemE
  generalize numsB it = b1 at *
  generalize withinB it.kind 1 6 = b2 at *
  generalize strB it = b3 at *
  generalize onlyB it = b4 at *
  generalize keyB it = b5 at *
  generalize risB 1 9999999 it.assets = b6 at *
  refine ACalls.of ⟨3, [], []⟩ (fn := Tryz.f16) Tryz.func16 rfl rfl rfl (by kernel_rfl) (by kernel_rfl) (Nat.le_of_ble_eq_true rfl) ?_
  simp (maxSteps := 1000000) -implicitDefEqProofs only [List.length_map, go_sem, awp_seq, Nat.reduceBNe, Nat.reduceBEq, Nat.reduceAdd, Nat.reduceSub, Nat.reduceMul, Nat.reduceLeDiff, Nat.reduceLT, Nat.reduceEqDiff, Nat.reduceBneDiff, Int.reduceLE, Int.reduceLT, Int.reduceToNat, Int.reduceBEq, Int.reduceBNe, Int.reduceAdd, Int.reduceSub, Int.cast_ofNat_Int]
  refine callA_t W1 ?_
  cases b1 with
  | false => simp (maxSteps := 1000000) -implicitDefEqProofs only [Bool.not_false, go_sem, awp_seq, Nat.reduceBNe, Nat.reduceBEq, Nat.reduceAdd, Nat.reduceSub, Nat.reduceMul, Nat.reduceLeDiff, Nat.reduceLT, Nat.reduceEqDiff, Nat.reduceBneDiff, Int.reduceLE, Int.reduceLT, Int.reduceToNat, Int.reduceBEq, Int.reduceBNe, Int.reduceAdd, Int.reduceSub, Int.cast_ofNat_Int]
  | true =>
  simp (maxSteps := 1000000) -implicitDefEqProofs only [List.length_map, Bool.not_true, go_sem, awp_seq, Nat.reduceBNe, Nat.reduceBEq, Nat.reduceAdd, Nat.reduceSub, Nat.reduceMul, Nat.reduceLeDiff, Nat.reduceLT, Nat.reduceEqDiff, Nat.reduceBneDiff, Int.reduceLE, Int.reduceLT, Int.reduceToNat, Int.reduceBEq, Int.reduceBNe, Int.reduceAdd, Int.reduceSub, Int.cast_ofNat_Int]
  refine callA_t W2 ?_
  cases b2 with
  | false => simp (maxSteps := 1000000) -implicitDefEqProofs only [Bool.not_false, go_sem, awp_seq, Nat.reduceBNe, Nat.reduceBEq, Nat.reduceAdd, Nat.reduceSub, Nat.reduceMul, Nat.reduceLeDiff, Nat.reduceLT, Nat.reduceEqDiff, Nat.reduceBneDiff, Int.reduceLE, Int.reduceLT, Int.reduceToNat, Int.reduceBEq, Int.reduceBNe, Int.reduceAdd, Int.reduceSub, Int.cast_ofNat_Int]
  | true =>
  simp (maxSteps := 1000000) -implicitDefEqProofs only [List.length_map, Bool.not_true, go_sem, awp_seq, Nat.reduceBNe, Nat.reduceBEq, Nat.reduceAdd, Nat.reduceSub, Nat.reduceMul, Nat.reduceLeDiff, Nat.reduceLT, Nat.reduceEqDiff, Nat.reduceBneDiff, Int.reduceLE, Int.reduceLT, Int.reduceToNat, Int.reduceBEq, Int.reduceBNe, Int.reduceAdd, Int.reduceSub, Int.cast_ofNat_Int]
  refine callA_mk W3 ?_
  cases b3 with
  | false => simp (maxSteps := 1000000) -implicitDefEqProofs only [Bool.not_false, go_sem, awp_seq, Nat.reduceBNe, Nat.reduceBEq, Nat.reduceAdd, Nat.reduceSub, Nat.reduceMul, Nat.reduceLeDiff, Nat.reduceLT, Nat.reduceEqDiff, Nat.reduceBneDiff, Int.reduceLE, Int.reduceLT, Int.reduceToNat, Int.reduceBEq, Int.reduceBNe, Int.reduceAdd, Int.reduceSub, Int.cast_ofNat_Int]
  | true =>
  simp (maxSteps := 1000000) -implicitDefEqProofs only [List.length_map, Bool.not_true, go_sem, awp_seq, Nat.reduceBNe, Nat.reduceBEq, Nat.reduceAdd, Nat.reduceSub, Nat.reduceMul, Nat.reduceLeDiff, Nat.reduceLT, Nat.reduceEqDiff, Nat.reduceBneDiff, Int.reduceLE, Int.reduceLT, Int.reduceToNat, Int.reduceBEq, Int.reduceBNe, Int.reduceAdd, Int.reduceSub, Int.cast_ofNat_Int]
  cases c1 : decide ((10 : Int) < (it.opts.length : Nat)) with
  | true => simp (maxSteps := 1000000) -implicitDefEqProofs only [c1, List.length_map, Bool.true_or, go_sem, awp_seq, Nat.reduceBNe, Nat.reduceBEq, Nat.reduceAdd, Nat.reduceSub, Nat.reduceMul, Nat.reduceLeDiff, Nat.reduceLT, Nat.reduceEqDiff, Nat.reduceBneDiff, Int.reduceLE, Int.reduceLT, Int.reduceToNat, Int.reduceBEq, Int.reduceBNe, Int.reduceAdd, Int.reduceSub, Int.cast_ofNat_Int]
  | false =>
  cases c2 : decide ((10 : Int) < (it.texts.length : Nat)) with
  | true => simp (maxSteps := 1000000) -implicitDefEqProofs only [c1, c2, List.length_map, Bool.true_or, Bool.or_true, Bool.false_or, go_sem, awp_seq, Nat.reduceBNe, Nat.reduceBEq, Nat.reduceAdd, Nat.reduceSub, Nat.reduceMul, Nat.reduceLeDiff, Nat.reduceLT, Nat.reduceEqDiff, Nat.reduceBneDiff, Int.reduceLE, Int.reduceLT, Int.reduceToNat, Int.reduceBEq, Int.reduceBNe, Int.reduceAdd, Int.reduceSub, Int.cast_ofNat_Int]
  | false =>
  cases c3 : decide ((8 : Int) < (it.assets.length : Nat)) with
  | true => simp (maxSteps := 1000000) -implicitDefEqProofs only [c1, c2, c3, List.length_map, Bool.true_or, Bool.or_true, Bool.false_or, go_sem, awp_seq, Nat.reduceBNe, Nat.reduceBEq, Nat.reduceAdd, Nat.reduceSub, Nat.reduceMul, Nat.reduceLeDiff, Nat.reduceLT, Nat.reduceEqDiff, Nat.reduceBneDiff, Int.reduceLE, Int.reduceLT, Int.reduceToNat, Int.reduceBEq, Int.reduceBNe, Int.reduceAdd, Int.reduceSub, Int.cast_ofNat_Int]
  | false =>
  simp (maxSteps := 1000000) -implicitDefEqProofs only [c1, c2, c3, List.length_map, Bool.or_false, Bool.false_or, go_sem, awp_seq, Nat.reduceBNe, Nat.reduceBEq, Nat.reduceAdd, Nat.reduceSub, Nat.reduceMul, Nat.reduceLeDiff, Nat.reduceLT, Nat.reduceEqDiff, Nat.reduceBneDiff, Int.reduceLE, Int.reduceLT, Int.reduceToNat, Int.reduceBEq, Int.reduceBNe, Int.reduceAdd, Int.reduceSub, Int.cast_ofNat_Int]
  refine callA_t W4 ?_
  cases b4 with
  | false => simp (maxSteps := 1000000) -implicitDefEqProofs only [Bool.not_false, Bool.true_or, go_sem, awp_seq, Nat.reduceBNe, Nat.reduceBEq, Nat.reduceAdd, Nat.reduceSub, Nat.reduceMul, Nat.reduceLeDiff, Nat.reduceLT, Nat.reduceEqDiff, Nat.reduceBneDiff, Int.reduceLE, Int.reduceLT, Int.reduceToNat, Int.reduceBEq, Int.reduceBNe, Int.reduceAdd, Int.reduceSub, Int.cast_ofNat_Int]
  | true =>
  simp (maxSteps := 1000000) -implicitDefEqProofs only [Bool.not_true, Bool.false_or, go_sem, awp_seq, Nat.reduceBNe, Nat.reduceBEq, Nat.reduceAdd, Nat.reduceSub, Nat.reduceMul, Nat.reduceLeDiff, Nat.reduceLT, Nat.reduceEqDiff, Nat.reduceBneDiff, Int.reduceLE, Int.reduceLT, Int.reduceToNat, Int.reduceBEq, Int.reduceBNe, Int.reduceAdd, Int.reduceSub, Int.cast_ofNat_Int]
  refine callA_t W5 ?_
  cases b5 with
  | false => simp (maxSteps := 1000000) -implicitDefEqProofs only [Bool.not_false, Bool.true_or, Bool.or_true, go_sem, awp_seq, Nat.reduceBNe, Nat.reduceBEq, Nat.reduceAdd, Nat.reduceSub, Nat.reduceMul, Nat.reduceLeDiff, Nat.reduceLT, Nat.reduceEqDiff, Nat.reduceBneDiff, Int.reduceLE, Int.reduceLT, Int.reduceToNat, Int.reduceBEq, Int.reduceBNe, Int.reduceAdd, Int.reduceSub, Int.cast_ofNat_Int]
  | true =>
  simp (maxSteps := 1000000) -implicitDefEqProofs only [Bool.not_true, Bool.false_or, go_sem, awp_seq, Nat.reduceBNe, Nat.reduceBEq, Nat.reduceAdd, Nat.reduceSub, Nat.reduceMul, Nat.reduceLeDiff, Nat.reduceLT, Nat.reduceEqDiff, Nat.reduceBneDiff, Int.reduceLE, Int.reduceLT, Int.reduceToNat, Int.reduceBEq, Int.reduceBNe, Int.reduceAdd, Int.reduceSub, Int.cast_ofNat_Int]
  refine callA_t W6 ?_
  cases b6 with
  | false => simp (maxSteps := 1000000) -implicitDefEqProofs only [Bool.not_false, go_sem, awp_seq, Nat.reduceBNe, Nat.reduceBEq, Nat.reduceAdd, Nat.reduceSub, Nat.reduceMul, Nat.reduceLeDiff, Nat.reduceLT, Nat.reduceEqDiff, Nat.reduceBneDiff, Int.reduceLE, Int.reduceLT, Int.reduceToNat, Int.reduceBEq, Int.reduceBNe, Int.reduceAdd, Int.reduceSub, Int.cast_ofNat_Int]
  | true => simp (maxSteps := 1000000) -implicitDefEqProofs only [Bool.not_true, go_sem, awp_seq, Nat.reduceBNe, Nat.reduceBEq, Nat.reduceAdd, Nat.reduceSub, Nat.reduceMul, Nat.reduceLeDiff, Nat.reduceLT, Nat.reduceEqDiff, Nat.reduceBneDiff, Int.reduceLE, Int.reduceLT, Int.reduceToNat, Int.reduceBEq, Int.reduceBNe, Int.reduceAdd, Int.reduceSub, Int.cast_ofNat_Int]
end Go.Proofs.YtkmicjpoekbhfaaGreatDoor

/- Chapter 40: slices.Clone and slices.Sort at a row of the caller's own. INTS -/
set_option linter.unusedSimpArgs false
set_option linter.unusedVariables false
namespace Go.Proofs.YtkmicjpoekbhfaaGreatDoor
open Go.RowKit Go.Shelf Lim

section
variable {P : Program} (w : World)
/-- append to a slice without room, whose address is known: what lies in the new row is told whole. -/
theorem wpList_append_zero {ops : Array Oper} {rest : List Oper} {o : Oper} {a : Act} {Q : Exit → Act → World → Prop} (hgd : o.guard = none) (s x : Operand) (t : TypeId)
    (ho : o.op = .call { callee := .builtin .append, args := #[s, x], argTypes := #[t, t] })
    (e : TypeId) (i : TypeInfo) (z : Value) (ht : P.underlying t = some (.slice e)) (hi : P.info? e = some i) (hz : i.zero = some z) (hsize : i.size = 1) (hby : i.bytes = 8)
    (g : Nat) (hs : a.eval s = .slice (some ⟨g, 0, none⟩) 0 0) (ad : Addr) (m c : Nat) (news : List Value) (hx : a.eval x = .slice (some ad) m c) (hl : news.length = m) (h0 : 0 < m) (hm : m ≤ 1000000000) (hnews : ∀ j u, news[j]? = some u → w.cell? (ad.add j) = some u)
    (h : wpList P ops Q rest (a.put o.dst (.slice (some ⟨w.heap.size, 0, none⟩) m (grownCap w m 0 e))) (w.drew.alloc (.cells (news.toArray ++ Builtin.zeroCells z.cells (grownCap w m 0 e - m)) e))) :
    wpList P ops Q (o :: rest) a w := by
  refine wpList_plain hgd fun K hK => ?_
  have hr := run_append_grow (P := P) w t o.type e i z ht hi hz ⟨g, 0, none⟩ 0 0 [] (by simp) (fun j v hj => by simp at hj) ad m c news (by rw [hl, hsize, Nat.mul_one]) hnews (by omega) (by omega) (by rw [hby]; exact growslice_fits (by omega) (by omega))
  have e0 : ([] : List Value).toArray ++ news.toArray = news.toArray := by simp
  rw [Nat.zero_add, e0] at hr
  unfold Oper.wp execOp
  simp only [ho, resolve, invoke, builtin, Sem.run_bind, Sem.run_pure, Result.andThen_ok, List.map_toArray, List.map_cons, List.map_nil, hs, hx, hr]
  refine hK _ _ ?_
  simpa using h
end
set_option maxHeartbeats 2000000 in
set_option maxRecDepth 100000 in
theorem clone_any (b off n c : Nat) (zs : List Int) (w : World) (hn : zs.length = n) (h0 : 0 < n) (hbig : n ≤ 1000000000) (hc : ∀ j (hj : j < zs.length), w.cell? ⟨b, off + j, none⟩ = some (.int .i64 zs[j])) (hb : b < w.heap.size) :
    Calls Tryz.prog 27 #[.slice (some ⟨b, off, none⟩) n c] w fun e w' => ∃ g cap cur, e = .returned (.slice (some ⟨g, 0, none⟩) n cap) ∧ Below w.heap.size w w' ∧ w.heap.size ≤ g ∧ w'.heap[g]? = some (.cells cur 3 (0, 0)) ∧ cur.size = cap ∧ n ≤ cap ∧ cap ≤ maxLen ∧ cur.toList.take n = zs.map (Value.int .i64) ∧ ∀ c ∈ cur.toList, noLimb c = true := by
  obtain ⟨i0, hi, hz0, hz1, hz2⟩ := info_parts infoI
  have q22 : ∀ (w : World) (a : Option Addr) (n c n' c' : Nat), (binOp .eql 23 (.slice a n c) (.slice none n' c')).run Tryz.prog w = .ok (.bool a.isNone) w := fun w a n c n' c' => Lib.run_eql_slice_nil w _ _ a n c n' c' Tryz.underlying23
  go_enter Tryz.func27, Tryz.ntmps27
  go_wp2_with (at_builtin; refine wpList_append_zero _ rfl _ _ 23 rfl 3 i0 (.int .i64 0) Tryz.underlying23 hi hz0 hz1 hz2 w.heap.size rfl ⟨b, off, none⟩ n c (zs.map (Value.int .i64)) rfl (by simpa using hn) h0 hbig ?q1 ?_)
  case q1 =>
    intro j u hj
    have hjl := (List.getElem?_eq_some_iff.1 hj).1
    simp at hjl
    rw [Addr.add_lit]
    refine Lib.cell?_alloc_some _ ?_
    rw [hc j hjl]
    simpa [hjl] using hj
  go_wp2
  go_ret
  have hb1 : Below w.heap.size w (w.alloc (.cells #[] 3)) := (Below.refl _ w).alloc (Nat.le_refl _) _
  have hge := grownCap_ge (w.alloc (.cells #[] 3)) n 0 3
  have hle := grownCap_le_maxLen (w.alloc (.cells #[] 3)) n 0 3 (by rw [maxLen_eq]; omega)
  generalize grownCap (w.alloc (.cells #[] 3)) n 0 3 = cp at *
  have hz : Builtin.zeroCells #[Value.int .i64 0] (cp - n) = Array.replicate (cp - n) (Value.int .i64 0) := by
    apply Array.ext
    · simp [Builtin.zeroCells]
    · intro i h1 h2
      simp [Builtin.zeroCells, Nat.mod_one]
  rw [hz]
  have hnew := World.alloc_heap_new (w.alloc (.cells #[] 3)) (.cells ((List.map (Value.int .i64) zs).toArray ++ Array.replicate (cp - n) (Value.int .i64 0)) 3)
  rw [World.size_alloc] at hnew
  refine ⟨w.heap.size + 1, cp, _, rfl, (hb1.alloc (by simp) _).drew, by omega, hnew, by simp; omega, hge, hle, ?_, ?_⟩
  · rw [Array.toList_append]
    exact List.take_left' (by simpa using hn)
  · intro c hc
    simp only [Array.toList_append, List.mem_append, List.mem_map, Array.toList_replicate, List.mem_replicate] at hc
    rcases hc with ⟨x, _, rfl⟩ | ⟨_, rfl⟩
    · rfl
    · rfl
/-- Numbers in a row of the call's own. -/
theorem own_ints {w : World} {Z : Zone} {g cap : Nat} {cur : Array Value} {l : List Int} (h1 : w.heap[g]? = some (.cells cur 3 (0, 0))) (h2 : cur.size = cap) (h3 : l.length ≤ cap) (h4 : cap ≤ maxLen) (h5 : ∀ o, ¬ Z g o) (h6 : cur.toList.take l.length = l.map (Value.int .i64)) (h7 : ∀ c ∈ cur.toList, noLimb c = true) : Own w Z g cap (.row 3 1 (l.map (fun x => i64 x))) := by
  refine ⟨cur, h1, by omega, by simpa using h3, h4, by omega, h5, h7, fun i hi => ?_⟩
  have hi' : i < l.length := by simpa using hi
  have e1 : (l.map (fun x => i64 x))[i]'hi = i64 l[i] := by simp
  rw [e1]
  refine ⟨rfl, rfl, fun j hj => ?_⟩
  have hj' : j = 0 := by simp [AV.cells] at hj; exact hj
  subst hj'
  refine ⟨.int .i64 l[i], ?_, .lit rfl⟩
  have : (cur.toList.take l.length)[i]? = (l.map (Value.int .i64))[i]? := by rw [h6]
  rw [List.getElem?_take_of_lt hi'] at this
  simpa [hi'] using this
/-- slices.Clone hands back a new row. -/
theorem clone_l (l : List Int) (hl : l.length ≤ 1000000000) (h0 : l ≠ []) : LCalls ctx.t 27 [.av (ints l)] (ofL []) (ofL []) (.osl 0 1 0 (l.map (fun x => i64 x)).length) (ofL []) (ofL [(0, .row 3 1 (l.map (fun x => i64 x)))]) := by
  refine LCalls.fresh (C := ctx) (args := [ints l]) (by exact ⟨Tryz.f27, Tryz.func27, by kernel_rfl, rfl⟩) fun w Z vs hE hz hr => ?_
  obtain ⟨_, rfl, h1⟩ := reps1 hr
  rcases rep_row1 (fun x : Int => Value.int .i64 x) h1 with ⟨rfl, _⟩ | ⟨b, off, c, rfl, hb, hc, hcell⟩
  · exact absurd rfl h0
  · have hpos : 0 < l.length := by cases l with | nil => exact absurd rfl h0 | cons => simp
    refine (clone_any b off l.length c l w rfl hpos hl hcell hb).mono ?_
    rintro e w' ⟨g, cap, cur, rfl, q1, q2, q3, q4, q5, q6, q7, q8⟩
    refine ⟨g, cap, by simp, q1, q2, own_ints q3 q4 q5 q6 (fun o h => h.2 rfl) q7 q8⟩
/-- slices.Sort writes the row that is lent to it. -/
theorem sort_l (l : List Int) (hl : l.length ≤ 1000000000) : LCalls ctx.t 61 [.osl 0 1 0 l.length] (ofL []) (ofL [(0, .row 3 1 (l.map (fun x => i64 x)))]) (.av (.tup [])) (ofL []) (ofL [(0, .row 3 1 ((sortI l).map (fun x => i64 x)))]) := by
  refine LCalls.row (C := ctx) (by exact ⟨Tryz.f61, Tryz.func61, by kernel_rfl, rfl⟩) fun w Z g cap hE ho => ?_
  obtain ⟨cur, q1, q2, q3, q4, q5, q6, q7, q8⟩ := ho
  have hlt := (Array.getElem?_eq_some_iff.1 q1).1
  have q3 : l.length ≤ cap := by simpa using q3
  rw [Nat.mul_one] at q2
  have ht : cur.toList.take l.length = l.map (Value.int .i64) := by
    apply List.ext_getElem?
    intro j
    by_cases hj : j < l.length
    · rw [List.getElem?_take_of_lt hj]
      obtain ⟨_, _, p3⟩ := q8 j (by simpa using hj)
      obtain ⟨u, p4, p5⟩ := p3 0 (by simp [AV.cells])
      simp only [List.getElem_map, AV.cells, List.getElem_cons_zero] at p5
      rw [p5.lit_eq] at p4
      simp [hj]
      simpa using p4
    · rw [List.getElem?_eq_none (by simp; omega), List.getElem?_eq_none (by simp; omega)]
  refine (Tryz.slices_Sort_int g 0 cap l w (holds_of_blockI q1 ht) hlt (by omega)).mono ?_
  rintro e w' ⟨rfl, nn, os, rfl⟩
  refine ⟨rfl, grownBy_sortedI _, fun Z' hz hout hk => ?_⟩
  refine own_ints (cur := Sort.putCells (Value.int .i64) 0 (sortI l).toArray cur) (heap_sortedI _ q1) (by simp [Sort.putCells]; omega) (by simpa using q3) q4 hout ?_ ?_
  · have := take_putCellsI cur (sortI l) (by simp; omega)
    exact this
  · intro c hc
    obtain ⟨k, hk, rfl⟩ := List.mem_iff_getElem.1 hc
    have hk' : k < cur.size := by simpa [Sort.putCells] using hk
    simp only [Sort.putCells, Array.getElem_toList, Array.getElem_mapIdx]
    split
    · rfl
    · exact q7 _ (by simp)
end Go.Proofs.YtkmicjpoekbhfaaGreatDoor

/- Chapter 40: which answers fit an item. INTS -/
set_option linter.unusedSimpArgs false
set_option linter.unusedVariables false
namespace Go.Proofs.YtkmicjpoekbhfaaGreatDoor
open Go.RowKit Lim

/-- An answer. -/
structure AnsV where
  item : Int
  ch : List Int
  val : Int
  text : List UInt8
  om : Bool
abbrev ansC (a : AnsV) : List AV := [i64 a.item, ints a.ch, i64 a.val, str a.text, boo a.om]
abbrev ansA (a : AnsV) : AV := .agg (ansC a)
structure ANOK (a : AnsV) : Prop where
  ch : a.ch.length ≤ 2000000
  chi : ∀ z ∈ a.ch, inI z
  text : a.text.length ≤ 2000000
  val : inI a.val
def kAt (l : List Int) (i : Nat) : Bool := !decide (l[i]?.getD 0 ≤ l[i - 1]?.getD 0)
/-- Strictly increasing. -/
def krisB (l : List Int) : Bool := (List.range l.length).all (fun i => i == 0 || kAt l i)
theorem krising_c (l : List Int) (hl : l.length < 4611686018427387904) : AT 60 [ints l] (boo (krisB l)) := by
  have bad : ∀ k, 0 < k → k < l.length → kAt l k = false → krisB l = false := fun k h0 hk hb => by
    unfold krisB; rw [List.all_eq_false]; exact ⟨k, List.mem_range.2 hk, by simp [hb]; omega⟩
  have good : (∀ k, 0 < k → k < l.length → kAt l k = true) → krisB l = true := fun hh => by
    unfold krisB; rw [List.all_eq_true]; intro k hk
    have hk := List.mem_range.1 hk
    by_cases h0 : k = 0
    · simp [h0]
    · simp [hh k (by omega) hk]
  generalize krisB l = R at *
  refine ACalls.of ⟨4, [], []⟩ (fn := Tryz.f60) Tryz.func60 rfl rfl rfl (by kernel_rfl) (by kernel_rfl) (Nat.le_of_ble_eq_true rfl) ?_
  simp (maxSteps := 1000000) -implicitDefEqProofs only [List.length_map, go_sem, awp_seq, Nat.reduceBNe, Nat.reduceBEq, Nat.reduceAdd, Nat.reduceSub, Nat.reduceMul, Nat.reduceLeDiff, Nat.reduceLT, Nat.reduceEqDiff, Nat.reduceBneDiff, Int.reduceLE, Int.reduceLT, Int.reduceToNat, Int.reduceBEq, Int.reduceBNe, Int.reduceAdd, Int.reduceSub, Int.cast_ofNat_Int]
  refine loop_mk (α := {k : Nat // 0 < k ∧ (k ≤ l.length ∨ k = 1) ∧ ∀ i, 0 < i → i < k → kAt l i = true}) (fun k => [(0, some (.av (ints l))), (2, some (.av (boo false))), (3, some (.av (i64 (k.1 : Nat))))]) (fun _ => []) (fun _ => []) (fun k => l.length - k.1) ⟨1, by omega, .inr rfl, fun i h1 h2 => by omega⟩ ?_ ?_
  · simp (maxSteps := 1000000) -implicitDefEqProofs only [Int.cast_ofNat_Int, go_sem, awp_seq, Nat.reduceBNe, Nat.reduceBEq, Nat.reduceAdd, Nat.reduceSub, Nat.reduceMul, Nat.reduceLeDiff, Nat.reduceLT, Nat.reduceEqDiff, Nat.reduceBneDiff, Int.reduceLE, Int.reduceLT, Int.reduceToNat, Int.reduceBEq, Int.reduceBNe, Int.reduceAdd, Int.reduceSub, Int.cast_ofNat_Int]
  · rintro ⟨k, hk0, hk, hall⟩
    by_cases hlt : k < l.length
    · have g1 : decide (((k : Nat) : Int) < (l.length : Nat)) = true := by simp; omega
      have e1 := ints_get l k
      rw [List.getElem?_eq_getElem hlt] at e1
      have e3 := ints_get l (k - 1)
      have hk1 : k - 1 < l.length := by omega
      rw [List.getElem?_eq_getElem hk1] at e3
      simp only [Option.map_some] at e1 e3
      have w1 : IntKind.i64.wrap ((k : Int) + 1) = ((k + 1 : Nat) : Int) := by rw [IntWalk.i64_in _ (by omega)]; omega
      have w2 : IntKind.i64.wrap ((k : Int) - 1) = ((k - 1 : Nat) : Int) := by rw [IntWalk.i64_in _ (by omega)]; omega
      have hr : kAt l k = !decide (l[k] ≤ l[k - 1]) := by simp [kAt, hlt, hk1]
      have b0 := bad k hk0 hlt
      have ok1 : kAt l k = true → ∀ i, 0 < i → i < k + 1 → kAt l i = true := fun h i h0 hik => by
        by_cases he : i = k
        · subst he; exact h
        · exact hall i h0 (by omega)
      rw [hr] at b0 ok1
      cases c1 : decide (l[k] ≤ l[k - 1]) with
      | true =>
        have e := b0 (by rw [c1]; rfl)
        subst e
        simp (maxSteps := 1000000) -implicitDefEqProofs only [List.length_map, g1, e1, e3, w2, c1, Int.toNat_natCast, Int.natCast_nonneg, go_sem, awp_seq, Nat.reduceBNe, Nat.reduceBEq, Nat.reduceAdd, Nat.reduceSub, Nat.reduceMul, Nat.reduceLeDiff, Nat.reduceLT, Nat.reduceEqDiff, Nat.reduceBneDiff, Int.reduceLE, Int.reduceLT, Int.reduceToNat, Int.reduceBEq, Int.reduceBNe, Int.reduceAdd, Int.reduceSub, Int.cast_ofNat_Int]
      | false =>
        simp (maxSteps := 1000000) -implicitDefEqProofs only [List.length_map, g1, e1, e3, w1, w2, c1, Int.toNat_natCast, Int.natCast_nonneg, go_sem, awp_seq, Nat.reduceBNe, Nat.reduceBEq, Nat.reduceAdd, Nat.reduceSub, Nat.reduceMul, Nat.reduceLeDiff, Nat.reduceLT, Nat.reduceEqDiff, Nat.reduceBneDiff, Int.reduceLE, Int.reduceLT, Int.reduceToNat, Int.reduceBEq, Int.reduceBNe, Int.reduceAdd, Int.reduceSub, Int.cast_ofNat_Int]
        refine roundK_mk ⟨k + 1, by omega, by omega, ok1 (by rw [c1]; rfl)⟩ ?_ (by show l.length - (k + 1) < l.length - k; omega)
        simp (maxSteps := 1000000) -implicitDefEqProofs only [go_sem, awp_seq, Nat.reduceBNe, Nat.reduceBEq, Nat.reduceAdd, Nat.reduceSub, Nat.reduceMul, Nat.reduceLeDiff, Nat.reduceLT, Nat.reduceEqDiff, Nat.reduceBneDiff, Int.reduceLE, Int.reduceLT, Int.reduceToNat, Int.reduceBEq, Int.reduceBNe, Int.reduceAdd, Int.reduceSub, Int.cast_ofNat_Int]
    · have g1 : decide (((k : Nat) : Int) < (l.length : Nat)) = false := by simp; omega
      have e := good (fun i h0 hi => hall i h0 (by omega))
      subst e
      simp (maxSteps := 1000000) -implicitDefEqProofs only [List.length_map, g1, go_sem, awp_seq, Nat.reduceBNe, Nat.reduceBEq, Nat.reduceAdd, Nat.reduceSub, Nat.reduceMul, Nat.reduceLeDiff, Nat.reduceLT, Nat.reduceEqDiff, Nat.reduceBneDiff, Int.reduceLE, Int.reduceLT, Int.reduceToNat, Int.reduceBEq, Int.reduceBNe, Int.reduceAdd, Int.reduceSub, Int.cast_ofNat_Int]
def hasChB (k : Int) : Bool := k == 1 || k == 2 || k == 3
def hasTxB (k : Int) : Bool := k == 5 || k == 6
theorem hasChoices_c (k : Int) : AT 30 [i64 k] (boo (hasChB k)) := by
  unfold hasChB
  cases c1 : k == 1 with
  | true =>
    refine ACalls.of ⟨3, [], []⟩ (fn := Tryz.f30) Tryz.func30 rfl rfl rfl (by kernel_rfl) (by kernel_rfl) (Nat.le_of_ble_eq_true rfl) ?_
    simp (maxSteps := 1000000) -implicitDefEqProofs only [c1, go_sem, awp_seq, Nat.reduceBNe, Nat.reduceBEq, Nat.reduceAdd, Nat.reduceSub, Nat.reduceMul, Nat.reduceLeDiff, Nat.reduceLT, Nat.reduceEqDiff, Nat.reduceBneDiff, Int.reduceLE, Int.reduceLT, Int.reduceToNat, Int.reduceBEq, Int.reduceBNe, Int.reduceAdd, Int.reduceSub, Int.cast_ofNat_Int]
  | false =>
  cases c2 : k == 2 with
  | true =>
    refine ACalls.of ⟨3, [], []⟩ (fn := Tryz.f30) Tryz.func30 rfl rfl rfl (by kernel_rfl) (by kernel_rfl) (Nat.le_of_ble_eq_true rfl) ?_
    simp (maxSteps := 1000000) -implicitDefEqProofs only [c1, c2, go_sem, awp_seq, Nat.reduceBNe, Nat.reduceBEq, Nat.reduceAdd, Nat.reduceSub, Nat.reduceMul, Nat.reduceLeDiff, Nat.reduceLT, Nat.reduceEqDiff, Nat.reduceBneDiff, Int.reduceLE, Int.reduceLT, Int.reduceToNat, Int.reduceBEq, Int.reduceBNe, Int.reduceAdd, Int.reduceSub, Int.cast_ofNat_Int]
  | false =>
    refine ACalls.of ⟨3, [], []⟩ (fn := Tryz.f30) Tryz.func30 rfl rfl rfl (by kernel_rfl) (by kernel_rfl) (Nat.le_of_ble_eq_true rfl) ?_
    simp (maxSteps := 1000000) -implicitDefEqProofs only [c1, c2, go_sem, awp_seq, Nat.reduceBNe, Nat.reduceBEq, Nat.reduceAdd, Nat.reduceSub, Nat.reduceMul, Nat.reduceLeDiff, Nat.reduceLT, Nat.reduceEqDiff, Nat.reduceBneDiff, Int.reduceLE, Int.reduceLT, Int.reduceToNat, Int.reduceBEq, Int.reduceBNe, Int.reduceAdd, Int.reduceSub, Int.cast_ofNat_Int]
theorem hasText_c (k : Int) : AT 31 [i64 k] (boo (hasTxB k)) := by
  unfold hasTxB
  cases c1 : k == 5 with
  | true =>
    refine ACalls.of ⟨3, [], []⟩ (fn := Tryz.f31) Tryz.func31 rfl rfl rfl (by kernel_rfl) (by kernel_rfl) (Nat.le_of_ble_eq_true rfl) ?_
    simp (maxSteps := 1000000) -implicitDefEqProofs only [c1, go_sem, awp_seq, Nat.reduceBNe, Nat.reduceBEq, Nat.reduceAdd, Nat.reduceSub, Nat.reduceMul, Nat.reduceLeDiff, Nat.reduceLT, Nat.reduceEqDiff, Nat.reduceBneDiff, Int.reduceLE, Int.reduceLT, Int.reduceToNat, Int.reduceBEq, Int.reduceBNe, Int.reduceAdd, Int.reduceSub, Int.cast_ofNat_Int]
  | false =>
    refine ACalls.of ⟨3, [], []⟩ (fn := Tryz.f31) Tryz.func31 rfl rfl rfl (by kernel_rfl) (by kernel_rfl) (Nat.le_of_ble_eq_true rfl) ?_
    simp (maxSteps := 1000000) -implicitDefEqProofs only [c1, go_sem, awp_seq, Nat.reduceBNe, Nat.reduceBEq, Nat.reduceAdd, Nat.reduceSub, Nat.reduceMul, Nat.reduceLeDiff, Nat.reduceLT, Nat.reduceEqDiff, Nat.reduceBneDiff, Int.reduceLE, Int.reduceLT, Int.reduceToNat, Int.reduceBEq, Int.reduceBNe, Int.reduceAdd, Int.reduceSub, Int.cast_ofNat_Int]
/-- A choice is an index of an option. -/
def inRB (n c : Int) : Bool := !(decide (c < 0) || decide (n ≤ c))
def fitB (kind n : Int) (l : List Int) : Bool := bif kind == 1 then ((l.length : Nat) : Int) == 1 else bif kind == 2 then krisB l else bif kind == 3 then (((l.length : Nat) : Int) == n) && krisB (sortI l) else false
def chE (kind n : Int) (l : List Int) : Int := bif !l.all (inRB n) then 3 else bif fitB kind n l then 0 else 23
set_option maxHeartbeats 4000000 in
theorem checkChoices_cons (it : ItV) (h : IOK it) (l : List Int) (hl : l.length ≤ 2000000) (hne : l ≠ []) : AT 32 [itA it, ints l] (i64 (chE it.kind (it.opts.length : Nat) l)) := by
  have on := h.opts
  have bad : ∀ k (hk : k < l.length), inRB (it.opts.length : Nat) l[k] = false → l.all (inRB (it.opts.length : Nat)) = false := fun k hk hb => by
    rw [List.all_eq_false]; exact ⟨l[k], List.getElem_mem hk, by simp [hb]⟩
  have good : (∀ k (hk : k < l.length), inRB (it.opts.length : Nat) l[k] = true) → l.all (inRB (it.opts.length : Nat)) = true := fun hh => by
    rw [List.all_eq_true]; intro x hx; obtain ⟨i, hi, rfl⟩ := List.getElem_of_mem hx; exact hh i hi
  have K1 := krising_c l (by omega)
  have K2 := krising_c (sortI l) (by simp; omega)
  unfold chE fitB
  generalize l.all (inRB (it.opts.length : Nat)) = R at *
  refine ACalls.of ⟨29, [], [15, 16]⟩ (fn := Tryz.f32) Tryz.func32 rfl rfl rfl (by kernel_rfl) (by kernel_rfl) (Nat.le_of_ble_eq_true rfl) ?_
  simp (maxSteps := 1000000) -implicitDefEqProofs only [List.length_map, go_sem, awp_seq, Nat.reduceBNe, Nat.reduceBEq, Nat.reduceAdd, Nat.reduceSub, Nat.reduceMul, Nat.reduceLeDiff, Nat.reduceLT, Nat.reduceEqDiff, Nat.reduceBneDiff, Int.reduceLE, Int.reduceLT, Int.reduceToNat, Int.reduceBEq, Int.reduceBNe, Int.reduceAdd, Int.reduceSub, Int.cast_ofNat_Int]
  refine loop_mk (α := {k : Nat // k ≤ l.length ∧ ∀ i (hi : i < l.length), i < k → inRB (it.opts.length : Nat) l[i] = true}) (fun k => [(0, some (.av (itA it))), (1, some (.av (ints l))), (2, some (.ref 2 0)), (4, some (.av (i64 0))), (5, some (.av (i64 (it.opts.length : Nat)))), (13, some (.av (ints l))), (14, some (.av (i64 (l.length : Nat)))), (15, some (.av (i64 (k.1 : Nat))))]) (fun _ => [(2, itC it)]) (fun _ => []) (fun k => l.length - k.1) ⟨0, Nat.zero_le _, fun i hi h2 => by omega⟩ ?_ ?_
  · simp (maxSteps := 1000000) -implicitDefEqProofs only [List.length_map, go_sem, awp_seq, Nat.reduceBNe, Nat.reduceBEq, Nat.reduceAdd, Nat.reduceSub, Nat.reduceMul, Nat.reduceLeDiff, Nat.reduceLT, Nat.reduceEqDiff, Nat.reduceBneDiff, Int.reduceLE, Int.reduceLT, Int.reduceToNat, Int.reduceBEq, Int.reduceBNe, Int.reduceAdd, Int.reduceSub, Int.cast_ofNat_Int]
  · rintro ⟨k, hk, hall⟩
    by_cases hlt : k < l.length
    · have g1 : decide (((k : Nat) : Int) < (l.length : Nat)) = true := by simp; omega
      have e1 := ints_get l k
      rw [List.getElem?_eq_getElem hlt] at e1
      simp only [Option.map_some] at e1
      have w1 : IntKind.i64.wrap ((k : Int) + 1) = ((k + 1 : Nat) : Int) := by rw [IntWalk.i64_in _ (by omega)]; omega
      have b0 := bad k hlt
      have ok1 : inRB (it.opts.length : Nat) l[k] = true → ∀ i (hi : i < l.length), i < k + 1 → inRB (it.opts.length : Nat) l[i] = true := fun h i hi hik => by
        by_cases he : i = k
        · subst he; exact h
        · exact hall i hi (by omega)
      unfold inRB at b0 ok1
      cases c1 : decide (l[k] < 0) with
      | true =>
        have e := b0 (by rw [c1]; rfl)
        subst e
        simp (maxSteps := 1000000) -implicitDefEqProofs only [g1, e1, c1, Bool.not_false, Int.toNat_natCast, Int.natCast_nonneg, go_sem, awp_seq, Nat.reduceBNe, Nat.reduceBEq, Nat.reduceAdd, Nat.reduceSub, Nat.reduceMul, Nat.reduceLeDiff, Nat.reduceLT, Nat.reduceEqDiff, Nat.reduceBneDiff, Int.reduceLE, Int.reduceLT, Int.reduceToNat, Int.reduceBEq, Int.reduceBNe, Int.reduceAdd, Int.reduceSub, Int.cast_ofNat_Int]
      | false =>
      cases c2 : decide (((it.opts.length : Nat) : Int) ≤ l[k]) with
      | true =>
        have e := b0 (by rw [c1, c2]; rfl)
        subst e
        simp (maxSteps := 1000000) -implicitDefEqProofs only [g1, e1, c1, c2, Bool.not_false, Int.toNat_natCast, Int.natCast_nonneg, go_sem, awp_seq, Nat.reduceBNe, Nat.reduceBEq, Nat.reduceAdd, Nat.reduceSub, Nat.reduceMul, Nat.reduceLeDiff, Nat.reduceLT, Nat.reduceEqDiff, Nat.reduceBneDiff, Int.reduceLE, Int.reduceLT, Int.reduceToNat, Int.reduceBEq, Int.reduceBNe, Int.reduceAdd, Int.reduceSub, Int.cast_ofNat_Int]
      | false =>
        simp (maxSteps := 1000000) -implicitDefEqProofs only [g1, e1, c1, c2, w1, Int.toNat_natCast, Int.natCast_nonneg, go_sem, awp_seq, Nat.reduceBNe, Nat.reduceBEq, Nat.reduceAdd, Nat.reduceSub, Nat.reduceMul, Nat.reduceLeDiff, Nat.reduceLT, Nat.reduceEqDiff, Nat.reduceBneDiff, Int.reduceLE, Int.reduceLT, Int.reduceToNat, Int.reduceBEq, Int.reduceBNe, Int.reduceAdd, Int.reduceSub, Int.cast_ofNat_Int]
        refine roundK_mk ⟨k + 1, by omega, fun i hi h2 => ok1 (by rw [c1, c2]; rfl) i hi h2⟩ ?_ (by show l.length - (k + 1) < l.length - k; omega)
        simp (maxSteps := 1000000) -implicitDefEqProofs only [go_sem, awp_seq, Nat.reduceBNe, Nat.reduceBEq, Nat.reduceAdd, Nat.reduceSub, Nat.reduceMul, Nat.reduceLeDiff, Nat.reduceLT, Nat.reduceEqDiff, Nat.reduceBneDiff, Int.reduceLE, Int.reduceLT, Int.reduceToNat, Int.reduceBEq, Int.reduceBNe, Int.reduceAdd, Int.reduceSub, Int.cast_ofNat_Int]
    · have g1 : decide (((k : Nat) : Int) < (l.length : Nat)) = false := by simp; omega
      have e := good (fun i hi => hall i hi (by omega))
      subst e
      simp (maxSteps := 1000000) -implicitDefEqProofs only [g1, Bool.not_true, go_sem, awp_seq, Nat.reduceBNe, Nat.reduceBEq, Nat.reduceAdd, Nat.reduceSub, Nat.reduceMul, Nat.reduceLeDiff, Nat.reduceLT, Nat.reduceEqDiff, Nat.reduceBneDiff, Int.reduceLE, Int.reduceLT, Int.reduceToNat, Int.reduceBEq, Int.reduceBNe, Int.reduceAdd, Int.reduceSub, Int.cast_ofNat_Int]
      cases c1 : it.kind == 1 with
      | true =>
        cases c4 : ((l.length : Nat) : Int) == 1 with
        | true => simp (maxSteps := 1000000) -implicitDefEqProofs only [c1, c4, List.length_map, go_sem, awp_seq, Nat.reduceBNe, Nat.reduceBEq, Nat.reduceAdd, Nat.reduceSub, Nat.reduceMul, Nat.reduceLeDiff, Nat.reduceLT, Nat.reduceEqDiff, Nat.reduceBneDiff, Int.reduceLE, Int.reduceLT, Int.reduceToNat, Int.reduceBEq, Int.reduceBNe, Int.reduceAdd, Int.reduceSub, Int.cast_ofNat_Int]
        | false => simp (maxSteps := 1000000) -implicitDefEqProofs only [c1, c4, List.length_map, go_sem, awp_seq, Nat.reduceBNe, Nat.reduceBEq, Nat.reduceAdd, Nat.reduceSub, Nat.reduceMul, Nat.reduceLeDiff, Nat.reduceLT, Nat.reduceEqDiff, Nat.reduceBneDiff, Int.reduceLE, Int.reduceLT, Int.reduceToNat, Int.reduceBEq, Int.reduceBNe, Int.reduceAdd, Int.reduceSub, Int.cast_ofNat_Int]
      | false =>
      cases c2 : it.kind == 2 with
      | true =>
        simp (maxSteps := 1000000) -implicitDefEqProofs only [c1, c2, go_sem, awp_seq, Nat.reduceBNe, Nat.reduceBEq, Nat.reduceAdd, Nat.reduceSub, Nat.reduceMul, Nat.reduceLeDiff, Nat.reduceLT, Nat.reduceEqDiff, Nat.reduceBneDiff, Int.reduceLE, Int.reduceLT, Int.reduceToNat, Int.reduceBEq, Int.reduceBNe, Int.reduceAdd, Int.reduceSub, Int.cast_ofNat_Int]
        refine callA_tt K1 ?_
        cases krisB l with
        | true => simp (maxSteps := 1000000) -implicitDefEqProofs only [go_sem, awp_seq, Nat.reduceBNe, Nat.reduceBEq, Nat.reduceAdd, Nat.reduceSub, Nat.reduceMul, Nat.reduceLeDiff, Nat.reduceLT, Nat.reduceEqDiff, Nat.reduceBneDiff, Int.reduceLE, Int.reduceLT, Int.reduceToNat, Int.reduceBEq, Int.reduceBNe, Int.reduceAdd, Int.reduceSub, Int.cast_ofNat_Int]
        | false => simp (maxSteps := 1000000) -implicitDefEqProofs only [go_sem, awp_seq, Nat.reduceBNe, Nat.reduceBEq, Nat.reduceAdd, Nat.reduceSub, Nat.reduceMul, Nat.reduceLeDiff, Nat.reduceLT, Nat.reduceEqDiff, Nat.reduceBneDiff, Int.reduceLE, Int.reduceLT, Int.reduceToNat, Int.reduceBEq, Int.reduceBNe, Int.reduceAdd, Int.reduceSub, Int.cast_ofNat_Int]
      | false =>
      cases c3 : it.kind == 3 with
      | false => simp (maxSteps := 1000000) -implicitDefEqProofs only [c1, c2, c3, go_sem, awp_seq, Nat.reduceBNe, Nat.reduceBEq, Nat.reduceAdd, Nat.reduceSub, Nat.reduceMul, Nat.reduceLeDiff, Nat.reduceLT, Nat.reduceEqDiff, Nat.reduceBneDiff, Int.reduceLE, Int.reduceLT, Int.reduceToNat, Int.reduceBEq, Int.reduceBNe, Int.reduceAdd, Int.reduceSub, Int.cast_ofNat_Int]
      | true =>
        simp (maxSteps := 1000000) -implicitDefEqProofs only [c1, c2, c3, go_sem, awp_seq, Nat.reduceBNe, Nat.reduceBEq, Nat.reduceAdd, Nat.reduceSub, Nat.reduceMul, Nat.reduceLeDiff, Nat.reduceLT, Nat.reduceEqDiff, Nat.reduceBneDiff, Int.reduceLE, Int.reduceLT, Int.reduceToNat, Int.reduceBEq, Int.reduceBNe, Int.reduceAdd, Int.reduceSub, Int.cast_ofNat_Int]
        refine lentA_mk 1 rfl rfl ?_
        simp (maxSteps := 1000000) -implicitDefEqProofs only [go_sem, awp_seq, Nat.reduceBNe, Nat.reduceBEq, Nat.reduceAdd, Nat.reduceSub, Nat.reduceMul, Nat.reduceLeDiff, Nat.reduceLT, Nat.reduceEqDiff, Nat.reduceBneDiff, Int.reduceLE, Int.reduceLT, Int.reduceToNat, Int.reduceBEq, Int.reduceBNe, Int.reduceAdd, Int.reduceSub, Int.cast_ofNat_Int]
        refine lentC_new (s := 0) (ov := .row 3 1 (l.map (fun x => i64 x))) [] [] (.inl (clone_l l (by omega) hne)) rfl rfl rfl rfl rfl rfl rfl ?_
        simp (maxSteps := 1000000) -implicitDefEqProofs only [go_sem, awp_seq, Nat.reduceBNe, Nat.reduceBEq, Nat.reduceAdd, Nat.reduceSub, Nat.reduceMul, Nat.reduceLeDiff, Nat.reduceLT, Nat.reduceEqDiff, Nat.reduceBneDiff, Int.reduceLE, Int.reduceLT, Int.reduceToNat, Int.reduceBEq, Int.reduceBNe, Int.reduceAdd, Int.reduceSub, Int.cast_ofNat_Int]
        refine lentA_mk 1 rfl rfl ?_
        simp (maxSteps := 1000000) -implicitDefEqProofs only [List.length_map, go_sem, awp_seq, Nat.reduceBNe, Nat.reduceBEq, Nat.reduceAdd, Nat.reduceSub, Nat.reduceMul, Nat.reduceLeDiff, Nat.reduceLT, Nat.reduceEqDiff, Nat.reduceBneDiff, Int.reduceLE, Int.reduceLT, Int.reduceToNat, Int.reduceBEq, Int.reduceBNe, Int.reduceAdd, Int.reduceSub, Int.cast_ofNat_Int]
        refine lentC_tt [] [(0, 41)] (sort_l l (by omega)) rfl rfl rfl rfl rfl ?_
        simp (maxSteps := 1000000) -implicitDefEqProofs only [List.length_map, go_sem, awp_seq, Nat.reduceBNe, Nat.reduceBEq, Nat.reduceAdd, Nat.reduceSub, Nat.reduceMul, Nat.reduceLeDiff, Nat.reduceLT, Nat.reduceEqDiff, Nat.reduceBneDiff, Int.reduceLE, Int.reduceLT, Int.reduceToNat, Int.reduceBEq, Int.reduceBNe, Int.reduceAdd, Int.reduceSub, Int.cast_ofNat_Int]
        have sl : (sortI l).length = l.length := by simp
        have T : List.take l.length (List.map (fun x => i64 x) (sortI l)) = List.map (fun x => i64 x) (sortI l) := List.take_of_length_le (by rw [List.length_map, sl]; exact Nat.le_refl _)
        cases c4 : ((l.length : Nat) : Int) == ((it.opts.length : Nat) : Int) with
        | false => simp (maxSteps := 1000000) -implicitDefEqProofs only [c4, Bool.false_and, go_sem, awp_seq, Nat.reduceBNe, Nat.reduceBEq, Nat.reduceAdd, Nat.reduceSub, Nat.reduceMul, Nat.reduceLeDiff, Nat.reduceLT, Nat.reduceEqDiff, Nat.reduceBneDiff, Int.reduceLE, Int.reduceLT, Int.reduceToNat, Int.reduceBEq, Int.reduceBNe, Int.reduceAdd, Int.reduceSub, Int.cast_ofNat_Int]
        | true =>
          simp (maxSteps := 1000000) -implicitDefEqProofs only [c4, T, sl, Bool.true_and, List.length_map, go_sem, awp_seq, Nat.reduceBNe, Nat.reduceBEq, Nat.reduceAdd, Nat.reduceSub, Nat.reduceMul, Nat.reduceLeDiff, Nat.reduceLT, Nat.reduceEqDiff, Nat.reduceBneDiff, Int.reduceLE, Int.reduceLT, Int.reduceToNat, Int.reduceBEq, Int.reduceBNe, Int.reduceAdd, Int.reduceSub, Int.cast_ofNat_Int]
          refine callA_flatTT K2 rfl ?_
          cases krisB (sortI l) with
          | true => simp (maxSteps := 1000000) -implicitDefEqProofs only [go_sem, awp_seq, Nat.reduceBNe, Nat.reduceBEq, Nat.reduceAdd, Nat.reduceSub, Nat.reduceMul, Nat.reduceLeDiff, Nat.reduceLT, Nat.reduceEqDiff, Nat.reduceBneDiff, Int.reduceLE, Int.reduceLT, Int.reduceToNat, Int.reduceBEq, Int.reduceBNe, Int.reduceAdd, Int.reduceSub, Int.cast_ofNat_Int]
          | false => simp (maxSteps := 1000000) -implicitDefEqProofs only [go_sem, awp_seq, Nat.reduceBNe, Nat.reduceBEq, Nat.reduceAdd, Nat.reduceSub, Nat.reduceMul, Nat.reduceLeDiff, Nat.reduceLT, Nat.reduceEqDiff, Nat.reduceBneDiff, Int.reduceLE, Int.reduceLT, Int.reduceToNat, Int.reduceBEq, Int.reduceBNe, Int.reduceAdd, Int.reduceSub, Int.cast_ofNat_Int]
theorem clone0_c : AT 27 [ints []] (ints []) := by
  refine ⟨by exact ⟨Tryz.f27, Tryz.func27, by kernel_rfl, rfl⟩, fun w Z vs hE hz _ hr => ?_⟩
  obtain ⟨_, rfl, h1⟩ := reps1 hr
  obtain ⟨A, c, rfl⟩ : ∃ A c, _ = Value.slice A 0 c := by
    rcases rep_row1 (fun x : Int => Value.int .i64 x) h1 with ⟨_, h⟩ | ⟨b, off, c, rfl, _⟩
    · exact h
    · exact ⟨_, _, rfl⟩
  cases A with
  | none =>
    refine (Tryz.slices_Clone_int_nil 0 c w).mono ?_
    rintro e w' ⟨rfl, rfl⟩
    exact ⟨_, rfl, Below.refl _ _, .nil⟩
  | some a =>
    refine (Tryz.slices_Clone_int_zero a c w).mono ?_
    rintro e w' ⟨v, rfl, hrow, _, hb⟩
    exact ⟨v, rfl, hb, owns_rep (fun x : Int => Value.int .i64 x) (fun _ => rfl) [] hrow (fun b o h1 h2 => .inr ⟨h1, h2⟩)⟩
theorem sort0_c : AT 61 [ints []] (.tup []) := by
  refine ⟨by exact ⟨Tryz.f61, Tryz.func61, by kernel_rfl, rfl⟩, fun w Z vs hE hz _ hr => ?_⟩
  obtain ⟨_, rfl, h1⟩ := reps1 hr
  obtain ⟨A, c, rfl⟩ : ∃ A c, _ = Value.slice A 0 c := by
    rcases rep_row1 (fun x : Int => Value.int .i64 x) h1 with ⟨_, h⟩ | ⟨b, off, c, rfl, _⟩
    · exact h
    · exact ⟨_, _, rfl⟩
  refine (Tryz.slices_Sort_int_none A c w).mono ?_
  rintro e w' ⟨rfl, rfl⟩
  exact ⟨_, rfl, Below.refl _ _, .tup rfl fun j hj => by simp at hj⟩
theorem clone_c (l : List Int) (hl : l.length ≤ 1000000000) : AT 27 [ints l] (ints l) := by
  cases hh : l with
  | nil => exact clone0_c
  | cons x r =>
    rw [← hh]
    refine ⟨by exact ⟨Tryz.f27, Tryz.func27, by kernel_rfl, rfl⟩, fun w Z vs hE hz _ hr => ?_⟩
    obtain ⟨_, rfl, h1⟩ := reps1 hr
    rcases rep_row1 (fun x : Int => Value.int .i64 x) h1 with ⟨h, _⟩ | ⟨b, off, c, rfl, hb, hc, hcell⟩
    · rw [hh] at h; cases h
    · refine (Tryz.slices_Clone_int b off l.length c l w (Nat.le_refl _) (by omega) (fun j hj => by rw [hcell j hj]; simp [hj])).mono ?_
      rintro e w' ⟨v, rfl, hrow, _, hb⟩
      rw [List.take_length] at hrow
      exact ⟨v, rfl, hb, owns_rep (fun x : Int => Value.int .i64 x) (fun _ => rfl) l hrow (fun b o h1 h2 => .inr ⟨h1, h2⟩)⟩
set_option maxHeartbeats 4000000 in
theorem checkChoices_nil (it : ItV) (h : IOK it) : AT 32 [itA it, ints []] (i64 (chE it.kind (it.opts.length : Nat) [])) := by
  have on := h.opts
  have K1 := krising_c [] (by simp)
  have e0 : krisB [] = true := rfl
  rw [e0] at K1
  have e1 : chE it.kind (it.opts.length : Nat) [] = (bif it.kind == 1 then 23 else bif it.kind == 2 then 0 else bif it.kind == 3 then (bif (0 : Int) == ((it.opts.length : Nat) : Int) then 0 else 23) else 23) := by
    unfold chE fitB
    cases it.kind == 1 <;> cases it.kind == 2 <;> cases it.kind == 3 <;> try rfl
    show (bif (((0 : Nat) : Int) == ((it.opts.length : Nat) : Int)) && krisB (sortI []) then (0 : Int) else 23) = _
    have hs : sortI [] = [] := List.mergeSort_nil
    have : krisB (sortI []) = true := by rw [hs]; rfl
    rw [this, Bool.and_true]
    rfl
  rw [e1]
  refine ACalls.of ⟨29, [], []⟩ (fn := Tryz.f32) Tryz.func32 rfl rfl rfl (by kernel_rfl) (by kernel_rfl) (Nat.le_of_ble_eq_true rfl) ?_
  simp (maxSteps := 1000000) -implicitDefEqProofs only [List.length_map, List.map_nil, go_sem, awp_seq, Nat.reduceBNe, Nat.reduceBEq, Nat.reduceAdd, Nat.reduceSub, Nat.reduceMul, Nat.reduceLeDiff, Nat.reduceLT, Nat.reduceEqDiff, Nat.reduceBneDiff, Int.reduceLE, Int.reduceLT, Int.reduceToNat, Int.reduceBEq, Int.reduceBNe, Int.reduceAdd, Int.reduceSub, Int.cast_ofNat_Int]
  refine loop_mk (α := {k : Nat // k = 0}) (fun k => [(0, some (.av (itA it))), (1, some (.av (ints []))), (2, some (.ref 2 0)), (4, some (.av (i64 0))), (5, some (.av (i64 (it.opts.length : Nat)))), (13, some (.av (ints []))), (14, some (.av (i64 0))), (15, some (.av (i64 (k.1 : Nat))))]) (fun _ => [(2, itC it)]) (fun _ => []) (fun k => 0) ⟨0, rfl⟩ ?_ ?_
  · simp (maxSteps := 1000000) -implicitDefEqProofs only [List.length_map, List.map_nil, go_sem, awp_seq, Nat.reduceBNe, Nat.reduceBEq, Nat.reduceAdd, Nat.reduceSub, Nat.reduceMul, Nat.reduceLeDiff, Nat.reduceLT, Nat.reduceEqDiff, Nat.reduceBneDiff, Int.reduceLE, Int.reduceLT, Int.reduceToNat, Int.reduceBEq, Int.reduceBNe, Int.reduceAdd, Int.reduceSub, Int.cast_ofNat_Int]
  · rintro ⟨k, rfl⟩
    have g1 : decide (((0 : Nat) : Int) < 0) = false := by decide
    simp (maxSteps := 1000000) -implicitDefEqProofs only [g1, List.map_nil, go_sem, awp_seq, Nat.reduceBNe, Nat.reduceBEq, Nat.reduceAdd, Nat.reduceSub, Nat.reduceMul, Nat.reduceLeDiff, Nat.reduceLT, Nat.reduceEqDiff, Nat.reduceBneDiff, Int.reduceLE, Int.reduceLT, Int.reduceToNat, Int.reduceBEq, Int.reduceBNe, Int.reduceAdd, Int.reduceSub, Int.cast_ofNat_Int]
    cases c1 : it.kind == 1 with
    | true => simp (maxSteps := 1000000) -implicitDefEqProofs only [c1, List.map_nil, Int.reduceBEq, go_sem, awp_seq, Nat.reduceBNe, Nat.reduceBEq, Nat.reduceAdd, Nat.reduceSub, Nat.reduceMul, Nat.reduceLeDiff, Nat.reduceLT, Nat.reduceEqDiff, Nat.reduceBneDiff, Int.reduceLE, Int.reduceLT, Int.reduceToNat, Int.reduceBEq, Int.reduceBNe, Int.reduceAdd, Int.reduceSub, Int.cast_ofNat_Int]
    | false =>
    cases c2 : it.kind == 2 with
    | true =>
      simp (maxSteps := 1000000) -implicitDefEqProofs only [c1, c2, List.map_nil, go_sem, awp_seq, Nat.reduceBNe, Nat.reduceBEq, Nat.reduceAdd, Nat.reduceSub, Nat.reduceMul, Nat.reduceLeDiff, Nat.reduceLT, Nat.reduceEqDiff, Nat.reduceBneDiff, Int.reduceLE, Int.reduceLT, Int.reduceToNat, Int.reduceBEq, Int.reduceBNe, Int.reduceAdd, Int.reduceSub, Int.cast_ofNat_Int]
      refine callA_tt K1 ?_
      simp (maxSteps := 1000000) -implicitDefEqProofs only [go_sem, awp_seq, Nat.reduceBNe, Nat.reduceBEq, Nat.reduceAdd, Nat.reduceSub, Nat.reduceMul, Nat.reduceLeDiff, Nat.reduceLT, Nat.reduceEqDiff, Nat.reduceBneDiff, Int.reduceLE, Int.reduceLT, Int.reduceToNat, Int.reduceBEq, Int.reduceBNe, Int.reduceAdd, Int.reduceSub, Int.cast_ofNat_Int]
    | false =>
    cases c3 : it.kind == 3 with
    | false => simp (maxSteps := 1000000) -implicitDefEqProofs only [c1, c2, c3, go_sem, awp_seq, Nat.reduceBNe, Nat.reduceBEq, Nat.reduceAdd, Nat.reduceSub, Nat.reduceMul, Nat.reduceLeDiff, Nat.reduceLT, Nat.reduceEqDiff, Nat.reduceBneDiff, Int.reduceLE, Int.reduceLT, Int.reduceToNat, Int.reduceBEq, Int.reduceBNe, Int.reduceAdd, Int.reduceSub, Int.cast_ofNat_Int]
    | true =>
      simp (maxSteps := 1000000) -implicitDefEqProofs only [c1, c2, c3, List.map_nil, go_sem, awp_seq, Nat.reduceBNe, Nat.reduceBEq, Nat.reduceAdd, Nat.reduceSub, Nat.reduceMul, Nat.reduceLeDiff, Nat.reduceLT, Nat.reduceEqDiff, Nat.reduceBneDiff, Int.reduceLE, Int.reduceLT, Int.reduceToNat, Int.reduceBEq, Int.reduceBNe, Int.reduceAdd, Int.reduceSub, Int.cast_ofNat_Int]
      refine callA_tt clone0_c ?_
      simp (maxSteps := 1000000) -implicitDefEqProofs only [List.map_nil, go_sem, awp_seq, Nat.reduceBNe, Nat.reduceBEq, Nat.reduceAdd, Nat.reduceSub, Nat.reduceMul, Nat.reduceLeDiff, Nat.reduceLT, Nat.reduceEqDiff, Nat.reduceBneDiff, Int.reduceLE, Int.reduceLT, Int.reduceToNat, Int.reduceBEq, Int.reduceBNe, Int.reduceAdd, Int.reduceSub, Int.cast_ofNat_Int]
      refine callA_tt sort0_c ?_
      simp (maxSteps := 1000000) -implicitDefEqProofs only [List.map_nil, go_sem, awp_seq, Nat.reduceBNe, Nat.reduceBEq, Nat.reduceAdd, Nat.reduceSub, Nat.reduceMul, Nat.reduceLeDiff, Nat.reduceLT, Nat.reduceEqDiff, Nat.reduceBneDiff, Int.reduceLE, Int.reduceLT, Int.reduceToNat, Int.reduceBEq, Int.reduceBNe, Int.reduceAdd, Int.reduceSub, Int.cast_ofNat_Int]
      cases c4 : (0 : Int) == ((it.opts.length : Nat) : Int) with
      | false => simp (maxSteps := 1000000) -implicitDefEqProofs only [c4, go_sem, awp_seq, Nat.reduceBNe, Nat.reduceBEq, Nat.reduceAdd, Nat.reduceSub, Nat.reduceMul, Nat.reduceLeDiff, Nat.reduceLT, Nat.reduceEqDiff, Nat.reduceBneDiff, Int.reduceLE, Int.reduceLT, Int.reduceToNat, Int.reduceBEq, Int.reduceBNe, Int.reduceAdd, Int.reduceSub, Int.cast_ofNat_Int]
      | true =>
        simp (maxSteps := 1000000) -implicitDefEqProofs only [c4, List.map_nil, go_sem, awp_seq, Nat.reduceBNe, Nat.reduceBEq, Nat.reduceAdd, Nat.reduceSub, Nat.reduceMul, Nat.reduceLeDiff, Nat.reduceLT, Nat.reduceEqDiff, Nat.reduceBneDiff, Int.reduceLE, Int.reduceLT, Int.reduceToNat, Int.reduceBEq, Int.reduceBNe, Int.reduceAdd, Int.reduceSub, Int.cast_ofNat_Int]
        refine callA_tt K1 ?_
        simp (maxSteps := 1000000) -implicitDefEqProofs only [go_sem, awp_seq, Nat.reduceBNe, Nat.reduceBEq, Nat.reduceAdd, Nat.reduceSub, Nat.reduceMul, Nat.reduceLeDiff, Nat.reduceLT, Nat.reduceEqDiff, Nat.reduceBneDiff, Int.reduceLE, Int.reduceLT, Int.reduceToNat, Int.reduceBEq, Int.reduceBNe, Int.reduceAdd, Int.reduceSub, Int.cast_ofNat_Int]
theorem checkChoices_c (it : ItV) (h : IOK it) (l : List Int) (hl : l.length ≤ 2000000) : AT 32 [itA it, ints l] (i64 (chE it.kind (it.opts.length : Nat) l)) := by
  by_cases hne : l = []
  · subst hne; exact checkChoices_nil it h
  · exact checkChoices_cons it h l hl hne
end Go.Proofs.YtkmicjpoekbhfaaGreatDoor
