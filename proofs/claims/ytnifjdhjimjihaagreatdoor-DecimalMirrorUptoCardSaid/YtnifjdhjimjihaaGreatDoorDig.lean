/- Decimal digits: the groups of nine. -/
import Derived.Lib.ItoaNum
import Derived.Lib.LaidTab
import Derived.Below
namespace Go.Proofs.YtnifjdhjimjihaaGreatDoor
open Go.RowKit

/-- Exactly k digits of g. -/
def padD : Nat → Nat → List UInt8
  | 0, _ => []
  | k + 1, g => padD k (g / 10) ++ [UInt8.ofNat (48 + g % 10)]

theorem padD_length (k g : Nat) : (padD k g).length = k := by
  induction k generalizing g with
  | zero => rfl
  | succ k ih => simp [padD, ih]

theorem dec_big {u : Nat} (h : ¬ u < 10) : Lib.decDigits u = Lib.decDigits (u / 10) ++ [UInt8.ofNat (48 + u % 10)] := by rw [Lib.decDigits, dif_neg h]

theorem dec_join (k q g : Nat) (hq : 0 < q) (hg : g < 10 ^ k) : Lib.decDigits (q * 10 ^ k + g) = Lib.decDigits q ++ padD k g := by
  induction k generalizing g with
  | zero =>
    have : g = 0 := by omega
    subst this
    simp [padD]
  | succ k ih =>
    have hp : 0 < 10 ^ k := Nat.pow_pos (by omega)
    have hbig : ¬ q * 10 ^ (k + 1) + g < 10 := by
      have h1 : 1 * 1 ≤ q * 10 ^ k := Nat.mul_le_mul hq hp
      rw [Nat.pow_succ, ← Nat.mul_assoc]
      omega
    rw [dec_big hbig]
    have e1 : (q * 10 ^ (k + 1) + g) / 10 = q * 10 ^ k + g / 10 := by
      rw [Nat.pow_succ, ← Nat.mul_assoc]; omega
    have e2 : (q * 10 ^ (k + 1) + g) % 10 = g % 10 := by
      rw [Nat.pow_succ, ← Nat.mul_assoc]; omega
    rw [e1, e2, ih (g / 10) (by rw [Nat.pow_succ] at hg; omega), padD, List.append_assoc]

theorem padD_zero (k : Nat) : padD k 0 = List.replicate k 48 := by
  induction k with
  | zero => rfl
  | succ k ih => rw [padD, ih, List.replicate_succ']; rfl

theorem padD_eq (k g : Nat) (hg : g < 10 ^ (k + 1)) : padD (k + 1) g = List.replicate (k + 1 - Lib.nDigits g) 48 ++ Lib.decDigits g := by
  induction k generalizing g with
  | zero =>
    have h10 : g < 10 := by simpa using hg
    rw [Lib.nDigits_small h10, Lib.decDigits, dif_pos h10]
    have : g % 10 = g := Nat.mod_eq_of_lt h10
    simp [padD, this]
  | succ k ih =>
    by_cases h10 : g < 10
    · rw [Lib.nDigits_small h10, Lib.decDigits, dif_pos h10, padD]
      have e : g / 10 = 0 := by omega
      have : g % 10 = g := Nat.mod_eq_of_lt h10
      rw [e, padD_zero, this]
      rfl
    · have hd : g / 10 < 10 ^ (k + 1) := by rw [Nat.pow_succ] at hg; omega
      rw [padD, ih _ hd, dec_big h10, Lib.nDigits_big h10, List.append_assoc]
      congr 2
      omega

theorem nDigits_le9 {g : Nat} (hg : g < 1000000000) : Lib.nDigits g ≤ 9 := by
  rcases Nat.lt_or_ge g 10 with h | h
  · rw [Lib.nDigits_small h]; omega
  · rcases Nat.lt_or_ge (Lib.nDigits g) 10 with h2 | h2
    · omega
    · exfalso
      -- the smallest number of that many digits
      have key : ∀ k u, Lib.nDigits u = k + 1 → 1 ≤ k → 10 ^ k ≤ u := by
        intro k
        induction k with
        | zero => intro u _ h; omega
        | succ k ih =>
          intro u hu _
          have hb : ¬ u < 10 := fun hs => by rw [Lib.nDigits_small hs] at hu; omega
          rw [Lib.nDigits_big hb] at hu
          rcases Nat.eq_zero_or_pos k with rfl | hk
          · omega
          · have := ih (u / 10) (by omega) hk
            rw [Nat.pow_succ]; omega
      have h3 := key (Lib.nDigits g - 1) g (by omega) (by omega)
      have h4 : 10 ^ 9 ≤ 10 ^ (Lib.nDigits g - 1) := Nat.pow_le_pow_right (by omega) (by omega)
      have : (10 : Nat) ^ 9 = 1000000000 := by decide
      omega

/-- A listed table outlives whatever leaves the old blocks alone. -/
theorem tab_keep {P : Program} {w w' : World} {name : String} {k : IntKind} {zs : List Int} (h : Lib.TabIs P w name k zs) (hb : Below w.heap.size w w') : Lib.TabIs P w' name k zs := by
  unfold Lib.TabIs World.var? at *
  cases hg : P.globalNamed name with
  | none => simp [hg] at h
  | some g =>
    simp only [hg, Option.bind_some] at h ⊢
    have hlt : g < w.heap.size := by
      rcases Nat.lt_or_ge g w.heap.size with h' | h'
      · exact h'
      · rw [Array.getElem?_eq_none h'] at h; simp at h
    rw [hb.block g hlt]
    exact h
end Go.Proofs.YtnifjdhjimjihaaGreatDoor
