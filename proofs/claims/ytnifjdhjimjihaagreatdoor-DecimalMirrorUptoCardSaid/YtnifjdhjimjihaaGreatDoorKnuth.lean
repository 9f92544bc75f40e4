import Derived.Test.YtnifjdhjimjihaaGreatDoorMath
/- Plain arithmetic of the loops of layer 1: sums, differences, products, quotients limb by limb. No program in sight. -/
namespace Go.Proofs.YtnifjdhjimjihaaGreatDoor.Lim

theorem add_step {v c p x y a b t : Nat} (h : v + c * p = x + y) (ht : t = a + c + b) :
    (v + p * (t % 4294967296)) + t / 4294967296 * (4294967296 * p) = (x + p * a) + (y + p * b) := by
  have h1 : t = t % 4294967296 + 4294967296 * (t / 4294967296) := by omega
  generalize t % 4294967296 = m at *
  generalize t / 4294967296 = d at *
  subst h1
  have : p * (m + 4294967296 * d) = p * (a + c + b) := by rw [ht]
  grind

theorem sub_step {v c p x y a b m c' : Nat} (h : v + y = x + c * p) (ht : m + c + b = a + 4294967296 * c') :
    (v + p * m) + (y + p * b) = (x + p * a) + c' * (4294967296 * p) := by
  have : p * (m + c + b) = p * (a + 4294967296 * c') := by rw [ht]
  grind

/-- One step of a product: v is the value so far. -/
theorem mul_step {v v' c p old x y t : Nat} (hs : v' + p * old = v + p * (t % 4294967296)) (ht : t = x * y + old + c) :
    v' + t / 4294967296 * (4294967296 * p) = v + c * p + x * (p * y) := by
  have h1 : t = t % 4294967296 + 4294967296 * (t / 4294967296) := by omega
  generalize t % 4294967296 = m at *
  generalize t / 4294967296 = d at *
  subst h1
  have : p * (m + 4294967296 * d) = p * (x * y + old + c) := by rw [ht]
  grind

/-- One step of a division by a limb, from the top. -/
theorem div_step {q d r a x v t : Nat} (h : q * d + r = v) (ht : t = r * 4294967296 + x) (ha : a = x + 4294967296 * v) :
    (t / d + 4294967296 * q) * d + t % d = a := by
  have h1 : t = t % d + d * (t / d) := by rw [Nat.add_comm]; exact (Nat.div_add_mod t d).symm
  generalize t % d = m at *
  generalize t / d = e at *
  grind

/-! ### The estimate of a quotient's limb -/

/-- U of n+1 limbs over V of n limbs, seen from the top: V = (v1 * B + v2) * P + V0, U = ((u0 * B + u1) * B + u2) * P + U0, P the power of the limbs below. -/
structure Top (U V u0 u1 u2 v1 v2 P U0 V0 : Nat) : Prop where
  hU : U = ((u0 * 4294967296 + u1) * 4294967296 + u2) * P + U0
  hV : V = (v1 * 4294967296 + v2) * P + V0
  hU0 : U0 < P
  hV0 : V0 < P
  bu0 : u0 < 4294967296
  bu1 : u1 < 4294967296
  bu2 : u2 < 4294967296
  bv1 : v1 < 4294967296
  bv2 : v2 < 4294967296
  norm : 2147483648 ≤ v1
  lt : U < V * 4294967296

/-- The top limb of U is at most that of V. -/
theorem Top.u0_le {U V u0 u1 u2 v1 v2 P U0 V0 : Nat} (h : Top U V u0 u1 u2 v1 v2 P U0 V0) : u0 ≤ v1 := by
  rcases Nat.lt_or_ge v1 u0 with h1 | h1
  · exfalso
    have e1 := h.hU
    have e2 := h.hV
    have h2 := h.lt
    have h3 := h.hV0
    have h4 := h.bv2
    -- V < (v1 + 1) * B * P ≤ u0 * B * P, so V * B < u0 * B * B * P ≤ U
    have a1 : V < (v1 * 4294967296 + v2 + 1) * P := by rw [e2]; grind
    have a2 : (v1 * 4294967296 + v2 + 1) * P ≤ (u0 * 4294967296) * P := Nat.mul_le_mul_right P (by omega)
    have a3 : (u0 * 4294967296) * P * 4294967296 ≤ U := by
      rw [e1]
      have : u0 * 4294967296 * P * 4294967296 = (u0 * 4294967296 * 4294967296) * P := by grind
      rw [this]
      have : (u0 * 4294967296 * 4294967296) * P ≤ ((u0 * 4294967296 + u1) * 4294967296 + u2) * P := Nat.mul_le_mul_right P (Nat.le_trans (Nat.mul_le_mul_right _ (Nat.le_add_right _ _)) (Nat.le_add_right _ _))
      exact Nat.le_trans this (Nat.le_add_right _ _)
    omega
  · exact h1

/-- If the estimate is too great for the first three limbs, it is too great. -/
theorem Top.too_great {U V u0 u1 u2 v1 v2 P U0 V0 q r : Nat} (h : Top U V u0 u1 u2 v1 v2 P U0 V0) (hq : q * v1 + r = u0 * 4294967296 + u1)
    (ht : r * 4294967296 + u2 < q * v2) : U < q * V := by
  have e1 := h.hU
  have e2 := h.hV
  have h1 := h.hU0
  have a1 : (u0 * 4294967296 + u1) * 4294967296 + u2 + 1 ≤ q * (v1 * 4294967296 + v2) := by
    rw [← hq]; grind
  have a2 := Nat.mul_le_mul_right P a1
  have a3 : q * (v1 * 4294967296 + v2) * P ≤ q * V := by rw [e2]; grind
  have a4 : U < ((u0 * 4294967296 + u1) * 4294967296 + u2 + 1) * P := by rw [e1]; grind
  omega

/-- If the estimate is not too great for the first three limbs, it is at most one too great. -/
theorem Top.near {U V u0 u1 u2 v1 v2 P U0 V0 q r : Nat} (h : Top U V u0 u1 u2 v1 v2 P U0 V0) (hq : q * v1 + r = u0 * 4294967296 + u1)
    (hb : q < 4294967296) (ht : q * v2 ≤ r * 4294967296 + u2) : q * V ≤ U + V := by
  have e1 := h.hU
  have e2 := h.hV
  have h1 := h.hV0
  have h2 := h.norm
  have a1 : q * (v1 * 4294967296 + v2) ≤ (u0 * 4294967296 + u1) * 4294967296 + u2 := by rw [← hq]; grind
  have a2 := Nat.mul_le_mul_right P a1
  have a3 : q * V0 ≤ q * P := Nat.mul_le_mul_left q (by omega)
  have a4 : q * P ≤ 4294967296 * P := Nat.mul_le_mul_right P (by omega)
  have a5 : 4294967296 * P ≤ (v1 * 4294967296 + v2) * P := Nat.mul_le_mul_right P (by omega)
  have a6 : q * V = q * (v1 * 4294967296 + v2) * P + q * V0 := by rw [e2]; grind
  omega

/-- A great remainder: the estimate is below the base. -/
theorem Top.lt_base {U V u0 u1 u2 v1 v2 P U0 V0 q r : Nat} (h : Top U V u0 u1 u2 v1 v2 P U0 V0) (hq : q * v1 + r = u0 * 4294967296 + u1) (hr : 4294967296 ≤ r) : q < 4294967296 := by
  have h0 := h.u0_le
  have h1 := h.bu1
  have h2 := h.norm
  rcases Nat.lt_or_ge q 4294967296 with g | g
  · exact g
  · exfalso
    have a1 := Nat.mul_le_mul_right v1 g
    have a2 := Nat.mul_le_mul_right 4294967296 h0
    omega

/-- The first estimate is not too small. -/
theorem Top.not_small {U V u0 u1 u2 v1 v2 P U0 V0 q : Nat} (h : Top U V u0 u1 u2 v1 v2 P U0 V0) (hq : u0 * 4294967296 + u1 < (q + 1) * v1) : U < (q + 1) * V := by
  have e1 := h.hU
  have e2 := h.hV
  have h1 := h.hU0
  have h3 := h.bu2
  have a1 : (u0 * 4294967296 + u1) * 4294967296 + u2 + 1 ≤ (q + 1) * v1 * 4294967296 := by omega
  have a2 := Nat.mul_le_mul_right P a1
  have a3 : (q + 1) * v1 * 4294967296 * P ≤ (q + 1) * V := by rw [e2]; grind
  have a4 : U < ((u0 * 4294967296 + u1) * 4294967296 + u2 + 1) * P := by rw [e1]; grind
  omega

/-- What the estimate is good for. -/
def Near (U V q : Nat) : Prop := U < (q + 1) * V ∧ q * V ≤ U + V ∧ q < 4294967296

theorem Near.eq_or {U V q : Nat} (h : Near U V q) : (q * V ≤ U ∧ U / V = q ∧ U % V = U - q * V) ∨ (U < q * V ∧ U / V + 1 = q ∧ U % V = U + V - q * V) := by
  obtain ⟨h1, h2, h3⟩ := h
  rcases Nat.lt_or_ge U (q * V) with g | g
  · right
    have hq : 0 < q := by
      rcases Nat.eq_zero_or_pos q with h0 | h0
      · subst h0; omega
      · exact h0
    obtain ⟨k, rfl⟩ : ∃ k, q = k + 1 := ⟨q - 1, by omega⟩
    have a1 : (k + 1) * V = k * V + V := by grind
    have hd : U / V = k := by
      apply Nat.div_eq_of_lt_le
      · omega
      · exact g
    have hm := Nat.div_add_mod U V
    rw [hd] at hm
    have : V * k = k * V := Nat.mul_comm _ _
    exact ⟨g, by omega, by omega⟩
  · left
    have hd : U / V = q := by
      apply Nat.div_eq_of_lt_le
      · exact g
      · exact h1
    have hm := Nat.div_add_mod U V
    rw [hd] at hm
    have : V * q = q * V := Nat.mul_comm _ _
    exact ⟨g, hd, by omega⟩

/-- One step of subtract: x is the limb of part, d that of the divisor. -/
theorem subtract_step {v u y q c b p x d m b' t : Nat} (h : v + q * y = u + (c + b) * p) (ht : t = q * d + c)
    (hm : m + t % 4294967296 + b = x + 4294967296 * b') :
    (v + p * m) + q * (y + p * d) = (u + p * x) + (t / 4294967296 + b') * (4294967296 * p) := by
  have h1 : t = t % 4294967296 + 4294967296 * (t / 4294967296) := by omega
  generalize t % 4294967296 = l at *
  generalize t / 4294967296 = k at *
  subst h1
  have e1 : p * (m + l + b) = p * (x + 4294967296 * b') := by rw [hm]
  have e2 : p * (l + 4294967296 * k) = p * (q * d + c) := by rw [ht]
  grind

end Go.Proofs.YtnifjdhjimjihaaGreatDoor.Lim
