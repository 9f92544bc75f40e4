/- Plain arithmetic of the long division. No program in sight. -/
import Derived.Test.YtnifjdhjimjihaaGreatDoorKnuth
namespace Go.Proofs.YtnifjdhjimjihaaGreatDoor.Lim

/-- The last limb of a list, from its value. -/
theorem val_last {l : List Nat} {n : Nat} (hl : l.length = n + 1) : val l = val (l.take n) + pw n * l.getD n 0 := by
  have := val_take_succ' l n
  rw [← hl, List.take_of_length_le (Nat.le_refl _)] at this
  exact this
theorem val_take_lt {l : List Nat} (hd : Dig l) {n : Nat} (hn : n ≤ l.length) : val (l.take n) < pw n := by
  have := val_lt (dig_take hd n)
  rw [List.length_take, Nat.min_eq_left hn] at this
  exact this
theorem alg1 (a P x y z : Nat) : a + P * x + (4294967296 * P) * y + (4294967296 * (4294967296 * P)) * z = ((z * 4294967296 + y) * 4294967296 + x) * P + a := by grind
theorem alg2 (a P x y : Nat) : a + P * x + (4294967296 * P) * y = (y * 4294967296 + x) * P + a := by grind
theorem alg3 (b P s : Nat) : b * P * s = b * s * P := by grind
theorem alg4 (T P V p d q : Nat) : T + P * p + V * (P * (d + 4294967296 * q)) = T + P * (p + d * V) + V * ((4294967296 * P) * q) := by grind
theorem alg5 (a b c : Nat) : a * b * c = a * c * b := by grind
theorem alg6 (A B : Nat) : A * B * 2147483648 = A * (2147483648 * B) := by grind
/-- The two lists of an estimate. -/
theorem top_of {p v : List Nat} {m : Nat} (hp : Dig p) (hv : Dig v) (lp : p.length = m + 3) (lv : v.length = m + 2) (hn : 2147483648 ≤ v.getD (m + 1) 0) (hlt : val p < val v * 4294967296) :
    Top (val p) (val v) (p.getD (m + 2) 0) (p.getD (m + 1) 0) (p.getD m 0) (v.getD (m + 1) 0) (v.getD m 0) (pw m) (val (p.take m)) (val (v.take m)) := by
  refine ⟨?_, ?_, val_take_lt hp (by omega), val_take_lt hv (by omega), dig_getD hp _, dig_getD hp _, dig_getD hp _, dig_getD hv _, dig_getD hv _, hn, hlt⟩
  · have h1 := val_last lp
    have h2 := val_take_succ' p (m + 1)
    have h3 := val_take_succ' p m
    have e1 : pw (m + 1) = 4294967296 * pw m := pw_succ m
    have e2 : pw (m + 2) = 4294967296 * (4294967296 * pw m) := by rw [← e1]; exact pw_succ (m + 1)
    rw [h1, h2, h3, e1, e2]
    exact alg1 _ _ _ _ _
  · have h1 := val_last lv
    have h2 := val_take_succ' v m
    rw [h1, h2, pw_succ]
    exact alg2 _ _ _ _

/-- The divisor, shifted so that its highest bit is set. -/
theorem norm_divisor {n2 b s m : Nat} {D : List Nat} (hD : Dig D) (lD : D.length = m + 1 + 1) (hv : val D = n2 * s) (h1 : b * pw m ≤ n2) (h2 : n2 < (b + 1) * pw m) (hs1 : (b + 1) * s ≤ 4294967296) (hs2 : 2147483648 ≤ b * s) (hs0 : 0 < s) :
    val (D.take (m + 1)) = n2 * s ∧ 2147483648 ≤ (D.take (m + 1)).getD m 0 := by
  have hlt : val D < pw (m + 1) := by
    rw [hv, pw_succ]
    have a1 : n2 * s < (b + 1) * pw m * s := Nat.mul_lt_mul_of_pos_right h2 hs0
    have a2 := alg3 (b + 1) (pw m) s
    have a3 := Nat.mul_le_mul_right (pw m) hs1
    omega
  have e1 := val_last lD
  have hz : D.getD (m + 1) 0 = 0 := by
    rcases Nat.eq_zero_or_pos (D.getD (m + 1) 0) with h0 | h0
    · exact h0
    · have := Nat.mul_le_mul_left (pw (m + 1)) h0
      omega
  have e2 : val (D.take (m + 1)) = n2 * s := by rw [← hv, e1, hz]; omega
  refine ⟨e2, ?_⟩
  have lT : (D.take (m + 1)).length = m + 1 := by simp; omega
  have e3 := val_last lT
  have hlow := val_take_lt (dig_take hD (m + 1)) (n := m) (by omega)
  have a1 : b * s * pw m ≤ n2 * s := by
    have := Nat.mul_le_mul_right s h1
    have e := alg3 b (pw m) s
    omega
  have a2 := Nat.mul_le_mul_right (pw m) hs2
  rcases Nat.lt_or_ge ((D.take (m + 1)).getD m 0) 2147483648 with h | h
  · have := Nat.mul_le_mul_left (pw m) (show (D.take (m + 1)).getD m 0 + 1 ≤ 2147483648 by omega)
    rw [Nat.mul_add, Nat.mul_one, Nat.mul_comm (pw m) 2147483648] at this
    omega
  · exact h

/-- What the loop keeps: R of la + 1 limbs, the quotient's limbs q from k on. -/
structure Dv (N V : Nat) (R q : List Nat) (k : Nat) : Prop where
  dig : Dig R
  digq : Dig q
  top : val (R.drop k) < V
  eq : val R + V * (pw k * val q) = N

/-- The part that is divided next. -/
theorem Dv.part {N V : Nat} {R q : List Nat} {j n : Nat} (h : Dv N V R q (j + 1)) (hV : V < pw n) (hl : j + n + 1 ≤ R.length) :
    val (R.drop (j + n + 1)) = 0 ∧ val ((R.drop j).take (n + 1)) = val (R.drop j) ∧ val ((R.drop j).take (n + 1)) < V * 4294967296 := by
  have hz : val (R.drop (j + n + 1)) = 0 := by
    have h1 := val_take_drop (R.drop (j + 1)) n (by simp; omega)
    rw [List.drop_drop, show j + 1 + n = j + n + 1 from by omega] at h1
    have h2 := h.top
    rcases Nat.eq_zero_or_pos (val (R.drop (j + n + 1))) with h0 | h0
    · exact h0
    · have := Nat.mul_le_mul_left (pw n) h0
      omega
  have h3 := val_take_drop (R.drop j) (n + 1) (by simp; omega)
  rw [List.drop_drop, show j + (n + 1) = j + n + 1 from by omega, hz] at h3
  have h4 := val_drop_cons R j (by omega)
  have h5 := dig_get h.dig (show j < R.length by omega)
  have h6 := h.top
  refine ⟨hz, by omega, ?_⟩
  have h7 := Nat.mul_le_mul_left 4294967296 (show val (R.drop (j + 1)) + 1 ≤ V by omega)
  rw [Nat.mul_comm V]
  omega
/-- One limb of the quotient. -/
theorem Dv.step {N V : Nat} {R q : List Nat} {j n : Nat} (h : Dv N V R q (j + 1)) (hV : V < pw n) (hl : j + n + 1 ≤ R.length) {p' : List Nat} {d : Nat} (hp : Dig p') (lp : p'.length = n + 1) (hd : d < 4294967296)
    (he : val p' + d * V = val ((R.drop j).take (n + 1))) (hlt : val p' < V) : Dv N V (R.take j ++ p' ++ R.drop (j + n + 1)) (d :: q) j := by
  obtain ⟨hz, h3, _⟩ := h.part hV hl
  have lt : (R.take j).length = j := by simp; omega
  have hdrop : (R.take j ++ p' ++ R.drop (j + n + 1)).drop j = p' ++ R.drop (j + n + 1) := by
    rw [List.append_assoc, List.drop_append_of_le_length (by omega), List.drop_of_length_le (by omega), List.nil_append]
  refine ⟨dig_append.2 ⟨dig_append.2 ⟨dig_take h.dig _, hp⟩, dig_drop h.dig _⟩, dig_cons.2 ⟨hd, h.digq⟩, ?_, ?_⟩
  · rw [hdrop, val_append, hz]; simpa using hlt
  · have e1 := val_take_drop R j (by omega)
    have e2 : val (R.take j ++ p' ++ R.drop (j + n + 1)) = val (R.take j) + pw j * val p' := by
      rw [List.append_assoc, val_append, lt, val_append, hz]; simp
    have e3 := h.eq
    rw [e2, val_cons, ← e3, e1, ← h3, ← he, pw_succ]
    exact alg4 _ _ _ _ _ _
/-- The end. -/
theorem Dv.last {n1 n2 s : Nat} {R q : List Nat} (h : Dv (n1 * s) (n2 * s) R q 0) (hs : 0 < s) {n : Nat} (hV : n2 * s < pw n) (hl : n ≤ R.length) : val q = n1 / n2 ∧ val (R.take n) / s = n1 % n2 := by
  have h1 := h.top
  have h2 := h.eq
  rw [List.drop_zero] at h1
  rw [pw_zero, Nat.one_mul] at h2
  have hz : val (R.drop n) = 0 := by
    have e := val_take_drop R n hl
    rcases Nat.eq_zero_or_pos (val (R.drop n)) with h0 | h0
    · exact h0
    · have := Nat.mul_le_mul_left (pw n) h0
      omega
  have e := val_take_drop R n hl
  rw [hz] at e
  have e' : val (R.take n) = val R := by omega
  have hn2 : 0 < n2 := by
    rcases Nat.eq_zero_or_pos n2 with h0 | h0
    · subst h0; omega
    · exact h0
  have hle : n2 * val q ≤ n1 := by
    rcases Nat.lt_or_ge n1 (n2 * val q) with hlt | hge
    · have := Nat.mul_lt_mul_of_pos_right hlt hs
      have := alg5 n2 (val q) s
      omega
    · exact hge
  have hr : val R = (n1 - n2 * val q) * s := by
    have : (n1 - n2 * val q) * s + n2 * val q * s = n1 * s := by rw [← Nat.add_mul, Nat.sub_add_cancel hle]
    have := alg5 n2 (val q) s
    omega
  have hlt : n1 - n2 * val q < n2 := by
    rw [hr] at h1
    exact Nat.lt_of_mul_lt_mul_right h1
  have hq : n1 / n2 = val q := by
    apply Nat.div_eq_of_lt_le
    · rw [Nat.mul_comm]; exact hle
    · rw [Nat.add_mul, Nat.mul_comm]; omega
  refine ⟨hq.symm, ?_⟩
  rw [e', hr, Nat.mul_div_cancel _ hs]
  have := Nat.div_add_mod n1 n2
  rw [hq] at this
  omega
/-- The start. -/
theorem Dv.start {n1 n2 s : Nat} {R : List Nat} {la n k : Nat} (hd : Dig R) (hR : val R = n1 * s) (h1 : n1 < pw la) (hs : s ≤ 2147483648) (hk : la = k + n) (hV : 2147483648 * pw n ≤ n2 * s) (hl : k ≤ R.length) (hs0 : 0 < s) : Dv (n1 * s) (n2 * s) R [] k := by
  refine ⟨hd, dig_nil, ?_, by rw [val_nil, hR]; simp⟩
  have e := val_take_drop R k hl
  subst hk
  have a1 : n1 * s < pw (k + n) * s := Nat.mul_lt_mul_of_pos_right h1 hs0
  have a2 : pw (k + n) * s ≤ pw (k + n) * 2147483648 := Nat.mul_le_mul_left _ hs
  rw [pw_add] at a1 a2
  rw [alg6] at a2
  have a4 : pw k * (2147483648 * pw n) ≤ pw k * (n2 * s) := Nat.mul_le_mul_left _ hV
  refine Nat.lt_of_mul_lt_mul_left (a := pw k) ?_
  rw [hR] at e
  have a5 := Nat.le_trans (Nat.le_of_lt a1) (Nat.le_trans a2 a4)
  have a6 : n1 * s < pw k * (n2 * s) := Nat.lt_of_lt_of_le a1 (Nat.le_trans a2 a4)
  refine Nat.lt_of_le_of_lt ?_ a6
  rw [e]
  exact Nat.le_add_left _ _
/-- addBack gives the remainder. -/
theorem back_eq {U V q a b k P : Nat} (h1 : a + q * V = U + P) (h2 : b + k * P = a + V) (hn : Near U V q) (hlt : U < q * V) (hb : b < P) (hV : V < P) : b = U % V ∧ q - 1 = U / V := by
  rcases hn.eq_or with ⟨h, _⟩ | ⟨_, hd, hm⟩
  · omega
  · refine ⟨?_, by rw [← hd, Nat.add_sub_cancel]⟩
    have hV0 : 0 < V := by
      rcases Nat.eq_zero_or_pos V with h0 | h0
      · subst h0; omega
      · exact h0
    have hr : U % V < V := Nat.mod_lt _ hV0
    have h3 : b + k * P = U % V + P := by
      have := hn.2.1
      omega
    have h4 : (b + P * k) % P = (U % V + P) % P := by rw [Nat.mul_comm, h3]
    rw [Nat.add_mul_mod_self_left, Nat.mod_eq_of_lt hb, Nat.add_mod_right, Nat.mod_eq_of_lt (by omega)] at h4
    exact h4
/-- The shift that normalizes a limb. -/
theorem shift_facts {b L : Nat} (hb : 0 < b) (h1 : 2 ^ (L - 1) ≤ b) (h2 : b < 2 ^ L) (hL : 1 ≤ L) (hL2 : L ≤ 32) : (b + 1) * 2 ^ (32 - L) ≤ 4294967296 ∧ 2147483648 ≤ b * 2 ^ (32 - L) ∧ 2 ^ (32 - L) ≤ 2147483648 := by
  have hp := Nat.two_pow_pos (32 - L)
  refine ⟨?_, ?_, ?_⟩
  · have := Nat.mul_le_mul_right (2 ^ (32 - L)) (show b + 1 ≤ 2 ^ L by omega)
    rw [← Nat.pow_add, show L + (32 - L) = 32 from by omega] at this
    exact this
  · have := Nat.mul_le_mul_right (2 ^ (32 - L)) h1
    rw [← Nat.pow_add, show L - 1 + (32 - L) = 31 from by omega] at this
    exact this
  · exact Nat.pow_le_pow_right (show 0 < 2 by omega) (show 32 - L ≤ 31 by omega)
end Go.Proofs.YtnifjdhjimjihaaGreatDoor.Lim
