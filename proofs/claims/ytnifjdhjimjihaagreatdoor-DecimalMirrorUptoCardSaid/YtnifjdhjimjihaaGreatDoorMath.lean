/- Plain arithmetic of numbers in limbs of 32 bits. No program in sight. -/
namespace Go.Proofs.YtnifjdhjimjihaaGreatDoor.Lim

/-- The powers of the base. -/
def pw (k : Nat) : Nat := 4294967296 ^ k
theorem pw_zero : pw 0 = 1 := rfl
theorem pw_succ (k : Nat) : pw (k + 1) = 4294967296 * pw k := by unfold pw; rw [Nat.pow_succ]; omega
theorem pw_add (a b : Nat) : pw (a + b) = pw a * pw b := by unfold pw; rw [Nat.pow_add]
theorem pw_pos (k : Nat) : 0 < pw k := Nat.pos_of_ne_zero (by unfold pw; simp [Nat.pow_eq_zero])
theorem pw_mono {a b : Nat} (h : a ≤ b) : pw a ≤ pw b := Nat.pow_le_pow_right (by omega) h
theorem pw_lt {a b : Nat} (h : a < b) : pw a < pw b := Nat.pow_lt_pow_right (by omega) h

/-- The value of a list of limbs, the least significant one first. -/
def val : List Nat → Nat
  | [] => 0
  | x :: xs => x + 4294967296 * val xs

/-- All limbs are below the base. -/
def Dig (l : List Nat) : Prop := ∀ x ∈ l, x < 4294967296

theorem val_nil : val [] = 0 := rfl
theorem val_cons (x : Nat) (xs : List Nat) : val (x :: xs) = x + 4294967296 * val xs := rfl
theorem val_append (l m : List Nat) : val (l ++ m) = val l + pw l.length * val m := by
  induction l with
  | nil => simp [val, pw]
  | cons x xs ih => rw [List.cons_append, val_cons, val_cons, ih, List.length_cons, pw_succ]; grind
theorem dig_nil : Dig [] := by intro x hx; cases hx
theorem dig_cons {x : Nat} {xs : List Nat} : Dig (x :: xs) ↔ x < 4294967296 ∧ Dig xs := by simp [Dig]
theorem dig_append {l m : List Nat} : Dig (l ++ m) ↔ Dig l ∧ Dig m := by
  unfold Dig
  constructor
  · intro h; exact ⟨fun x hx => h x (by simp [hx]), fun x hx => h x (by simp [hx])⟩
  · rintro ⟨h1, h2⟩ x hx
    rcases List.mem_append.1 hx with h | h
    · exact h1 x h
    · exact h2 x h
theorem dig_take {l : List Nat} (h : Dig l) (k : Nat) : Dig (l.take k) := fun x hx => h x (List.mem_of_mem_take hx)
theorem dig_drop {l : List Nat} (h : Dig l) (k : Nat) : Dig (l.drop k) := fun x hx => h x (List.mem_of_mem_drop hx)
theorem dig_get {l : List Nat} (h : Dig l) {k : Nat} (hk : k < l.length) : l[k] < 4294967296 := h _ (List.getElem_mem hk)
theorem dig_set {l : List Nat} (h : Dig l) (k : Nat) {x : Nat} (hx : x < 4294967296) : Dig (l.set k x) := by
  intro y hy
  rcases List.mem_or_eq_of_mem_set hy with h1 | h1
  · exact h y h1
  · omega
theorem dig_replicate (n : Nat) : Dig (List.replicate n 0) := by
  intro x hx
  rw [List.mem_replicate] at hx
  omega
theorem val_lt {l : List Nat} (h : Dig l) : val l < pw l.length := by
  induction l with
  | nil => simp [val, pw]
  | cons x xs ih =>
    have h1 := dig_cons.1 h
    have := ih h1.2
    rw [val_cons, List.length_cons, pw_succ]
    omega
theorem val_replicate (n : Nat) : val (List.replicate n 0) = 0 := by
  induction n with
  | zero => rfl
  | succ n ih => rw [List.replicate_succ, val_cons, ih]
theorem val_take_drop (l : List Nat) (k : Nat) (hk : k ≤ l.length) : val l = val (l.take k) + pw k * val (l.drop k) := by
  have h := val_append (l.take k) (l.drop k)
  rw [List.take_append_drop, List.length_take, Nat.min_eq_left hk] at h
  exact h
theorem val_take_succ (l : List Nat) (k : Nat) (hk : k < l.length) : val (l.take (k + 1)) = val (l.take k) + pw k * l[k] := by
  rw [List.take_succ_eq_append_getElem hk, val_append, List.length_take, Nat.min_eq_left (by omega), val_cons, val_nil]; grind
theorem val_take_succ' (l : List Nat) (k : Nat) : val (l.take (k + 1)) = val (l.take k) + pw k * l.getD k 0 := by
  rcases Nat.lt_or_ge k l.length with h | h
  · rw [val_take_succ l k h, List.getD_eq_getElem?_getD, List.getElem?_eq_getElem h]; rfl
  · rw [List.take_of_length_le (by omega), List.take_of_length_le h, List.getD_eq_getElem?_getD, List.getElem?_eq_none h]; simp
theorem dig_getD {l : List Nat} (h : Dig l) (k : Nat) : l.getD k 0 < 4294967296 := by
  rcases Nat.lt_or_ge k l.length with g | g
  · rw [List.getD_eq_getElem?_getD, List.getElem?_eq_getElem g]; exact h _ (List.getElem_mem g)
  · rw [List.getD_eq_getElem?_getD, List.getElem?_eq_none g]; simp
theorem getD_of {l : List Nat} {k x : Nat} (h : k < l.length) (hx : l[k] = x) : l.getD k 0 = x := by
  rw [List.getD_eq_getElem?_getD, List.getElem?_eq_getElem h, hx]; rfl
theorem getD_out {l : List Nat} {k : Nat} (h : l.length ≤ k) : l.getD k 0 = 0 := by
  rw [List.getD_eq_getElem?_getD, List.getElem?_eq_none h]; rfl
theorem set_here (s : List Nat) (m x : Nat) : (s ++ List.replicate (m + 1) 0).set s.length x = (s ++ [x]) ++ List.replicate m 0 := by
  rw [List.set_append_right _ _ (Nat.le_refl _), Nat.sub_self, List.replicate_succ, List.set_cons_zero, List.append_assoc]; rfl
/-- A row in the middle of a block: the limbs below i are new. -/
theorem mid_get {pre q p post : List Nat} {i : Nat} (hq : q.length = i) (hi : i < p.length) : (pre ++ (q ++ p.drop i) ++ post)[pre.length + i]? = some p[i] := by
  rw [List.append_assoc, List.getElem?_append_right (by omega), Nat.add_sub_cancel_left, List.append_assoc, List.getElem?_append_right (by omega), hq, Nat.sub_self, List.drop_eq_getElem_cons hi]
  rfl
theorem mid_set {pre q p post : List Nat} {i : Nat} (hq : q.length = i) (hi : i < p.length) (x : Nat) : (pre ++ (q ++ p.drop i) ++ post).set (pre.length + i) x = pre ++ ((q ++ [x]) ++ p.drop (i + 1)) ++ post := by
  rw [List.append_assoc, List.set_append_right _ _ (by omega), Nat.add_sub_cancel_left, List.append_assoc, List.set_append_right _ _ (by omega), hq, Nat.sub_self, List.drop_eq_getElem_cons hi, List.cons_append, List.set_cons_zero]
  simp
theorem val_snoc (s : List Nat) (x : Nat) : val (s ++ [x]) = val s + pw s.length * x := by rw [val_append, val_cons, val_nil]; simp
theorem dig_snoc {s : List Nat} {x : Nat} (h : Dig s) (hx : x < 4294967296) : Dig (s ++ [x]) := dig_append.2 ⟨h, dig_cons.2 ⟨hx, dig_nil⟩⟩
theorem val_drop_cons (l : List Nat) (k : Nat) (hk : k < l.length) : val (l.drop k) = l[k] + 4294967296 * val (l.drop (k + 1)) := by
  rw [List.drop_eq_getElem_cons hk, val_cons]
theorem val_set (l : List Nat) (k x : Nat) (hk : k < l.length) : val (l.set k x) + pw k * l[k] = val l + pw k * x := by
  induction l generalizing k with
  | nil => simp at hk
  | cons y ys ih =>
    cases k with
    | zero => simp [val_cons, pw_zero]; omega
    | succ k =>
      have := ih k (by simpa using hk)
      rw [List.set_cons_succ, val_cons, val_cons, List.getElem_cons_succ, pw_succ]
      grind
theorem val_eq_zero {l : List Nat} (h : ∀ x ∈ l, x = 0) : val l = 0 := by
  induction l with
  | nil => rfl
  | cons x xs ih =>
    have h0 := h x (by simp)
    have := ih (fun y hy => h y (by simp [hy]))
    rw [val_cons]; omega

/-- The normal form: the last limb is not 0. -/
def Nrm (l : List Nat) : Prop := ∀ h : 0 < l.length, l[l.length - 1]'(by omega) ≠ 0

theorem nrm_nil : Nrm [] := by intro h; simp at h
theorem nrm_low {l : List Nat} (h : Nrm l) (hl : 0 < l.length) : pw (l.length - 1) ≤ val l := by
  have h1 := val_take_drop l (l.length - 1) (by omega)
  have h2 := val_drop_cons l (l.length - 1) (by omega)
  have h3 := h hl
  have h4 : 1 ≤ val (l.drop (l.length - 1)) := by omega
  have := Nat.mul_le_mul_left (pw (l.length - 1)) h4
  omega
theorem nrm_zero {l : List Nat} (h : Nrm l) (hv : val l = 0) : l = [] := by
  rcases Nat.eq_zero_or_pos l.length with h0 | h0
  · exact List.eq_nil_of_length_eq_zero h0
  · have := nrm_low h h0
    have := pw_pos (l.length - 1)
    omega

/-- The limbs of a number. -/
def limbs (n : Nat) : List Nat := if h : n = 0 then [] else (n % 4294967296) :: limbs (n / 4294967296)
  termination_by n
  decreasing_by omega

theorem limbs_zero : limbs 0 = [] := by unfold limbs; simp
theorem limbs_pos {n : Nat} (h : n ≠ 0) : limbs n = (n % 4294967296) :: limbs (n / 4294967296) := by rw [limbs, dif_neg h]
theorem val_limbs (n : Nat) : val (limbs n) = n := by
  induction n using Nat.strongRecOn with
  | ind n ih =>
    by_cases h : n = 0
    · subst h; rw [limbs_zero]; rfl
    · rw [limbs_pos h, val_cons, ih _ (by omega)]; omega
theorem dig_limbs (n : Nat) : Dig (limbs n) := by
  induction n using Nat.strongRecOn with
  | ind n ih =>
    by_cases h : n = 0
    · subst h; rw [limbs_zero]; exact dig_nil
    · rw [limbs_pos h]; exact dig_cons.2 ⟨by omega, ih _ (by omega)⟩
theorem limbs_eq_nil {n : Nat} : limbs n = [] ↔ n = 0 := by
  constructor
  · intro h; have := val_limbs n; rw [h] at this; exact this.symm
  · intro h; subst h; exact limbs_zero
theorem limbs_of {l : List Nat} (hd : Dig l) (hn : Nrm l) : limbs (val l) = l := by
  induction l with
  | nil => exact limbs_zero
  | cons x xs ih =>
    have h1 := dig_cons.1 hd
    have hn' : Nrm xs := by
      intro h
      have := hn (by simp)
      have e : (x :: xs)[(x :: xs).length - 1]'(by simp) = xs[xs.length - 1]'(by omega) := by
        rw [List.getElem_cons]
        simp only [List.length_cons, Nat.add_sub_cancel]
        rw [dif_neg (by omega)]
      rw [e] at this
      exact this
    have hne : val (x :: xs) ≠ 0 := by
      intro h0
      have := nrm_zero hn h0
      cases this
    rw [limbs_pos hne, val_cons]
    have e1 : (x + 4294967296 * val xs) % 4294967296 = x := by omega
    have e2 : (x + 4294967296 * val xs) / 4294967296 = val xs := by omega
    rw [e1, e2, ih h1.2 hn']
theorem nrm_limbs (n : Nat) : Nrm (limbs n) := by
  induction n using Nat.strongRecOn with
  | ind n ih =>
    by_cases h : n = 0
    · subst h; rw [limbs_zero]; exact nrm_nil
    · intro hl
      have e := limbs_pos h
      by_cases h2 : n / 4294967296 = 0
      · have e2 : limbs n = [n % 4294967296] := by rw [e, h2, limbs_zero]
        simp only [e2]
        simp
        omega
      · have hp : 0 < (limbs (n / 4294967296)).length := by
          rcases Nat.eq_zero_or_pos (limbs (n / 4294967296)).length with h0 | h0
          · exact absurd (limbs_eq_nil.1 (List.eq_nil_of_length_eq_zero h0)) h2
          · exact h0
        have := ih (n / 4294967296) (by omega) hp
        simp only [e, List.length_cons, Nat.add_sub_cancel]
        rw [List.getElem_cons, dif_neg (by omega)]
        exact this

/-- How many limbs a number has. -/
def nlen (n : Nat) : Nat := (limbs n).length
theorem lt_nlen (n : Nat) : n < pw (nlen n) := by
  have := val_lt (dig_limbs n); rw [val_limbs] at this; exact this
theorem nlen_le {n k : Nat} (h : n < pw k) : nlen n ≤ k := by
  rcases Nat.lt_or_ge k (nlen n) with h1 | h1
  · have h2 := nrm_low (nrm_limbs n) (by unfold nlen at h1; omega)
    rw [val_limbs] at h2
    have := pw_mono (a := k) (b := (limbs n).length - 1) (by unfold nlen at h1; omega)
    omega
  · exact h1
theorem nlen_mono {a b : Nat} (h : a ≤ b) : nlen a ≤ nlen b := nlen_le (Nat.lt_of_le_of_lt h (lt_nlen b))
theorem nlen_val {l : List Nat} (h : Dig l) : nlen (val l) ≤ l.length := nlen_le (val_lt h)
theorem nlen_mul (a b : Nat) : nlen (a * b) ≤ nlen a + nlen b := by
  apply nlen_le
  rw [pw_add]
  exact Nat.mul_lt_mul'' (lt_nlen a) (lt_nlen b)
theorem nlen_add (a b : Nat) : nlen (a + b) ≤ max (nlen a) (nlen b) + 1 := by
  apply nlen_le
  have h1 := lt_nlen a
  have h2 := lt_nlen b
  have h3 := pw_mono (Nat.le_max_left (nlen a) (nlen b))
  have h4 := pw_mono (Nat.le_max_right (nlen a) (nlen b))
  rw [pw_succ]
  omega
theorem nlen_zero : nlen 0 = 0 := by unfold nlen; rw [limbs_zero]; rfl
theorem nlen_eq_zero {n : Nat} : nlen n = 0 ↔ n = 0 := by
  unfold nlen
  rw [List.length_eq_zero_iff, limbs_eq_nil]

/-- How many limbs are left when the high zeros are taken away. -/
def tl (l : List Nat) : Nat := nlen (val l)
theorem tl_le {l : List Nat} (h : Dig l) : tl l ≤ l.length := nlen_val h
/-- If all from k on are 0, and the one before k is not, then k is the length. -/
theorem limbs_take {l : List Nat} {k : Nat} (hd : Dig l) (hk : k ≤ l.length) (hz : val (l.drop k) = 0) (hn : ∀ h : 0 < k, l[k - 1]'(by omega) ≠ 0) : limbs (val l) = l.take k := by
  have h1 := val_take_drop l k hk
  rw [hz] at h1
  have h2 : val l = val (l.take k) := by omega
  rw [h2]
  refine limbs_of (dig_take hd k) ?_
  intro h
  have hl : (l.take k).length = k := by rw [List.length_take]; omega
  have h3 := hn (by omega)
  have e : (l.take k)[(l.take k).length - 1]'(by omega) = l[k - 1]'(by omega) := by
    rw [List.getElem_take]
    congr 1
    omega
  rw [e]
  exact h3

theorem limbs_prefix {l : List Nat} (hd : Dig l) : limbs (val l) = l.take (limbs (val l)).length := by
  induction l with
  | nil => rw [val_nil, limbs_zero]; rfl
  | cons x xs ih =>
    have h1 := dig_cons.1 hd
    by_cases h0 : val (x :: xs) = 0
    · rw [h0, limbs_zero]; rfl
    · rw [limbs_pos h0, val_cons]
      have e1 : (x + 4294967296 * val xs) % 4294967296 = x := by omega
      have e2 : (x + 4294967296 * val xs) / 4294967296 = val xs := by omega
      rw [e1, e2, List.length_cons, List.take_succ_cons, ← ih h1.2]
/-- A list in normal form that is longer is greater. -/
theorem lt_of_length {a b : List Nat} (ha : Dig a) (hb : Nrm b) (h : a.length < b.length) : val a < val b := by
  have h1 := val_lt ha
  have h2 := nrm_low hb (by omega)
  have h3 := pw_mono (a := a.length) (b := b.length - 1) (by omega)
  omega
/-- Lists of one length that agree from k + 1 on are compared at k. -/
theorem lt_of_limb {a b : List Nat} (ha : Dig a) {k : Nat} (hk : k < a.length) (hl : a.length = b.length) (he : a.drop (k + 1) = b.drop (k + 1))
    (h : a[k] < b[k]'(by omega)) : val a < val b := by
  have h1 := val_take_drop a k (by omega)
  have h2 := val_take_drop b k (by omega)
  have h3 := val_drop_cons a k hk
  have h4 := val_drop_cons b k (by omega)
  rw [he] at h3
  have h5 : val (a.drop k) + 1 ≤ val (b.drop k) := by omega
  have h6 := val_lt (dig_take ha k)
  rw [List.length_take, Nat.min_eq_left (by omega)] at h6
  have h7 := Nat.mul_le_mul_left (pw k) h5
  rw [Nat.mul_add] at h7
  omega
theorem drop_eq_of {a b : List Nat} {k : Nat} (hk : k < a.length) (hl : a.length = b.length) (he : a.drop (k + 1) = b.drop (k + 1)) (h : a[k] = b[k]'(by omega)) : a.drop k = b.drop k := by
  rw [List.drop_eq_getElem_cons hk, List.drop_eq_getElem_cons (show k < b.length by omega), he, h]

/-- Go's comparison as a number. -/
def cmpI (a b : Nat) : Int := if a < b then -1 else if b < a then 1 else 0
theorem cmpI_lt {a b : Nat} (h : a < b) : cmpI a b = -1 := if_pos h
theorem cmpI_gt {a b : Nat} (h : b < a) : cmpI a b = 1 := by unfold cmpI; rw [if_neg (by omega), if_pos h]
theorem cmpI_bd (a b : Nat) : -1 ≤ cmpI a b ∧ cmpI a b ≤ 1 := by unfold cmpI; split <;> (try split) <;> omega
theorem cmpI_eq (a : Nat) : cmpI a a = 0 := by unfold cmpI; simp
end Go.Proofs.YtnifjdhjimjihaaGreatDoor.Lim
