/- The notation of decimal numbers: what Print writes is what Parse reads. Plain text, no program in sight. -/
import Derived.Test.YtnifjdhjimjihaaGreatDoorNear
set_option linter.unusedSimpArgs false
set_option linter.unusedVariables false
namespace Go.Proofs.YtnifjdhjimjihaaGreatDoor
open Go.RowKit Lim

theorem valD_app (a b : List UInt8) : valD (a ++ b) = valD a * 10 ^ b.length + valD b := by
  have key : ∀ (b : List UInt8) (x : Nat), b.foldl (fun a b => a * 10 + (b.toNat - 48)) x = x * 10 ^ b.length + b.foldl (fun a b => a * 10 + (b.toNat - 48)) 0 := by
    intro b
    induction b with
    | nil => intro x; simp
    | cons c b ih =>
      intro x
      rw [List.foldl_cons, List.foldl_cons, ih (x * 10 + (c.toNat - 48)), ih (0 * 10 + (c.toNat - 48)), List.length_cons, Nat.pow_succ]
      generalize 10 ^ b.length = q
      grind
  unfold valD
  rw [List.foldl_append]
  exact key b _
theorem valD_cons (c : UInt8) (b : List UInt8) : valD (c :: b) = (c.toNat - 48) * 10 ^ b.length + valD b := by
  have := valD_app [c] b
  simpa [valD] using this
theorem dig8 (d : Nat) (h : d < 10) : (UInt8.ofNat (48 + d)).toNat = 48 + d := by
  simp [UInt8.toNat_ofNat']
  omega
theorem padD_val : ∀ (k g : Nat), g < 10 ^ k → valD (padD k g) = g
  | 0, g, h => by simp at h; subst h; rfl
  | k + 1, g, h => by
    have h1 : g / 10 < 10 ^ k := by rw [Nat.pow_succ] at h; omega
    rw [padD, valD_snoc, padD_val k _ h1, dig8 _ (Nat.mod_lt _ (by omega))]
    omega
theorem padD_all : ∀ (k g : Nat), (padD k g).all isD = true
  | 0, g => rfl
  | k + 1, g => by
    rw [padD, List.all_append, padD_all k]
    have h := dig8 (g % 10) (Nat.mod_lt _ (by omega))
    have h2 : g % 10 < 10 := Nat.mod_lt _ (by omega)
    simp only [List.all_cons, List.all_nil, Bool.and_true, Bool.true_and]
    rw [isD_iff, h]
    omega
theorem padD_of (ds : List UInt8) (h : ds.all isD = true) : padD ds.length (valD ds) = ds := by
  have key : ∀ (k : Nat) (ds : List UInt8), ds.length = k → ds.all isD = true → padD k (valD ds) = ds := by
    intro k
    induction k with
    | zero => intro ds hk _; simp [List.eq_nil_of_length_eq_zero hk, padD]
    | succ k ih =>
      intro ds hk hd
      obtain ⟨a, b, rfl⟩ : ∃ a b, ds = a ++ [b] := ⟨ds.dropLast, ds.getLast (by intro hc; simp [hc] at hk), (List.dropLast_concat_getLast _).symm⟩
      simp only [List.all_append, List.all_cons, List.all_nil, Bool.and_true, Bool.and_eq_true] at hd
      have hb := isD_iff.1 hd.2
      rw [padD, valD_snoc]
      have e1 : (valD a * 10 + (b.toNat - 48)) / 10 = valD a := by omega
      have e2 : (valD a * 10 + (b.toNat - 48)) % 10 = b.toNat - 48 := by omega
      rw [e1, e2, ih a (by simpa using hk) hd.1]
      congr 2
      apply UInt8.toNat_inj.1
      rw [dig8 _ (by omega)]
      omega
  exact key _ ds rfl h
theorem valD_bound {ds : List UInt8} (h : ds.all isD = true) : valD ds < 10 ^ ds.length := by
  have := valD_lt h ds.length (Nat.le_refl _)
  rwa [List.take_length] at this
theorem nDigits_le {n k : Nat} (hk : 0 < k) (h : n < 10 ^ k) : Lib.nDigits n ≤ k := by
  by_cases h10 : n < 10
  · rw [Lib.nDigits_small h10]; omega
  · apply Nat.le_of_not_lt
    intro hc
    obtain ⟨j, hj⟩ : ∃ j, Lib.nDigits n = j + 1 := ⟨Lib.nDigits n - 1, by omega⟩
    have h1 := pow_nDigits j n hj (by omega)
    have h2 : 10 ^ k ≤ 10 ^ j := Nat.pow_le_pow_right (by omega) (by omega)
    omega
def places1 (n p : Nat) : Nat := max (p + 1) (Lib.nDigits n)
theorem decT1_pad (n p : Nat) : decT1 n p = padD (places1 n p) n := by
  have hn := Lib.lt_pow_nDigits n
  have hp := Lib.nDigits_pos n
  unfold decT1 places1
  rw [Lib.decDigits_length]
  obtain ⟨k, hk⟩ : ∃ k, max (p + 1) (Lib.nDigits n) = k + 1 := ⟨max (p + 1) (Lib.nDigits n) - 1, by omega⟩
  rw [hk, padD_eq k n (Nat.lt_of_lt_of_le hn (Nat.pow_le_pow_right (by omega) (by omega)))]
  split
  · congr 2
    omega
  · have : k + 1 - Lib.nDigits n = 0 := by omega
    rw [this]
    rfl
theorem decT1_val (n p : Nat) : valD (decT1 n p) = n := by
  rw [decT1_pad]
  refine padD_val _ _ (Nat.lt_of_lt_of_le (Lib.lt_pow_nDigits n) (Nat.pow_le_pow_right (by omega) ?_))
  unfold places1
  omega
theorem decT1_all (n p : Nat) : (decT1 n p).all isD = true := by rw [decT1_pad]; exact padD_all _ _
theorem decT1_length (n p : Nat) : (decT1 n p).length = places1 n p := by rw [decT1_pad, padD_length]
/-- The digits of a number are its digits. -/
theorem decT1_of {ds : List UInt8} (h : ds.all isD = true) {p : Nat} (hK : places1 (valD ds) p = ds.length) : decT1 (valD ds) p = ds := by
  rw [decT1_pad, hK]
  exact padD_of ds h
theorem head_dec (n : Nat) (h : 0 < n) : ∃ b l, Lib.decDigits n = b :: l ∧ b ≠ 48 := by
  induction n using Nat.strongRecOn with
  | _ n ih =>
    by_cases h10 : n < 10
    · refine ⟨_, _, Lib.decDigits_one h10, fun hc => ?_⟩
      have h1 := congrArg UInt8.toNat hc
      rw [dig8 n h10] at h1
      simp at h1
      omega
    · obtain ⟨b, l, h1, h2⟩ := ih (n / 10) (by omega) (by omega)
      exact ⟨b, l ++ [UInt8.ofNat (48 + n % 10)], by rw [dec_big h10, h1]; rfl, h2⟩
theorem isDs_of {ds : List UInt8} (h : ds.all isD = true) (hl : 0 < ds.length) : isDs ds = true := by
  unfold isDs
  rw [h]
  cases ds with
  | nil => simp at hl
  | cons => rfl
theorem isDs_all {ds : List UInt8} (h : isDs ds = true) : ds.all isD = true ∧ 0 < ds.length := by
  simp only [isDs, Bool.and_eq_true, Bool.not_eq_true'] at h
  refine ⟨h.1, ?_⟩
  cases ds with
  | nil => simp at h
  | cons => simp
/-! Zeros. -/
theorem valD_zero {ds : List UInt8} (h : ∀ b ∈ ds, b = 48) : valD ds = 0 := by
  induction ds with
  | nil => rfl
  | cons c b ih =>
    rw [valD_cons, ih fun x hx => h x (by simp [hx]), h c (by simp)]
    simp
theorem zero_valD {ds : List UInt8} (hd : ds.all isD = true) (h : valD ds = 0) : ∀ b ∈ ds, b = 48 := by
  induction ds with
  | nil => intro b hb; cases hb
  | cons c b ih =>
    simp only [List.all_cons, Bool.and_eq_true] at hd
    rw [valD_cons] at h
    have hp : 0 < 10 ^ b.length := Nat.pow_pos (by omega)
    have hc := isD_iff.1 hd.1
    have h1 : valD b = 0 := by omega
    have h2 : c.toNat - 48 = 0 := by
      apply Nat.eq_zero_of_not_pos
      intro hq
      have := Nat.mul_pos hq hp
      omega
    intro x hx
    rcases List.mem_cons.1 hx with rfl | hx
    · apply UInt8.toNat_inj.1
      show x.toNat = 48
      omega
    · exact ih hd.2 h1 x hx
theorem dropWhile_nil {l : List UInt8} (h : l.dropWhile (· == 48) = []) : ∀ b ∈ l, b = 48 := by
  induction l with
  | nil => intro b hb; cases hb
  | cons c l ih =>
    simp only [List.dropWhile_cons] at h
    split at h
    · rename_i hc
      intro x hx
      rcases List.mem_cons.1 hx with rfl | hx
      · simpa using hc
      · exact ih h x hx
    · cases h
theorem dropWhile_all {l : List UInt8} (h : ∀ b ∈ l, b = 48) : l.dropWhile (· == 48) = [] := by
  induction l with
  | nil => rfl
  | cons c l ih =>
    have hc : c = 48 := h c (by simp)
    subst hc
    simp only [List.dropWhile_cons, beq_self_eq_true, if_true]
    exact ih fun x hx => h x (by simp [hx])
theorem mem_dropWhile {l : List UInt8} {p : UInt8 → Bool} (h : ∀ b ∈ l.dropWhile p, b = 48) (hp : ∀ b, p b = true → b = 48) : ∀ b ∈ l, b = 48 := by
  induction l with
  | nil => intro b hb; cases hb
  | cons c l ih =>
    simp only [List.dropWhile_cons] at h
    split at h
    · rename_i hc
      intro x hx
      rcases List.mem_cons.1 hx with rfl | hx
      · exact hp _ hc
      · exact ih h x hx
    · exact h
theorem trimB_nil (l : List UInt8) : (Lib.trimB l 48).isEmpty = true ↔ ∀ b ∈ l, b = 48 := by
  unfold Lib.trimB Lib.trimLeftB Lib.trimRightB
  constructor
  · intro h
    have h1 := dropWhile_nil (List.isEmpty_iff.1 h)
    have h2 : ∀ b ∈ l.reverse.dropWhile (· == 48), b = 48 := fun b hb => h1 b (by simpa using hb)
    have h3 := mem_dropWhile h2 (fun b hb => by simpa using hb)
    exact fun b hb => h3 b (by simpa using hb)
  · intro h
    have h1 : l.reverse.dropWhile (· == 48) = [] := dropWhile_all fun b hb => h b (by simpa using hb)
    rw [h1]
    rfl
/-! The point. -/
theorem index_miss {s : List UInt8} (h : (46 : UInt8) ∉ s) : Lib.index s [46] = -1 := by
  induction s with
  | nil => rfl
  | cons c s ih =>
    simp only [List.mem_cons, not_or] at h
    unfold Lib.index
    have : ([46] : List UInt8).isPrefixOf (c :: s) = false := by
      simp [List.isPrefixOf]
      exact h.1
    rw [this, ih h.2]
    rfl
theorem index_at {a b : List UInt8} (h : (46 : UInt8) ∉ a) : Lib.index (a ++ 46 :: b) [46] = (a.length : Int) := by
  induction a with
  | nil =>
    rw [List.nil_append]
    unfold Lib.index
    simp [List.isPrefixOf]
  | cons c a ih =>
    simp only [List.mem_cons, not_or] at h
    rw [List.cons_append]
    unfold Lib.index
    have : ([46] : List UInt8).isPrefixOf (c :: (a ++ 46 :: b)) = false := by
      simp [List.isPrefixOf]
      exact h.1
    rw [this, ih h.2]
    have h2 : ((a.length : Int) == -1) = false := by rw [beq_eq_false_iff_ne]; omega
    simp [h2]
theorem cut_miss {s : List UInt8} (h : (46 : UInt8) ∉ s) : Lib.cut s [46] = (s, [], false) := by
  unfold Lib.cut
  rw [index_miss h]
  rfl
theorem cut_at {a b : List UInt8} (h : (46 : UInt8) ∉ a) : Lib.cut (a ++ 46 :: b) [46] = (a, b, true) := by
  unfold Lib.cut
  rw [index_at h, if_pos (by omega)]
  simp
theorem cut_cases (s : List UInt8) : ((46 : UInt8) ∉ s) ∨ ∃ a b, s = a ++ 46 :: b ∧ (46 : UInt8) ∉ a := by
  induction s with
  | nil => left; simp
  | cons c s ih =>
    by_cases hc : c = 46
    · exact .inr ⟨[], s, by rw [hc]; rfl, by simp⟩
    · rcases ih with h | ⟨a, b, rfl, h⟩
      · left; simp [h]; exact fun hq => hc hq.symm
      · exact .inr ⟨c :: a, b, rfl, by simp [h]; exact fun hq => hc hq.symm⟩
theorem no_point {ds : List UInt8} (h : ds.all isD = true) : (46 : UInt8) ∉ ds := fun hm => by
  have := isD_iff.1 (List.all_eq_true.1 h _ hm)
  simp at this
/-! Sign, digits, point. -/
theorem sign_cases (s : List UInt8) : (pNeg s = true ∧ s = 45 :: pDig s) ∨ (pNeg s = false ∧ s = pDig s) := by
  unfold pNeg pDig Lib.trimPrefix Lib.hasPrefix
  cases s with
  | nil => right; simp [List.isPrefixOf]
  | cons c s =>
    by_cases hc : c = 45
    · subst hc; left; simp [List.isPrefixOf]
    · right
      have : ([45] : List UInt8).isPrefixOf (c :: s) = false := by simp [List.isPrefixOf]; exact fun h => hc h.symm
      rw [this]
      simp
theorem after_nil (s : List UInt8) (h : pPt s = false) : pAft s = [] := by
  unfold pPt at h
  unfold pAft
  rcases cut_cases (pDig s) with h1 | ⟨a, b, h1, h2⟩
  · rw [cut_miss h1]
  · rw [h1, cut_at h2] at h
    cases h
theorem parts_of (s : List UInt8) : (pPt s = false ∧ pDig s = pBef s ∧ pAft s = []) ∨ (pPt s = true ∧ pDig s = pBef s ++ 46 :: pAft s) := by
  unfold pPt pBef pAft
  rcases cut_cases (pDig s) with h1 | ⟨a, b, h1, h2⟩
  · left; rw [cut_miss h1]; exact ⟨rfl, rfl, rfl⟩
  · right; rw [h1, cut_at h2]; exact ⟨rfl, rfl⟩
/-- **A string that Parse accepts is what Print writes.** -/
theorem parse_print (s : List UInt8) (h1 : bad1 (pBef s) (pAft s) (pPt s) = false) (h2 : bad2 (pBef s) (pAft s) (pNeg s) = false) : decTx (sg (pNeg s) (valD (pBef s ++ pAft s))) (pAft s).length = s := by
  obtain ⟨hb, ⟨b0, hb0, hb1⟩, ha⟩ := good1 h1
  obtain ⟨db, lb⟩ := isDs_all hb
  have da : (pAft s).all isD = true := by
    cases hp : pPt s with
    | true => exact (isDs_all (ha hp)).1
    | false => rw [after_nil s hp]; rfl
  have dd : (pBef s ++ pAft s).all isD = true := by rw [List.all_append, db, da]; rfl
  have hbd := valD_bound dd
  have hK : places1 (valD (pBef s ++ pAft s)) (pAft s).length = (pBef s ++ pAft s).length := by
    unfold places1
    have hl := nDigits_le (k := (pBef s ++ pAft s).length) (by simp; omega) hbd
    by_cases hone : (pBef s).length = 1
    · simp only [List.length_append] at hl ⊢
      omega
    · have hne : b0 ≠ 48 := fun hc => hone (hb1 hc)
      obtain ⟨r, hr⟩ : ∃ r, pBef s = b0 :: r := by
        cases hq : pBef s with
        | nil => rw [hq] at hb0; cases hb0
        | cons c r => rw [hq] at hb0; cases hb0; exact ⟨r, rfl⟩
      have hdig : isD b0 = true := List.all_eq_true.1 db b0 (by rw [hr]; simp)
      have h48 := isD_iff.1 hdig
      have h49 : 49 ≤ b0.toNat := by
        apply Nat.le_of_not_lt
        intro hc
        apply hne
        apply UInt8.toNat_inj.1
        show b0.toNat = 48
        omega
      have hge : 10 ^ (r ++ pAft s).length ≤ valD (pBef s ++ pAft s) := by
        rw [hr, List.cons_append, valD_cons]
        have : 1 * 10 ^ (r ++ pAft s).length ≤ (b0.toNat - 48) * 10 ^ (r ++ pAft s).length := Nat.mul_le_mul_right _ (by omega)
        omega
      have hu := Lib.nDigits_unique (r ++ pAft s).length (valD (pBef s ++ pAft s)) hge (by rw [hr] at hbd ⊢; simpa using hbd)
      rw [hu, hr]
      simp only [List.cons_append, List.length_cons, List.length_append]
      omega
  have hT1 := decT1_of dd hK
  have hT2 : decT2 (valD (pBef s ++ pAft s)) (pAft s).length = pDig s := by
    unfold decT2
    rw [hT1]
    rcases parts_of s with ⟨q1, q2, q3⟩ | ⟨q1, q2⟩
    · rw [q3, q2]
      rw [if_neg (by simp), List.append_nil]
    · have hl := (isDs_all (ha q1)).2
      rw [if_pos hl, q2]
      have e : (pBef s ++ pAft s).length - (pAft s).length = (pBef s).length := by simp
      rw [e]
      simp
  unfold decTx
  rcases sign_cases s with ⟨q1, q2⟩ | ⟨q1, q2⟩
  · rw [q1] at h2
    have hnz : valD (pBef s ++ pAft s) ≠ 0 := fun hc => by
      have h3 := (trimB_nil _).2 (zero_valD dd hc)
      simp only [bad2, Bool.true_and] at h2
      rw [h3] at h2
      cases h2
    have e1 : sg (pNeg s) (valD (pBef s ++ pAft s)) < 0 := by rw [q1]; unfold sg; simp <;> omega
    rw [if_pos e1, sg_abs, hT2]
    exact q2.symm
  · have e1 : ¬ sg (pNeg s) (valD (pBef s ++ pAft s)) < 0 := by rw [q1]; unfold sg; simp <;> omega
    rw [if_neg e1, sg_abs, hT2]
    exact q2.symm
/-! Back. -/
theorem sign_pos {s : List UInt8} (h : ∀ l, s ≠ 45 :: l) : pNeg s = false ∧ pDig s = s := by
  rcases sign_cases s with ⟨_, h2⟩ | ⟨h1, h2⟩
  · exact absurd h2 (h _)
  · exact ⟨h1, h2.symm⟩
theorem sign_neg (s : List UInt8) : pNeg (45 :: s) = true ∧ pDig (45 :: s) = s := by
  unfold pNeg pDig Lib.trimPrefix Lib.hasPrefix
  simp [List.isPrefixOf]
theorem decT2_split (n p : Nat) : ∃ bf af, bf ++ af = decT1 n p ∧ bf.length = places1 n p - p ∧ af.length = p ∧ (decT2 n p = bf ++ 46 :: af ∧ 0 < p ∨ decT2 n p = bf ∧ p = 0 ∧ af = []) := by
  have hl := decT1_length n p
  have hp : p + 1 ≤ places1 n p := by unfold places1; omega
  refine ⟨(decT1 n p).take (places1 n p - p), (decT1 n p).drop (places1 n p - p), List.take_append_drop _ _, by simp; omega, by simp; omega, ?_⟩
  unfold decT2
  by_cases h0 : 0 < p
  · rw [if_pos h0, hl]
    left
    refine ⟨by simp, h0⟩
  · rw [if_neg h0]
    right
    have : p = 0 := by omega
    subst this
    refine ⟨?_, rfl, ?_⟩
    · rw [List.take_of_length_le (by omega)]
    · rw [List.drop_of_length_le (by omega)]
/-- **What Print writes is read back.** -/
theorem print_parse (z : Int) (p : Nat) (hp : p ≤ 9) (hl : (decTx z p).length ≤ 400) :
    bad1 (pBef (decTx z p)) (pAft (decTx z p)) (pPt (decTx z p)) = false ∧ bad2 (pBef (decTx z p)) (pAft (decTx z p)) (pNeg (decTx z p)) = false ∧ long3 (pBef (decTx z p)) (pAft (decTx z p)) = false ∧
    sg (pNeg (decTx z p)) (valD (pBef (decTx z p) ++ pAft (decTx z p))) = z ∧ (pAft (decTx z p)).length = p := by
  obtain ⟨bf, af, h1, h2, h3, h4⟩ := decT2_split z.natAbs p
  have hK : p + 1 ≤ places1 z.natAbs p := by unfold places1; omega
  have dall : (bf ++ af).all isD = true := by rw [h1]; exact decT1_all _ _
  have dbf : bf.all isD = true := by rw [List.all_append, Bool.and_eq_true] at dall; exact dall.1
  have daf : af.all isD = true := by rw [List.all_append, Bool.and_eq_true] at dall; exact dall.2
  have hv : valD (bf ++ af) = z.natAbs := by rw [h1, decT1_val]
  have hne : ∀ l, decT2 z.natAbs p ≠ 45 :: l := fun l hc => by
    have hb0 : ∃ b r, bf = b :: r := by
      cases bf with
      | nil => simp at h2; omega
      | cons b r => exact ⟨b, r, rfl⟩
    obtain ⟨b, r, rfl⟩ := hb0
    have hd : isD b = true := by simp only [List.all_cons, Bool.and_eq_true] at dbf; exact dbf.1
    have hb : b = 45 := by
      rcases h4 with ⟨e, _⟩ | ⟨e, _⟩
      · rw [e] at hc; simp at hc; exact hc.1
      · rw [e] at hc; simp at hc; exact hc.1
    rw [hb] at hd
    exact absurd (isD_iff.1 hd) (by decide)
  have hsd : pNeg (decTx z p) = decide (z < 0) ∧ pDig (decTx z p) = decT2 z.natAbs p := by
    unfold decTx
    by_cases hz : z < 0
    · rw [if_pos hz, decide_eq_true hz]; exact sign_neg _
    · rw [if_neg hz, decide_eq_false hz]; exact sign_pos hne
  have hlen : (decT2 z.natAbs p).length ≤ (decTx z p).length := by
    unfold decTx
    split
    · simp
    · exact Nat.le_refl _
  have hcut : pBef (decTx z p) = bf ∧ pAft (decTx z p) = af ∧ (pPt (decTx z p) = true → 0 < p) := by
    unfold pBef pAft pPt
    rw [hsd.2]
    rcases h4 with ⟨e, h0⟩ | ⟨e, h0, h5⟩
    · rw [e, cut_at (no_point dbf)]
      exact ⟨rfl, rfl, fun _ => h0⟩
    · rw [e, cut_miss (no_point dbf), h5]
      exact ⟨rfl, rfl, fun h => by cases h⟩
  obtain ⟨c1, c2, c3⟩ := hcut
  rw [c1, c2, hsd.1]
  have lbf : 0 < bf.length := by omega
  have hbl : bf.length ≤ 400 := by
    rcases h4 with ⟨e, _⟩ | ⟨e, _⟩
    · rw [e] at hlen; simp at hlen; omega
    · rw [e] at hlen; omega
  refine ⟨?_, ?_, ?_, ?_, h3⟩
  · unfold bad1
    rw [isDs_of dbf lbf]
    simp only [Bool.not_true, Bool.false_or, Bool.or_eq_false_iff, Bool.and_eq_false_iff, decide_eq_false_iff_not, Bool.not_eq_false']
    constructor
    · by_cases hone : bf.length = 1
      · right; omega
      · left
        intro hc
        have hbig : p + 2 ≤ Lib.nDigits z.natAbs := by unfold places1 at h2; omega
        have hpos : 0 < z.natAbs := by
          apply Nat.pos_of_ne_zero
          intro h0
          rw [h0, Lib.nDigits_small (by omega)] at hbig
          omega
        obtain ⟨b, l, e1, e2⟩ := head_dec z.natAbs hpos
        have hT : decT1 z.natAbs p = Lib.decDigits z.natAbs := by unfold decT1; rw [Lib.decDigits_length, if_neg (by omega)]
        rw [hT, e1] at h1
        cases bf with
        | nil => simp at lbf
        | cons x r =>
          simp at h1 hc
          exact e2 (h1.1.symm.trans hc)
    · by_cases hpt : pPt (decTx z p) = true
      · right
        exact isDs_of daf (by have := c3 hpt; omega)
      · left
        simpa using hpt
  · unfold bad2
    by_cases hz : z < 0
    · rw [decide_eq_true hz, Bool.true_and]
      cases ht : (Lib.trimB (bf ++ af) 48).isEmpty with
      | false => rfl
      | true =>
        have := valD_zero ((trimB_nil _).1 ht)
        omega
    · rw [decide_eq_false hz]; rfl
  · unfold long3
    simp only [Bool.or_eq_false_iff, decide_eq_false_iff_not]
    omega
  · rw [hv]
    exact sg_norm z
end Go.Proofs.YtnifjdhjimjihaaGreatDoor
