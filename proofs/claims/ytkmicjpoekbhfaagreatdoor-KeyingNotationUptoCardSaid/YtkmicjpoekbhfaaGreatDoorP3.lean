import Derived.Test.YtkmicjpoekbhfaaGreatDoorP2
import Derived.Test.YtkmicjpoekbhfaaGreatDoorRows
import Derived.ProofKit
import Derived.OpenShut
import Derived.ChangeArms
import Derived.ChangeSlices
import Derived.Deep.DeepHandedRow
import Derived.Deep.Slices
import Derived.Below
import Derived.Carry
import Derived.ChangeSame
import Derived.Lay
import Derived.MakeChecks
import Derived.Shelf.Vars
/- Texts merged: WNotT WNot WkV WkW WkI WkJ WkX WkY WkZ WkH WlA WSh WSi WkO WlB. -/
/- The notation of decimal numbers: what Print writes is what Parse reads. Plain text, no program in sight. -/
set_option linter.unusedSimpArgs false
set_option linter.unusedVariables false
namespace Go.Proofs.YtkmicjpoekbhfaaGreatDoor
open Go.RowKit Lim

theorem valD_app (a b : List UInt8) : valD (a ++ b) = valD a * 10 ^ b.length + valD b := by
  have key : ∀ (b : List UInt8) (x : Nat), b.foldl (fun a b => a * 10 + (b.toNat - 48)) x = x * 10 ^ b.length + b.foldl (fun a b => a * 10 + (b.toNat - 48)) 0 := by
    intro b
    induction b with
    | nil => intro x; simp
    | cons c b ih =>
      intro x
      rw [List.foldl_cons, List.foldl_cons, ih (x * 10 + (c.toNat - 48)), ih (0 * 10 + (c.toNat - 48)), List.length_cons, Nat.pow_succ]
      generalize 10 ^ b.length = q
      grind
  unfold valD
  rw [List.foldl_append]
  exact key b _
theorem valD_cons (c : UInt8) (b : List UInt8) : valD (c :: b) = (c.toNat - 48) * 10 ^ b.length + valD b := by
  have := valD_app [c] b
  simpa [valD] using this
theorem dig8 (d : Nat) (h : d < 10) : (UInt8.ofNat (48 + d)).toNat = 48 + d := by
  simp [UInt8.toNat_ofNat']
  omega
theorem padD_val : ∀ (k g : Nat), g < 10 ^ k → valD (padD k g) = g
  | 0, g, h => by simp at h; subst h; rfl
  | k + 1, g, h => by
    have h1 : g / 10 < 10 ^ k := by rw [Nat.pow_succ] at h; omega
    rw [padD, valD_snoc, padD_val k _ h1, dig8 _ (Nat.mod_lt _ (by omega))]
    omega
theorem padD_all : ∀ (k g : Nat), (padD k g).all isD = true
  | 0, g => rfl
  | k + 1, g => by
    rw [padD, List.all_append, padD_all k]
    have h := dig8 (g % 10) (Nat.mod_lt _ (by omega))
    have h2 : g % 10 < 10 := Nat.mod_lt _ (by omega)
    simp only [List.all_cons, List.all_nil, Bool.and_true, Bool.true_and]
    rw [isD_iff, h]
    omega
theorem padD_of (ds : List UInt8) (h : ds.all isD = true) : padD ds.length (valD ds) = ds := by
  have key : ∀ (k : Nat) (ds : List UInt8), ds.length = k → ds.all isD = true → padD k (valD ds) = ds := by
    intro k
    induction k with
    | zero => intro ds hk _; simp [List.eq_nil_of_length_eq_zero hk, padD]
    | succ k ih =>
      intro ds hk hd
      obtain ⟨a, b, rfl⟩ : ∃ a b, ds = a ++ [b] := ⟨ds.dropLast, ds.getLast (by intro hc; simp [hc] at hk), (List.dropLast_concat_getLast _).symm⟩
      simp only [List.all_append, List.all_cons, List.all_nil, Bool.and_true, Bool.and_eq_true] at hd
      have hb := isD_iff.1 hd.2
      rw [padD, valD_snoc]
      have e1 : (valD a * 10 + (b.toNat - 48)) / 10 = valD a := by omega
      have e2 : (valD a * 10 + (b.toNat - 48)) % 10 = b.toNat - 48 := by omega
      rw [e1, e2, ih a (by simpa using hk) hd.1]
      congr 2
      apply UInt8.toNat_inj.1
      rw [dig8 _ (by omega)]
      omega
  exact key _ ds rfl h
theorem valD_bound {ds : List UInt8} (h : ds.all isD = true) : valD ds < 10 ^ ds.length := by
  have := valD_lt h ds.length (Nat.le_refl _)
  rwa [List.take_length] at this
theorem nDigits_le {n k : Nat} (hk : 0 < k) (h : n < 10 ^ k) : Lib.nDigits n ≤ k := by
  by_cases h10 : n < 10
  · rw [Lib.nDigits_small h10]; omega
  · apply Nat.le_of_not_lt
    intro hc
    obtain ⟨j, hj⟩ : ∃ j, Lib.nDigits n = j + 1 := ⟨Lib.nDigits n - 1, by omega⟩
    have h1 := pow_nDigits j n hj (by omega)
    have h2 : 10 ^ k ≤ 10 ^ j := Nat.pow_le_pow_right (by omega) (by omega)
    omega
def places1 (n p : Nat) : Nat := max (p + 1) (Lib.nDigits n)
theorem decT1_pad (n p : Nat) : decT1 n p = padD (places1 n p) n := by
  have hn := Lib.lt_pow_nDigits n
  have hp := Lib.nDigits_pos n
  unfold decT1 places1
  rw [Lib.decDigits_length]
  obtain ⟨k, hk⟩ : ∃ k, max (p + 1) (Lib.nDigits n) = k + 1 := ⟨max (p + 1) (Lib.nDigits n) - 1, by omega⟩
  rw [hk, padD_eq k n (Nat.lt_of_lt_of_le hn (Nat.pow_le_pow_right (by omega) (by omega)))]
  split
  · congr 2
    omega
  · have : k + 1 - Lib.nDigits n = 0 := by omega
    rw [this]
    rfl
theorem decT1_val (n p : Nat) : valD (decT1 n p) = n := by
  rw [decT1_pad]
  refine padD_val _ _ (Nat.lt_of_lt_of_le (Lib.lt_pow_nDigits n) (Nat.pow_le_pow_right (by omega) ?_))
  unfold places1
  omega
theorem decT1_all (n p : Nat) : (decT1 n p).all isD = true := by rw [decT1_pad]; exact padD_all _ _
theorem decT1_length (n p : Nat) : (decT1 n p).length = places1 n p := by rw [decT1_pad, padD_length]
/-- The digits of a number are its digits. -/
theorem decT1_of {ds : List UInt8} (h : ds.all isD = true) {p : Nat} (hK : places1 (valD ds) p = ds.length) : decT1 (valD ds) p = ds := by
  rw [decT1_pad, hK]
  exact padD_of ds h
theorem head_dec (n : Nat) (h : 0 < n) : ∃ b l, Lib.decDigits n = b :: l ∧ b ≠ 48 := by
  induction n using Nat.strongRecOn with
  | _ n ih =>
    by_cases h10 : n < 10
    · refine ⟨_, _, Lib.decDigits_one h10, fun hc => ?_⟩
      have h1 := congrArg UInt8.toNat hc
      rw [dig8 n h10] at h1
      simp at h1
      omega
    · obtain ⟨b, l, h1, h2⟩ := ih (n / 10) (by omega) (by omega)
      exact ⟨b, l ++ [UInt8.ofNat (48 + n % 10)], by rw [dec_big h10, h1]; rfl, h2⟩
theorem isDs_of {ds : List UInt8} (h : ds.all isD = true) (hl : 0 < ds.length) : isDs ds = true := by
  unfold isDs
  rw [h]
  cases ds with
  | nil => simp at hl
  | cons => rfl
theorem isDs_all {ds : List UInt8} (h : isDs ds = true) : ds.all isD = true ∧ 0 < ds.length := by
  simp only [isDs, Bool.and_eq_true, Bool.not_eq_true'] at h
  refine ⟨h.1, ?_⟩
  cases ds with
  | nil => simp at h
  | cons => simp
/-! Zeros. -/
theorem valD_zero {ds : List UInt8} (h : ∀ b ∈ ds, b = 48) : valD ds = 0 := by
  induction ds with
  | nil => rfl
  | cons c b ih =>
    rw [valD_cons, ih fun x hx => h x (by simp [hx]), h c (by simp)]
    simp
theorem zero_valD {ds : List UInt8} (hd : ds.all isD = true) (h : valD ds = 0) : ∀ b ∈ ds, b = 48 := by
  induction ds with
  | nil => intro b hb; cases hb
  | cons c b ih =>
    simp only [List.all_cons, Bool.and_eq_true] at hd
    rw [valD_cons] at h
    have hp : 0 < 10 ^ b.length := Nat.pow_pos (by omega)
    have hc := isD_iff.1 hd.1
    have h1 : valD b = 0 := by omega
    have h2 : c.toNat - 48 = 0 := by
      apply Nat.eq_zero_of_not_pos
      intro hq
      have := Nat.mul_pos hq hp
      omega
    intro x hx
    rcases List.mem_cons.1 hx with rfl | hx
    · apply UInt8.toNat_inj.1
      show x.toNat = 48
      omega
    · exact ih hd.2 h1 x hx
theorem dropWhile_nil {l : List UInt8} (h : l.dropWhile (· == 48) = []) : ∀ b ∈ l, b = 48 := by
  induction l with
  | nil => intro b hb; cases hb
  | cons c l ih =>
    simp only [List.dropWhile_cons] at h
    split at h
    · rename_i hc
      intro x hx
      rcases List.mem_cons.1 hx with rfl | hx
      · simpa using hc
      · exact ih h x hx
    · cases h
theorem dropWhile_all {l : List UInt8} (h : ∀ b ∈ l, b = 48) : l.dropWhile (· == 48) = [] := by
  induction l with
  | nil => rfl
  | cons c l ih =>
    have hc : c = 48 := h c (by simp)
    subst hc
    simp only [List.dropWhile_cons, beq_self_eq_true, if_true]
    exact ih fun x hx => h x (by simp [hx])
theorem mem_dropWhile {l : List UInt8} {p : UInt8 → Bool} (h : ∀ b ∈ l.dropWhile p, b = 48) (hp : ∀ b, p b = true → b = 48) : ∀ b ∈ l, b = 48 := by
  induction l with
  | nil => intro b hb; cases hb
  | cons c l ih =>
    simp only [List.dropWhile_cons] at h
    split at h
    · rename_i hc
      intro x hx
      rcases List.mem_cons.1 hx with rfl | hx
      · exact hp _ hc
      · exact ih h x hx
    · exact h
theorem trimB_nil (l : List UInt8) : (Lib.trimB l 48).isEmpty = true ↔ ∀ b ∈ l, b = 48 := by
  unfold Lib.trimB Lib.trimLeftB Lib.trimRightB
  constructor
  · intro h
    have h1 := dropWhile_nil (List.isEmpty_iff.1 h)
    have h2 : ∀ b ∈ l.reverse.dropWhile (· == 48), b = 48 := fun b hb => h1 b (by simpa using hb)
    have h3 := mem_dropWhile h2 (fun b hb => by simpa using hb)
    exact fun b hb => h3 b (by simpa using hb)
  · intro h
    have h1 : l.reverse.dropWhile (· == 48) = [] := dropWhile_all fun b hb => h b (by simpa using hb)
    rw [h1]
    rfl
/-! The point. -/
theorem no_point {ds : List UInt8} (h : ds.all isD = true) : (46 : UInt8) ∉ ds := fun hm => by
  have := isD_iff.1 (List.all_eq_true.1 h _ hm)
  simp at this
/-! Sign, digits, point. -/
theorem sign_cases (s : List UInt8) : (pNeg s = true ∧ s = 45 :: pDig s) ∨ (pNeg s = false ∧ s = pDig s) := by
  unfold pNeg pDig Lib.trimPrefix Lib.hasPrefix
  cases s with
  | nil => right; simp [List.isPrefixOf]
  | cons c s =>
    by_cases hc : c = 45
    · subst hc; left; simp [List.isPrefixOf]
    · right
      have : ([45] : List UInt8).isPrefixOf (c :: s) = false := by simp [List.isPrefixOf]; exact fun h => hc h.symm
      rw [this]
      simp
theorem after_nil (s : List UInt8) (h : pPt s = false) : pAft s = [] := by
  unfold pPt at h
  unfold pAft
  rcases cut_cases (pDig s) with h1 | ⟨a, b, h1, h2⟩
  · rw [cut_miss h1]
  · rw [h1, cut_at h2] at h
    cases h
theorem parts_of (s : List UInt8) : (pPt s = false ∧ pDig s = pBef s ∧ pAft s = []) ∨ (pPt s = true ∧ pDig s = pBef s ++ 46 :: pAft s) := by
  unfold pPt pBef pAft
  rcases cut_cases (pDig s) with h1 | ⟨a, b, h1, h2⟩
  · left; rw [cut_miss h1]; exact ⟨rfl, rfl, rfl⟩
  · right; rw [h1, cut_at h2]; exact ⟨rfl, rfl⟩
/-- **A string that Parse accepts is what Print writes.** -/
theorem parse_print (s : List UInt8) (h1 : bad1 (pBef s) (pAft s) (pPt s) = false) (h2 : bad2 (pBef s) (pAft s) (pNeg s) = false) : decTx (sg (pNeg s) (valD (pBef s ++ pAft s))) (pAft s).length = s := by
  obtain ⟨hb, ⟨b0, hb0, hb1⟩, ha⟩ := good1 h1
  obtain ⟨db, lb⟩ := isDs_all hb
  have da : (pAft s).all isD = true := by
    cases hp : pPt s with
    | true => exact (isDs_all (ha hp)).1
    | false => rw [after_nil s hp]; rfl
  have dd : (pBef s ++ pAft s).all isD = true := by rw [List.all_append, db, da]; rfl
  have hbd := valD_bound dd
  have hK : places1 (valD (pBef s ++ pAft s)) (pAft s).length = (pBef s ++ pAft s).length := by
    unfold places1
    have hl := nDigits_le (k := (pBef s ++ pAft s).length) (by simp; omega) hbd
    by_cases hone : (pBef s).length = 1
    · simp only [List.length_append] at hl ⊢
      omega
    · have hne : b0 ≠ 48 := fun hc => hone (hb1 hc)
      obtain ⟨r, hr⟩ : ∃ r, pBef s = b0 :: r := by
        cases hq : pBef s with
        | nil => rw [hq] at hb0; cases hb0
        | cons c r => rw [hq] at hb0; cases hb0; exact ⟨r, rfl⟩
      have hdig : isD b0 = true := List.all_eq_true.1 db b0 (by rw [hr]; simp)
      have h48 := isD_iff.1 hdig
      have h49 : 49 ≤ b0.toNat := by
        apply Nat.le_of_not_lt
        intro hc
        apply hne
        apply UInt8.toNat_inj.1
        show b0.toNat = 48
        omega
      have hge : 10 ^ (r ++ pAft s).length ≤ valD (pBef s ++ pAft s) := by
        rw [hr, List.cons_append, valD_cons]
        have : 1 * 10 ^ (r ++ pAft s).length ≤ (b0.toNat - 48) * 10 ^ (r ++ pAft s).length := Nat.mul_le_mul_right _ (by omega)
        omega
      have hu := Lib.nDigits_unique (r ++ pAft s).length (valD (pBef s ++ pAft s)) hge (by rw [hr] at hbd ⊢; simpa using hbd)
      rw [hu, hr]
      simp only [List.cons_append, List.length_cons, List.length_append]
      omega
  have hT1 := decT1_of dd hK
  have hT2 : decT2 (valD (pBef s ++ pAft s)) (pAft s).length = pDig s := by
    unfold decT2
    rw [hT1]
    rcases parts_of s with ⟨q1, q2, q3⟩ | ⟨q1, q2⟩
    · rw [q3, q2]
      rw [if_neg (by simp), List.append_nil]
    · have hl := (isDs_all (ha q1)).2
      rw [if_pos hl, q2]
      have e : (pBef s ++ pAft s).length - (pAft s).length = (pBef s).length := by simp
      rw [e]
      simp
  unfold decTx
  rcases sign_cases s with ⟨q1, q2⟩ | ⟨q1, q2⟩
  · rw [q1] at h2
    have hnz : valD (pBef s ++ pAft s) ≠ 0 := fun hc => by
      have h3 := (trimB_nil _).2 (zero_valD dd hc)
      simp only [bad2, Bool.true_and] at h2
      rw [h3] at h2
      cases h2
    have e1 : sg (pNeg s) (valD (pBef s ++ pAft s)) < 0 := by rw [q1]; unfold sg; simp <;> omega
    rw [if_pos e1, sg_abs, hT2]
    exact q2.symm
  · have e1 : ¬ sg (pNeg s) (valD (pBef s ++ pAft s)) < 0 := by rw [q1]; unfold sg; simp <;> omega
    rw [if_neg e1, sg_abs, hT2]
    exact q2.symm
/-! Back. -/
theorem sign_pos {s : List UInt8} (h : ∀ l, s ≠ 45 :: l) : pNeg s = false ∧ pDig s = s := by
  rcases sign_cases s with ⟨_, h2⟩ | ⟨h1, h2⟩
  · exact absurd h2 (h _)
  · exact ⟨h1, h2.symm⟩
theorem sign_neg (s : List UInt8) : pNeg (45 :: s) = true ∧ pDig (45 :: s) = s := by
  unfold pNeg pDig Lib.trimPrefix Lib.hasPrefix
  simp [List.isPrefixOf]
theorem decT2_split (n p : Nat) : ∃ bf af, bf ++ af = decT1 n p ∧ bf.length = places1 n p - p ∧ af.length = p ∧ (decT2 n p = bf ++ 46 :: af ∧ 0 < p ∨ decT2 n p = bf ∧ p = 0 ∧ af = []) := by
  have hl := decT1_length n p
  have hp : p + 1 ≤ places1 n p := by unfold places1; omega
  refine ⟨(decT1 n p).take (places1 n p - p), (decT1 n p).drop (places1 n p - p), List.take_append_drop _ _, by simp; omega, by simp; omega, ?_⟩
  unfold decT2
  by_cases h0 : 0 < p
  · rw [if_pos h0, hl]
    left
    refine ⟨by simp, h0⟩
  · rw [if_neg h0]
    right
    have : p = 0 := by omega
    subst this
    refine ⟨?_, rfl, ?_⟩
    · rw [List.take_of_length_le (by omega)]
    · rw [List.drop_of_length_le (by omega)]
/-- **What Print writes is read back.** -/
theorem print_parse (z : Int) (p : Nat) (hp : p ≤ 9) (hl : (decTx z p).length ≤ 400) :
    bad1 (pBef (decTx z p)) (pAft (decTx z p)) (pPt (decTx z p)) = false ∧ bad2 (pBef (decTx z p)) (pAft (decTx z p)) (pNeg (decTx z p)) = false ∧ long3 (pBef (decTx z p)) (pAft (decTx z p)) = false ∧
    sg (pNeg (decTx z p)) (valD (pBef (decTx z p) ++ pAft (decTx z p))) = z ∧ (pAft (decTx z p)).length = p := by
  obtain ⟨bf, af, h1, h2, h3, h4⟩ := decT2_split z.natAbs p
  have hK : p + 1 ≤ places1 z.natAbs p := by unfold places1; omega
  have dall : (bf ++ af).all isD = true := by rw [h1]; exact decT1_all _ _
  have dbf : bf.all isD = true := by rw [List.all_append, Bool.and_eq_true] at dall; exact dall.1
  have daf : af.all isD = true := by rw [List.all_append, Bool.and_eq_true] at dall; exact dall.2
  have hv : valD (bf ++ af) = z.natAbs := by rw [h1, decT1_val]
  have hne : ∀ l, decT2 z.natAbs p ≠ 45 :: l := fun l hc => by
    have hb0 : ∃ b r, bf = b :: r := by
      cases bf with
      | nil => simp at h2; omega
      | cons b r => exact ⟨b, r, rfl⟩
    obtain ⟨b, r, rfl⟩ := hb0
    have hd : isD b = true := by simp only [List.all_cons, Bool.and_eq_true] at dbf; exact dbf.1
    have hb : b = 45 := by
      rcases h4 with ⟨e, _⟩ | ⟨e, _⟩
      · rw [e] at hc; simp at hc; exact hc.1
      · rw [e] at hc; simp at hc; exact hc.1
    rw [hb] at hd
    exact absurd (isD_iff.1 hd) (by decide)
  have hsd : pNeg (decTx z p) = decide (z < 0) ∧ pDig (decTx z p) = decT2 z.natAbs p := by
    unfold decTx
    by_cases hz : z < 0
    · rw [if_pos hz, decide_eq_true hz]; exact sign_neg _
    · rw [if_neg hz, decide_eq_false hz]; exact sign_pos hne
  have hlen : (decT2 z.natAbs p).length ≤ (decTx z p).length := by
    unfold decTx
    split
    · simp
    · exact Nat.le_refl _
  have hcut : pBef (decTx z p) = bf ∧ pAft (decTx z p) = af ∧ (pPt (decTx z p) = true → 0 < p) := by
    unfold pBef pAft pPt
    rw [hsd.2]
    rcases h4 with ⟨e, h0⟩ | ⟨e, h0, h5⟩
    · rw [e, cut_at (no_point dbf)]
      exact ⟨rfl, rfl, fun _ => h0⟩
    · rw [e, cut_miss (no_point dbf), h5]
      exact ⟨rfl, rfl, fun h => by cases h⟩
  obtain ⟨c1, c2, c3⟩ := hcut
  rw [c1, c2, hsd.1]
  have lbf : 0 < bf.length := by omega
  have hbl : bf.length ≤ 400 := by
    rcases h4 with ⟨e, _⟩ | ⟨e, _⟩
    · rw [e] at hlen; simp at hlen; omega
    · rw [e] at hlen; omega
  refine ⟨?_, ?_, ?_, ?_, h3⟩
  · unfold bad1
    rw [isDs_of dbf lbf]
    simp only [Bool.not_true, Bool.false_or, Bool.or_eq_false_iff, Bool.and_eq_false_iff, decide_eq_false_iff_not, Bool.not_eq_false']
    constructor
    · by_cases hone : bf.length = 1
      · right; omega
      · left
        intro hc
        have hbig : p + 2 ≤ Lib.nDigits z.natAbs := by unfold places1 at h2; omega
        have hpos : 0 < z.natAbs := by
          apply Nat.pos_of_ne_zero
          intro h0
          rw [h0, Lib.nDigits_small (by omega)] at hbig
          omega
        obtain ⟨b, l, e1, e2⟩ := head_dec z.natAbs hpos
        have hT : decT1 z.natAbs p = Lib.decDigits z.natAbs := by unfold decT1; rw [Lib.decDigits_length, if_neg (by omega)]
        rw [hT, e1] at h1
        cases bf with
        | nil => simp at lbf
        | cons x r =>
          simp at h1 hc
          exact e2 (h1.1.symm.trans hc)
    · by_cases hpt : pPt (decTx z p) = true
      · right
        exact isDs_of daf (by have := c3 hpt; omega)
      · left
        simpa using hpt
  · unfold bad2
    by_cases hz : z < 0
    · rw [decide_eq_true hz, Bool.true_and]
      cases ht : (Lib.trimB (bf ++ af) 48).isEmpty with
      | false => rfl
      | true =>
        have := valD_zero ((trimB_nil _).1 ht)
        omega
    · rw [decide_eq_false hz]; rfl
  · unfold long3
    simp only [Bool.or_eq_false_iff, decide_eq_false_iff_not]
    omega
  · rw [hv]
    exact sg_norm z
end Go.Proofs.YtkmicjpoekbhfaaGreatDoor

/- The law DecimalNotation: its walk. -/
set_option linter.unusedSimpArgs false
set_option linter.unusedVariables false
namespace Go.Proofs.YtkmicjpoekbhfaaGreatDoor
open Go.RowKit Lim

theorem valD_nlen {s : List UInt8} (h1 : bad1 (pBef s) (pAft s) (pPt s) = false) (h3 : long3 (pBef s) (pAft s) = false) : nlen (valD (pBef s ++ pAft s)) ≤ 60 ∧ (pAft s).length ≤ 9 := by
  obtain ⟨hb, _, ha⟩ := good1 h1
  have da : (pAft s).all isD = true := by
    cases hp : pPt s with
    | true => exact (isDs_all (ha hp)).1
    | false => rw [after_nil s hp]; rfl
  have dd : (pBef s ++ pAft s).all isD = true := by rw [List.all_append, (isDs_all hb).1, da]; rfl
  simp only [long3, Bool.or_eq_false_iff, decide_eq_false_iff_not] at h3
  refine ⟨nlen_q (valD_bound dd) (by simp; omega), by omega⟩
end Go.Proofs.YtkmicjpoekbhfaaGreatDoor

/- Chapter 40: reading numbers. INTS -/
set_option linter.unusedSimpArgs false
set_option linter.unusedVariables false
namespace Go.Proofs.YtkmicjpoekbhfaaGreatDoor
open Go.RowKit Go.Shelf Lim

/-- A text that decimal.Parse takes, and what it then reads. -/
def decOK (s : List UInt8) : Bool := !bad1 (pBef s) (pAft s) (pPt s) && (!bad2 (pBef s) (pAft s) (pNeg s) && !long3 (pBef s) (pAft s))
def decV (s : List UInt8) : Int := sg (pNeg s) (valD (pBef s ++ pAft s))
/-- What is read of a text for an item of numbers. -/
def readN (it : ItV) (s : List UInt8) : AnsV × Int :=
  bif s == [45] then (⟨it.id, [], 0, [], true⟩, 0) else bif decOK s && (((pAft s).length : Nat) : Int) == 3 then (bif i64B (decV s) then (⟨it.id, [], decV s, [], false⟩, 0) else (ans0, 3)) else (ans0, 2)
theorem dparse_no {s : List UInt8} (hs : s.length < 4294967281) (h : decOK s = false) : ∃ e : Int, (e == 0) = false ∧ AC 80 [str s] (zErr e) := by
  cases h1 : bad1 (pBef s) (pAft s) (pPt s) with
  | true => exact ⟨2, rfl, dparse_bad1 s hs h1⟩
  | false =>
  cases h2 : bad2 (pBef s) (pAft s) (pNeg s) with
  | true => exact ⟨2, rfl, dparse_good s hs h1 (after_nil s) _ (fun _ => rfl) (fun h => by rw [h2] at h; cases h) (fun h => by rw [h2] at h; cases h)⟩
  | false =>
  cases h3 : long3 (pBef s) (pAft s) with
  | true => exact ⟨5, rfl, dparse_good s hs h1 (after_nil s) _ (fun h => by rw [h2] at h; cases h) (fun _ _ => rfl) (fun _ h => by rw [h3] at h; cases h)⟩
  | false => unfold decOK at h; rw [h1, h2, h3] at h; cases h
theorem decOK_parts {s : List UInt8} (h : decOK s = true) : bad1 (pBef s) (pAft s) (pPt s) = false ∧ bad2 (pBef s) (pAft s) (pNeg s) = false ∧ long3 (pBef s) (pAft s) = false := by
  simpa [decOK] using h
theorem dparse_yes {s : List UInt8} (hs : s.length < 4294967281) (h : decOK s = true) : AC 80 [str s] (.tup [decN (decV s) ((pAft s).length : Nat), i64 0]) := by
  obtain ⟨h1, h2, h3⟩ := decOK_parts h
  exact dparse_good s hs h1 (after_nil s) _ (fun h => by rw [h2] at h; cases h) (fun _ h => by rw [h3] at h; cases h) (fun _ _ => rfl)
set_option maxHeartbeats 2000000 in
theorem readN_c (it : ItV) (s : List UInt8) (hs : s.length ≤ 1900000) (h4 : (it.kind == 4) = true) : AC 49 [itA it, str s] (.tup [ansA (readN it s).1, i64 (readN it s).2]) := by
  have H := hasChoices_c it.kind
  have hk : it.kind = 4 := by simpa using h4
  rw [show hasChB it.kind = false by rw [hk]; rfl] at H
  unfold readN
  cases c1 : s == [45] with
  | true =>
    refine ACalls.of ⟨15, [], []⟩ (fn := Tryz.f49) Tryz.func49 rfl rfl rfl (by kernel_rfl) (by kernel_rfl) (Nat.le_of_ble_eq_true rfl) ?_
    simp (maxSteps := 1000000) -implicitDefEqProofs only [toList_bs, toList_dash, c1, go_sem, awp_seq, Nat.reduceBNe, Nat.reduceBEq, Nat.reduceAdd, Nat.reduceSub, Nat.reduceMul, Nat.reduceLeDiff, Nat.reduceLT, Nat.reduceEqDiff, Nat.reduceBneDiff, Int.reduceLE, Int.reduceLT, Int.reduceToNat, Int.reduceBEq, Int.reduceBNe, Int.reduceAdd, Int.reduceSub, Int.cast_ofNat_Int]
    rfl
  | false =>
  have c00 : ((0 : Int) != 0) = false := rfl
  cases cd : decOK s with
  | false =>
    obtain ⟨e, he, D⟩ := dparse_no (by omega) cd
    have ne : (e != 0) = true := by simp only [bne, he, Bool.not_false]
    refine ACalls.of ⟨15, [], []⟩ (fn := Tryz.f49) Tryz.func49 rfl rfl rfl (by kernel_rfl) (by kernel_rfl) (Nat.le_of_ble_eq_true rfl) ?_
    simp (maxSteps := 1000000) -implicitDefEqProofs only [toList_bs, toList_dash, c1, h4, go_sem, awp_seq, Nat.reduceBNe, Nat.reduceBEq, Nat.reduceAdd, Nat.reduceSub, Nat.reduceMul, Nat.reduceLeDiff, Nat.reduceLT, Nat.reduceEqDiff, Nat.reduceBneDiff, Int.reduceLE, Int.reduceLT, Int.reduceToNat, Int.reduceBEq, Int.reduceBNe, Int.reduceAdd, Int.reduceSub, Int.cast_ofNat_Int]
    refine callA_t H ?_
    simp (maxSteps := 1000000) -implicitDefEqProofs only [h4, go_sem, awp_seq, Nat.reduceBNe, Nat.reduceBEq, Nat.reduceAdd, Nat.reduceSub, Nat.reduceMul, Nat.reduceLeDiff, Nat.reduceLT, Nat.reduceEqDiff, Nat.reduceBneDiff, Int.reduceLE, Int.reduceLT, Int.reduceToNat, Int.reduceBEq, Int.reduceBNe, Int.reduceAdd, Int.reduceSub, Int.cast_ofNat_Int]
    refine callA_mk D ?_
    simp (maxSteps := 1000000) -implicitDefEqProofs only [ne, go_sem, awp_seq, Nat.reduceBNe, Nat.reduceBEq, Nat.reduceAdd, Nat.reduceSub, Nat.reduceMul, Nat.reduceLeDiff, Nat.reduceLT, Nat.reduceEqDiff, Nat.reduceBneDiff, Int.reduceLE, Int.reduceLT, Int.reduceToNat, Int.reduceBEq, Int.reduceBNe, Int.reduceAdd, Int.reduceSub, Int.cast_ofNat_Int]
    rfl
  | true =>
    have D := dparse_yes (by omega) cd
    cases cp : (((pAft s).length : Nat) : Int) == 3 with
    | false =>
      have np : ((((pAft s).length : Nat) : Int) != 3) = true := by simp only [bne, cp, Bool.not_false]
      refine ACalls.of ⟨15, [], []⟩ (fn := Tryz.f49) Tryz.func49 rfl rfl rfl (by kernel_rfl) (by kernel_rfl) (Nat.le_of_ble_eq_true rfl) ?_
      simp (maxSteps := 1000000) -implicitDefEqProofs only [toList_bs, toList_dash, c1, h4, go_sem, awp_seq, Nat.reduceBNe, Nat.reduceBEq, Nat.reduceAdd, Nat.reduceSub, Nat.reduceMul, Nat.reduceLeDiff, Nat.reduceLT, Nat.reduceEqDiff, Nat.reduceBneDiff, Int.reduceLE, Int.reduceLT, Int.reduceToNat, Int.reduceBEq, Int.reduceBNe, Int.reduceAdd, Int.reduceSub, Int.cast_ofNat_Int]
      refine callA_t H ?_
      simp (maxSteps := 1000000) -implicitDefEqProofs only [h4, go_sem, awp_seq, Nat.reduceBNe, Nat.reduceBEq, Nat.reduceAdd, Nat.reduceSub, Nat.reduceMul, Nat.reduceLeDiff, Nat.reduceLT, Nat.reduceEqDiff, Nat.reduceBneDiff, Int.reduceLE, Int.reduceLT, Int.reduceToNat, Int.reduceBEq, Int.reduceBNe, Int.reduceAdd, Int.reduceSub, Int.cast_ofNat_Int]
      refine callA_mk D ?_
      simp (maxSteps := 1000000) -implicitDefEqProofs only [c00, np, go_sem, awp_seq, Nat.reduceBNe, Nat.reduceBEq, Nat.reduceAdd, Nat.reduceSub, Nat.reduceMul, Nat.reduceLeDiff, Nat.reduceLT, Nat.reduceEqDiff, Nat.reduceBneDiff, Int.reduceLE, Int.reduceLT, Int.reduceToNat, Int.reduceBEq, Int.reduceBNe, Int.reduceAdd, Int.reduceSub, Int.cast_ofNat_Int]
      rfl
    | true =>
      have np : ((((pAft s).length : Nat) : Int) != 3) = false := by simp only [bne, cp, Bool.not_true]
      obtain ⟨h1, h2, h3⟩ := decOK_parts cd
      have hn := (valD_nlen h1 h3).1
      have I := int64_c (decV s) (by unfold decV; rw [sg_abs]; omega)
      cases ci : i64B (decV s) with
      | false =>
        rw [ci] at I
        refine ACalls.of ⟨15, [], []⟩ (fn := Tryz.f49) Tryz.func49 rfl rfl rfl (by kernel_rfl) (by kernel_rfl) (Nat.le_of_ble_eq_true rfl) ?_
        simp (maxSteps := 1000000) -implicitDefEqProofs only [toList_bs, toList_dash, c1, h4, go_sem, awp_seq, Nat.reduceBNe, Nat.reduceBEq, Nat.reduceAdd, Nat.reduceSub, Nat.reduceMul, Nat.reduceLeDiff, Nat.reduceLT, Nat.reduceEqDiff, Nat.reduceBneDiff, Int.reduceLE, Int.reduceLT, Int.reduceToNat, Int.reduceBEq, Int.reduceBNe, Int.reduceAdd, Int.reduceSub, Int.cast_ofNat_Int]
        refine callA_t H ?_
        simp (maxSteps := 1000000) -implicitDefEqProofs only [h4, go_sem, awp_seq, Nat.reduceBNe, Nat.reduceBEq, Nat.reduceAdd, Nat.reduceSub, Nat.reduceMul, Nat.reduceLeDiff, Nat.reduceLT, Nat.reduceEqDiff, Nat.reduceBneDiff, Int.reduceLE, Int.reduceLT, Int.reduceToNat, Int.reduceBEq, Int.reduceBNe, Int.reduceAdd, Int.reduceSub, Int.cast_ofNat_Int]
        refine callA_mk D ?_
        simp (maxSteps := 1000000) -implicitDefEqProofs only [c00, np, go_sem, awp_seq, Nat.reduceBNe, Nat.reduceBEq, Nat.reduceAdd, Nat.reduceSub, Nat.reduceMul, Nat.reduceLeDiff, Nat.reduceLT, Nat.reduceEqDiff, Nat.reduceBneDiff, Int.reduceLE, Int.reduceLT, Int.reduceToNat, Int.reduceBEq, Int.reduceBNe, Int.reduceAdd, Int.reduceSub, Int.cast_ofNat_Int]
        refine callA_t I ?_
        simp (maxSteps := 1000000) -implicitDefEqProofs only [Bool.not_false, go_sem, awp_seq, Nat.reduceBNe, Nat.reduceBEq, Nat.reduceAdd, Nat.reduceSub, Nat.reduceMul, Nat.reduceLeDiff, Nat.reduceLT, Nat.reduceEqDiff, Nat.reduceBneDiff, Int.reduceLE, Int.reduceLT, Int.reduceToNat, Int.reduceBEq, Int.reduceBNe, Int.reduceAdd, Int.reduceSub, Int.cast_ofNat_Int]
        rfl
      | true =>
        have ev : i64V (decV s) = decV s := by unfold i64V; rw [ci]; rfl
        rw [ci, ev] at I
        have vv : (decV s != decV s) = false := by simp
        generalize decV s = v at *
        refine ACalls.of ⟨15, [], []⟩ (fn := Tryz.f49) Tryz.func49 rfl rfl rfl (by kernel_rfl) (by kernel_rfl) (Nat.le_of_ble_eq_true rfl) ?_
        simp (maxSteps := 1000000) -implicitDefEqProofs only [toList_bs, toList_dash, c1, h4, go_sem, awp_seq, Nat.reduceBNe, Nat.reduceBEq, Nat.reduceAdd, Nat.reduceSub, Nat.reduceMul, Nat.reduceLeDiff, Nat.reduceLT, Nat.reduceEqDiff, Nat.reduceBneDiff, Int.reduceLE, Int.reduceLT, Int.reduceToNat, Int.reduceBEq, Int.reduceBNe, Int.reduceAdd, Int.reduceSub, Int.cast_ofNat_Int]
        refine callA_t H ?_
        simp (maxSteps := 1000000) -implicitDefEqProofs only [h4, go_sem, awp_seq, Nat.reduceBNe, Nat.reduceBEq, Nat.reduceAdd, Nat.reduceSub, Nat.reduceMul, Nat.reduceLeDiff, Nat.reduceLT, Nat.reduceEqDiff, Nat.reduceBneDiff, Int.reduceLE, Int.reduceLT, Int.reduceToNat, Int.reduceBEq, Int.reduceBNe, Int.reduceAdd, Int.reduceSub, Int.cast_ofNat_Int]
        refine callA_mk D ?_
        simp (maxSteps := 1000000) -implicitDefEqProofs only [c00, np, go_sem, awp_seq, Nat.reduceBNe, Nat.reduceBEq, Nat.reduceAdd, Nat.reduceSub, Nat.reduceMul, Nat.reduceLeDiff, Nat.reduceLT, Nat.reduceEqDiff, Nat.reduceBneDiff, Int.reduceLE, Int.reduceLT, Int.reduceToNat, Int.reduceBEq, Int.reduceBNe, Int.reduceAdd, Int.reduceSub, Int.cast_ofNat_Int]
        refine callA_t I ?_
        simp (maxSteps := 1000000) -implicitDefEqProofs only [Bool.not_true, vv, go_sem, awp_seq, Nat.reduceBNe, Nat.reduceBEq, Nat.reduceAdd, Nat.reduceSub, Nat.reduceMul, Nat.reduceLeDiff, Nat.reduceLT, Nat.reduceEqDiff, Nat.reduceBneDiff, Int.reduceLE, Int.reduceLT, Int.reduceToNat, Int.reduceBEq, Int.reduceBNe, Int.reduceAdd, Int.reduceSub, Int.cast_ofNat_Int]
        rfl
end Go.Proofs.YtkmicjpoekbhfaaGreatDoor

/- Chapter 40: plain laws of the notation: words. INTS -/
set_option linter.unusedSimpArgs false
set_option linter.unusedVariables false
namespace Go.Proofs.YtkmicjpoekbhfaaGreatDoor
open Go.RowKit Go.Shelf Lim

theorem spl_miss (c : UInt8) : ∀ w : List UInt8, c ∉ w → spl c w = [w]
  | [], _ => rfl
  | b :: l, h => by
    have hb : b ≠ c := fun e => h (by rw [e]; simp)
    have ih := spl_miss c l fun hh => h (by simp [hh])
    simp only [spl, if_neg hb, ih, conH]
theorem spl_app (c : UInt8) (t : List UInt8) : ∀ w : List UInt8, c ∉ w → spl c (w ++ c :: t) = w :: spl c t
  | [], _ => by simp [spl]
  | b :: l, h => by
    have hb : b ≠ c := fun e => h (by rw [e]; simp)
    have ih := spl_app c t l fun hh => h (by simp [hh])
    simp only [List.cons_append, spl, if_neg hb, ih, conH]
theorem spl_join (c : UInt8) : ∀ L : List (List UInt8), L ≠ [] → (∀ w ∈ L, c ∉ w) → spl c (Lib.join L [c]) = L
  | [], h, _ => absurd rfl h
  | [w], _, h => by rw [Lib.join_one]; exact spl_miss c w (h w (by simp))
  | w :: x :: r, _, h => by
    have ih := spl_join c (x :: r) (by simp) fun y hy => h y (by simp [hy])
    have e : Lib.join (w :: x :: r) [c] = w ++ c :: Lib.join (x :: r) [c] := by
      rw [Lib.join_cons, Lib.join_cons]
      simp [Lib.joinTail]
    rw [e, spl_app c _ w (h w (by simp)), ih]
theorem join_spl (c : UInt8) : ∀ s : List UInt8, Lib.join (spl c s) [c] = s
  | [] => by simp [spl, Lib.join_one]
  | b :: l => by
    have ih := join_spl c l
    have hne := spl_ne c l
    simp only [spl]
    split
    · rename_i hb
      subst hb
      cases hh : spl b l with
      | nil => exact absurd hh hne
      | cons x r =>
        rw [hh, Lib.join_cons] at ih
        rw [Lib.join_cons]
        simp only [Lib.joinTail, List.map_cons, List.flatten_cons, List.nil_append] at ih ⊢
        simp only [List.cons_append, List.nil_append] at ih ⊢
        rw [ih]
    · cases hh : spl c l with
      | nil => exact absurd hh hne
      | cons x r =>
        rw [hh, Lib.join_cons] at ih
        simp only [conH]
        rw [Lib.join_cons, List.cons_append, ih]
theorem word10 : ∀ n : Nat, 1 ≤ n → n ≤ 10 → wordB (Lib.itoa (n : Int)) = true ∧ valW (Lib.itoa (n : Int)) = n ∧ (44 : UInt8) ∉ Lib.itoa (n : Int) ∧ (Lib.itoa (n : Int)).head? ≠ some 45 ∧ (Lib.itoa (n : Int)).head? ≠ some 42 := by
  intro n h1 h2
  have : n = 1 ∨ n = 2 ∨ n = 3 ∨ n = 4 ∨ n = 5 ∨ n = 6 ∨ n = 7 ∨ n = 8 ∨ n = 9 ∨ n = 10 := by omega
  rcases this with rfl | rfl | rfl | rfl | rfl | rfl | rfl | rfl | rfl | rfl <;> decide +kernel
/-- What is read, whatever the kind. -/
def readV (it : ItV) (s : List UInt8) : AnsV × Int := bif it.kind == 4 then readN it s else readT it s
theorem readV_c (it : ItV) (s : List UInt8) (hs : s.length ≤ 1900000) : AC 49 [itA it, str s] (.tup [ansA (readV it s).1, i64 (readV it s).2]) := by
  unfold readV
  cases h : it.kind == 4 with
  | true => exact readN_c it s hs h
  | false => exact read_c it s hs h
theorem readN_ok (it : ItV) (s : List UInt8) : ANOK (readN it s).1 := by
  have h0 : ANOK ans0 := ⟨by simp, by simp, by simp, by unfold inI; simp⟩
  unfold readN
  cases s == [45] with
  | true => exact ⟨by simp, by simp, by simp, by unfold inI; simp⟩
  | false =>
  cases decOK s && (((pAft s).length : Nat) : Int) == 3 with
  | false => exact h0
  | true =>
  cases hi : i64B (decV s) with
  | false => exact h0
  | true =>
    refine ⟨by simp, by simp, by simp, ?_⟩
    simp only [i64B, Bool.and_eq_true, decide_eq_true_eq] at hi
    exact hi
theorem readV_ok (it : ItV) (s : List UInt8) (hs : s.length ≤ 1900000) : ANOK (readV it s).1 := by
  unfold readV
  cases it.kind == 4 with
  | true => exact readN_ok it s
  | false => exact read_ok it s hs
theorem parse_c (it : ItV) (h : IOK it) (s : List UInt8) (hs : s.length ≤ 1900000) : AC 18 [itA it, str s] (.tup [ansA (parseV it (readV it s)).1, i64 (parseV it (readV it s)).2]) :=
  parse_of it h s _ (readV_ok it s hs) (readV_c it s hs)
/-! Reading what was printed. -/
theorem chW_spl {l : List Int} (h0 : l ≠ []) (h : ∀ c ∈ l, 0 ≤ c ∧ c < 10) : spl 44 (Lib.join (chW l) [44]) = chW l := by
  refine spl_join 44 (chW l) (by intro e; exact h0 (List.map_eq_nil_iff.1 e)) fun w hw => ?_
  obtain ⟨c, hc, rfl⟩ := List.mem_map.1 hw
  have hh := h c hc
  have e : c + 1 = (((c + 1).toNat : Nat) : Int) := by omega
  rw [e]
  exact (word10 (c + 1).toNat (by omega) (by omega)).2.2.1
theorem chW_head {l : List Int} (h0 : l ≠ []) (h : ∀ c ∈ l, 0 ≤ c ∧ c < 10) : Lib.join (chW l) [44] ≠ [45] ∧ Lib.join (chW l) [44] ≠ [42] := by
  cases l with
  | nil => exact absurd rfl h0
  | cons c r =>
    have hh := h c (by simp)
    have e : c + 1 = (((c + 1).toNat : Nat) : Int) := by omega
    have W := word10 (c + 1).toNat (by omega) (by omega)
    rw [← e] at W
    have e2 : Lib.join (chW (c :: r)) [44] = Lib.itoa (c + 1) ++ Lib.joinTail [44] (chW r) := by
      show Lib.join (Lib.itoa (c + 1) :: chW r) [44] = _
      rw [Lib.join_cons]
    rw [e2]
    cases hw : Lib.itoa (c + 1) with
    | nil => rw [hw] at W; exact absurd W.1 (by decide)
    | cons b t =>
      rw [hw] at W
      refine ⟨fun e => W.2.2.2.1 ?_, fun e => W.2.2.2.2 ?_⟩ <;>
      · simp at e
        simp [e.1]
theorem rch_print {l : List Int} (h0 : l ≠ []) (h : ∀ c ∈ l, 0 ≤ c ∧ c < 10) : rchV (Lib.join (chW l) [44]) = (l, true) := by
  have h1 : (Lib.join (chW l) [44] == [42]) = false := by simpa using (chW_head h0 h).2
  have h2 : (chW l).all wordB = true := by
    rw [List.all_eq_true]
    intro w hw
    obtain ⟨c, hc, rfl⟩ := List.mem_map.1 hw
    have hh := h c hc
    have e : c + 1 = (((c + 1).toNat : Nat) : Int) := by omega
    rw [e]
    exact (word10 (c + 1).toNat (by omega) (by omega)).1
  unfold rchV
  rw [h1, chW_spl h0 h, h2]
  simp only [cond_true, cond_false]
  have : (chW l).map (fun w => valW w - 1) = l := by
    unfold chW
    rw [List.map_map]
    conv => rhs; rw [← List.map_id l]
    refine List.map_congr_left fun c hc => ?_
    have hh := h c hc
    have e : c + 1 = (((c + 1).toNat : Nat) : Int) := by omega
    show valW (Lib.itoa (c + 1)) - 1 = c
    rw [e, (word10 (c + 1).toNat (by omega) (by omega)).2.1]
    omega
  rw [this]
end Go.Proofs.YtkmicjpoekbhfaaGreatDoor

/- Chapter 40: plain laws: bounds of scores, normal forms. INTS -/
set_option linter.unusedSimpArgs false
set_option linter.unusedVariables false
namespace Go.Proofs.YtkmicjpoekbhfaaGreatDoor
open Go.RowKit Lim

/-! Normal forms. -/
/-! Rising numbers. -/
theorem rise_pw {l : List Int} (h : ∀ i (hi : i + 1 < l.length), l[i] < l[i + 1]) : l.Pairwise (· < ·) := by
  rw [List.pairwise_iff_getElem]
  intro i j hi hj hij
  induction j with
  | zero => omega
  | succ j ih =>
    have h1 := h j hj
    by_cases e : i = j
    · subst e; exact h1
    · have := ih (by omega) (by omega)
      omega
theorem kris_pw {l : List Int} (h : krisB l = true) : l.Pairwise (· < ·) := by
  refine rise_pw fun i hi => ?_
  have := List.all_eq_true.1 h (i + 1) (List.mem_range.2 hi)
  have h1 : l[i + 1]? = some (l[i + 1]'hi) := List.getElem?_eq_getElem hi
  have h2 : l[i]? = some (l[i]'(by omega)) := List.getElem?_eq_getElem (by omega)
  simp only [kAt, Nat.add_sub_cancel, h1, h2, Option.getD_some, Bool.or_eq_true, Bool.not_eq_true', decide_eq_false_iff_not] at this
  rcases this with h | h
  · simp at h
  · omega
theorem pw_nodup {l : List Int} (h : l.Pairwise (· < ·)) : l.Nodup := h.imp fun h => by omega
theorem nodup_le : ∀ (l key : List Int), l.Nodup → (∀ x ∈ l, x ∈ key) → l.length ≤ key.length
  | [], _, _, _ => Nat.zero_le _
  | x :: r, key, hn, hs => by
    have hx := hs x (by simp)
    have h1 := nodup_le r (key.erase x) (List.nodup_cons.1 hn).2 fun y hy => by
      have : y ≠ x := fun e => (List.nodup_cons.1 hn).1 (e ▸ hy)
      exact (List.mem_erase_of_ne this).2 (hs y (by simp [hy]))
    rw [List.length_erase_of_mem hx] at h1
    have : 0 < key.length := List.length_pos_of_mem hx
    simp only [List.length_cons]
    omega
/-! Scores of choices. -/
/-! Orders. -/
end Go.Proofs.YtkmicjpoekbhfaaGreatDoor

/- Chapter 40: the law KeyingBounds, plain. INTS -/
set_option linter.unusedSimpArgs false
set_option linter.unusedVariables false
namespace Go.Proofs.YtkmicjpoekbhfaaGreatDoor
open Go.RowKit Lim

theorem AnsOK.fit {it : ItV} {a : AnsV} (h : AnsOK it a) (ho : a.om = false) (hk : it.kind = 1 ∨ it.kind = 2 ∨ it.kind = 3) : (∀ x ∈ a.ch, 0 ≤ x ∧ x < (it.opts.length : Nat)) ∧ fitB it.kind (it.opts.length : Nat) a.ch = true := by
  have := ch_ok (h.rest ho hk)
  refine ⟨fun x hx => ?_, this.2⟩
  have hr := List.all_eq_true.1 this.1 x hx
  unfold inRB at hr
  simp at hr
  omega
end Go.Proofs.YtkmicjpoekbhfaaGreatDoor

/- Chapter 40: the law KeyingNotation, plain. INTS -/
set_option linter.unusedSimpArgs false
set_option linter.unusedVariables false
namespace Go.Proofs.YtkmicjpoekbhfaaGreatDoor
open Go.RowKit Go.Shelf Lim

theorem fold_ge : ∀ (r : List UInt8) (n : Int), 0 ≤ n → r.all dgB = true → n ≤ r.foldl (fun n c => n * 10 + ((c.toNat : Int) - 48)) n
  | [], n, _, _ => Int.le_refl _
  | c :: r, n, h, hd => by
    simp only [List.all_cons, Bool.and_eq_true] at hd
    have hc := hd.1
    simp only [dgB, Bool.and_eq_true, decide_eq_true_eq] at hc
    have := fold_ge r (n * 10 + ((c.toNat : Int) - 48)) (by omega) hd.2
    rw [List.foldl_cons]
    omega
theorem byte_of {c : UInt8} {n : Nat} (h : c.toNat = n) (hn : n < 256) : c = UInt8.ofNat n := by
  apply UInt8.toNat_inj.1
  rw [h, UInt8.toNat_ofNat']
  omega
theorem word_back {w : List UInt8} (hb : wordB w = true) (hv : valW w ≤ 10) : Lib.itoa (valW w) = w := by
  simp only [wordB, Bool.and_eq_true, Bool.not_eq_true'] at hb
  obtain ⟨h0, _, h48, hd⟩ := hb
  cases w with
  | nil => cases h0
  | cons b r =>
    simp only [List.all_cons, Bool.and_eq_true] at hd
    have db := hd.1
    simp only [dgB, Bool.and_eq_true, decide_eq_true_eq] at db
    simp only [List.getElem?_cons_zero, Option.getD_some, beq_eq_false_iff_ne] at h48
    have b49 : 49 ≤ b.toNat := by omega
    cases r with
    | nil =>
      have : b.toNat = 49 ∨ b.toNat = 50 ∨ b.toNat = 51 ∨ b.toNat = 52 ∨ b.toNat = 53 ∨ b.toNat = 54 ∨ b.toNat = 55 ∨ b.toNat = 56 ∨ b.toNat = 57 := by omega
      rcases this with h | h | h | h | h | h | h | h | h <;> (have e := byte_of h (by omega); subst e; decide +kernel)
    | cons c r =>
      simp only [List.all_cons, Bool.and_eq_true] at hd
      have dc := hd.2.1
      simp only [dgB, Bool.and_eq_true, decide_eq_true_eq] at dc
      cases r with
      | nil =>
        have e : valW [b, c] = ((b.toNat : Int) - 48) * 10 + ((c.toNat : Int) - 48) := by simp [valW]
        rw [e] at hv
        have e1 := byte_of (c := b) (n := 49) (by omega) (by omega)
        have e2 := byte_of (c := c) (n := 48) (by omega) (by omega)
        subst e1 e2
        decide +kernel
      | cons d r =>
        simp only [List.all_cons, Bool.and_eq_true] at hd
        have dd := hd.2.2.1
        simp only [dgB, Bool.and_eq_true, decide_eq_true_eq] at dd
        have h := fold_ge r ((((b.toNat : Int) - 48) * 10 + ((c.toNat : Int) - 48)) * 10 + ((d.toNat : Int) - 48)) (by omega) hd.2.2.2
        have e : valW (b :: c :: d :: r) = r.foldl (fun n c => n * 10 + ((c.toNat : Int) - 48)) ((((b.toNat : Int) - 48) * 10 + ((c.toNat : Int) - 48)) * 10 + ((d.toNat : Int) - 48)) := by simp [valW]
        omega
/-- Writing what was read as choices. -/
theorem rch_back {s : List UInt8} (h : (rchV s).2 = true) (hc : ∀ c ∈ (rchV s).1, c < 10) : (s = [42] ∧ (rchV s).1 = []) ∨ ((rchV s).1 ≠ [] ∧ Lib.join (chW (rchV s).1) [44] = s) := by
  unfold rchV at h hc ⊢
  cases c0 : s == [42] with
  | true => exact .inl ⟨by simpa using c0, rfl⟩
  | false =>
  rw [c0] at h hc
  cases ca : (spl 44 s).all wordB with
  | false => rw [ca] at h; cases h
  | true =>
    rw [ca] at hc
    simp only [cond_true, cond_false] at hc ⊢
    refine .inr ⟨by intro e; exact spl_ne 44 s (List.map_eq_nil_iff.1 e), ?_⟩
    have e : chW ((spl 44 s).map fun w => valW w - 1) = spl 44 s := by
      unfold chW
      rw [List.map_map]
      conv => rhs; rw [← List.map_id (spl 44 s)]
      refine List.map_congr_left fun w hw => ?_
      have h1 := List.all_eq_true.1 ca w hw
      have h2 := hc _ (List.mem_map_of_mem hw)
      show Lib.itoa (valW w - 1 + 1) = w
      rw [show valW w - 1 + 1 = valW w by omega]
      exact word_back h1 (by omega)
    rw [e]
    exact join_spl 44 s
end Go.Proofs.YtkmicjpoekbhfaaGreatDoor

/- Chapter 40: printing and reading undo one another. INTS -/
set_option linter.unusedSimpArgs false
set_option linter.unusedVariables false
namespace Go.Proofs.YtkmicjpoekbhfaaGreatDoor
open Go.RowKit Go.Shelf Lim

theorem decTx_400 {z : Int} (h : -9999999 ≤ z ∧ z ≤ 9999999) : (decTx z 3).length ≤ 400 := by
  have h1 := decT1_length z.natAbs 3
  have h2 : Lib.nDigits z.natAbs ≤ 8 := nDigits_le (by omega) (by have : (10 : Nat) ^ 8 = 100000000 := by decide
                                                                  omega)
  unfold places1 at h1
  have h3 : (decT2 z.natAbs 3).length ≤ (decT1 z.natAbs 3).length + 1 := by
    unfold decT2
    split
    · simp; omega
    · omega
  unfold decTx
  split
  · simp; omega
  · omega
theorem parse_read {it : ItV} {a : AnsV} {r : AnsV × Int} (hv : validE it a = 0) (hr : r = (a, 0)) : parseV it r = (a, 0) := by
  have A := valid_ok hv
  subst hr
  unfold parseV
  rw [A.item]
  simp only [hv]
  rfl
theorem print_read {it : ItV} {a : AnsV} (hv : validE it a = 0) (hp : kprB a.text = true) : (printV it a).2 = 0 ∧ readV it (printV it a).1 = (a, 0) := by
  have A := valid_ok hv
  have IO := item_ok A.item
  have hid := A.id
  have hb := A.plain
  have hkd := IO.kinds
  obtain ⟨ai, ch, v, t, om⟩ := a
  simp only at hid hp
  subst hid
  have hb2 := hb
  unfold badB at hb
  simp only [Bool.or_eq_false_iff] at hb
  obtain ⟨⟨b1, b2⟩, b3⟩ := hb
  unfold printV
  rw [hv]
  simp only [hp, show ((0 : Int) != 0) = false from rfl, Bool.not_true, cond_false]
  cases om with
  | true =>
    have e1 : ch = [] := by
      simp at b1
      exact b1
    have e2 : v = 0 := by simpa using b2
    have e3 : t = [] := by simpa using b3
    subst e1 e2 e3
    refine ⟨rfl, ?_⟩
    unfold readV readN readT
    cases it.kind == 4 <;> rfl
  | false =>
  simp only [cond_false]
  cases c4 : it.kind == 4 with
  | true =>
    have hk : it.kind = 4 := by simpa using c4
    have e1 : ch = [] := by
      rw [hk] at b1
      simp [hasChB] at b1
      exact b1
    have e3 : t = [] := by
      rw [hk] at b3
      simpa [hasTxB] using b3
    subst e1 e3
    have av : -9999999 ≤ v ∧ v ≤ 9999999 := by
      unfold validE at hv
      rw [show (itemE it != 0) = false by simp [A.item], show (it.id != it.id) = false by simp, hb2, c4] at hv
      cases d1 : decide (v < -9999999) with
      | true => rw [d1] at hv; cases hv
      | false =>
      cases d2 : decide ((9999999 : Int) < v) with
      | true => rw [d1, d2] at hv; cases hv
      | false => simp at d1 d2; omega
    have PP := print_parse v 3 (by omega) (decTx_400 av)
    refine ⟨rfl, ?_⟩
    simp only [cond_true]
    have hne : (decTx v 3 == [45]) = false := by
      rw [beq_eq_false_iff_ne]
      intro e
      have := PP.2.2.2.2
      rw [e] at this
      exact absurd this (by decide +kernel)
    have hok : decOK (decTx v 3) = true := by unfold decOK; rw [PP.1, PP.2.1, PP.2.2.1]; rfl
    have hdv : decV (decTx v 3) = v := PP.2.2.2.1
    have hi : i64B v = true := by simp only [i64B, Bool.and_eq_true, decide_eq_true_eq]; omega
    unfold readV readN
    rw [c4, hne, hok, PP.2.2.2.2, hdv, hi]
    rfl
  | false =>
  simp only [cond_false]
  have e2 : v = 0 := by
    have : (it.kind != 4) = true := by simp only [bne, c4, Bool.not_false]
    rw [this] at b2
    simpa using b2
  subst e2
  cases ct : hasTxB it.kind with
  | true =>
    have hch : hasChB it.kind = false := by
      unfold hasTxB at ct
      unfold hasChB
      simp at ct ⊢
      omega
    have e1 : ch = [] := by
      rw [hch] at b1
      simp at b1
      exact b1
    subst e1
    refine ⟨rfl, ?_⟩
    simp only [cond_true]
    have hne : ((58 : UInt8) :: t == [45]) = false := by rw [beq_eq_false_iff_ne]; intro e; simp at e
    have h1 : Lib.hasPrefix (58 :: t) [58] = true := by simp [Lib.hasPrefix, List.isPrefixOf]
    have h2 : Lib.trimPrefix (58 :: t) [58] = t := by unfold Lib.trimPrefix; rw [if_pos h1]; rfl
    unfold readV readT
    rw [c4, hne, hch, h1, h2, hp]
    rfl
  | false =>
    have kk : it.kind = 1 ∨ it.kind = 2 ∨ it.kind = 3 := by
      unfold hasTxB at ct
      simp at ct c4
      omega
    have hch : hasChB it.kind = true := by rcases kk with h | h | h <;> rw [h] <;> rfl
    have e3 : t = [] := by
      rw [ct] at b3
      simpa using b3
    subst e3
    have F := (A.fit rfl kk).1
    have on := IO.opts
    have F10 : ∀ c ∈ ch, 0 ≤ c ∧ c < 10 := fun c hc => by have := F c hc; omega
    simp only [cond_false]
    cases cl : ((ch.length : Nat) : Int) == 0 with
    | true =>
      have e1 : ch = [] := by simpa using cl
      subst e1
      refine ⟨rfl, ?_⟩
      unfold readV readT
      rw [c4, hch]
      rfl
    | false =>
      have hne : ch ≠ [] := by intro e; subst e; cases cl
      refine ⟨rfl, ?_⟩
      have h1 : (Lib.join (chW ch) [44] == [45]) = false := by simpa using (chW_head hne F10).1
      unfold readV readT
      simp only [cond_false]
      rw [c4, h1, hch, rch_print hne F10]
      rfl
end Go.Proofs.YtkmicjpoekbhfaaGreatDoor

/- Chapter 40: reading and printing undo one another, back. INTS -/
set_option linter.unusedSimpArgs false
set_option linter.unusedVariables false
namespace Go.Proofs.YtkmicjpoekbhfaaGreatDoor
open Go.RowKit Go.Shelf Lim

theorem parse_parts {it : ItV} {r : AnsV × Int} (h : (parseV it r).2 = 0) : itemE it = 0 ∧ r.2 = 0 ∧ validE it r.1 = 0 ∧ parseV it r = (r.1, 0) := by
  unfold parseV at h ⊢
  cases c0 : itemE it != 0 with
  | true => rw [c0] at h; simp only [cond_true] at h; rw [h] at c0; cases c0
  | false =>
  rw [c0] at h
  cases c1 : r.2 != 0 with
  | true => rw [c1] at h; simp only [cond_true, cond_false] at h; rw [h] at c1; cases c1
  | false =>
  rw [c1] at h
  cases c2 : validE it r.1 != 0 with
  | true => rw [c2] at h; simp only [cond_true, cond_false] at h; rw [h] at c2; cases c2
  | false => exact ⟨by simpa using c0, by simpa using c1, by simpa using c2, rfl⟩
theorem parse_err {it : ItV} {r : AnsV × Int} (h : (parseV it r).2 ≠ 0) : (parseV it r).1 = ans0 := by
  unfold parseV at h ⊢
  cases c0 : itemE it != 0 with
  | true => rfl
  | false =>
  cases c1 : r.2 != 0 with
  | true => rfl
  | false =>
  cases c2 : validE it r.1 != 0 with
  | true => rfl
  | false => rw [c0, c1, c2] at h; exact absurd rfl h
theorem print_err {it : ItV} {a : AnsV} (h : (printV it a).2 ≠ 0) : (printV it a).1 = [] := by
  unfold printV at h ⊢
  cases c0 : validE it a != 0 with
  | true => rfl
  | false =>
  cases c1 : kprB a.text with
  | false => rfl
  | true =>
  rw [c0, c1] at h
  exfalso
  apply h
  cases a.om <;> cases it.kind == 4 <;> cases hasTxB it.kind <;> cases ((a.ch.length : Nat) : Int) == 0 <;> rfl
theorem print_ok {it : ItV} {a : AnsV} (h : (printV it a).2 = 0) : validE it a = 0 ∧ kprB a.text = true := by
  unfold printV at h
  cases c0 : validE it a != 0 with
  | true => rw [c0] at h; simp only [cond_true] at h; rw [h] at c0; cases c0
  | false =>
  rw [c0] at h
  cases c1 : kprB a.text with
  | false => rw [c1] at h; cases h
  | true => exact ⟨by simpa using c0, rfl⟩
theorem read_print {it : ItV} {s : List UInt8} (h0 : (readV it s).2 = 0) (hv : validE it (readV it s).1 = 0) : printV it (readV it s).1 = (s, 0) := by
  have A := valid_ok hv
  have IO := item_ok A.item
  have hkd := IO.kinds
  have on := IO.opts
  unfold readV at h0 hv A ⊢
  cases c4 : it.kind == 4 with
  | true =>
    rw [c4] at h0 hv
    simp only [cond_true] at h0 hv ⊢
    unfold readN at h0 hv ⊢
    cases c0 : s == [45] with
    | true =>
      rw [c0] at hv
      have e : s = [45] := by simpa using c0
      simp only [cond_true] at hv ⊢
      unfold printV
      rw [hv, e]
      rfl
    | false =>
    rw [c0] at h0 hv
    cases cd : decOK s && (((pAft s).length : Nat) : Int) == 3 with
    | false => rw [cd] at h0; cases h0
    | true =>
    rw [cd] at h0 hv
    cases ci : i64B (decV s) with
    | false => rw [ci] at h0; cases h0
    | true =>
    rw [ci] at hv
    simp only [cond_true, cond_false] at hv ⊢
    rw [Bool.and_eq_true] at cd
    have P := decOK_parts cd.1
    have hl : (pAft s).length = 3 := by have := eq_of_beq cd.2; omega
    have PP := parse_print s P.1 P.2.1
    rw [hl] at PP
    unfold printV
    rw [hv, c4]
    show (decTx (decV s) 3, (0 : Int)) = (s, 0)
    unfold decV
    rw [PP]
  | false =>
    rw [c4] at h0 hv A
    simp only [cond_false] at h0 hv A ⊢
    unfold readT at h0 hv A ⊢
    cases c0 : s == [45] with
    | true =>
      rw [c0] at hv
      have e : s = [45] := by simpa using c0
      simp only [cond_true] at hv ⊢
      unfold printV
      rw [hv, e]
      rfl
    | false =>
    rw [c0] at h0 hv A
    cases ch : hasChB it.kind with
    | true =>
      rw [ch] at h0 hv A
      cases cr : (rchV s).2 with
      | false => rw [cr] at h0; cases h0
      | true =>
      rw [cr] at hv A
      simp only [cond_true, cond_false] at hv A ⊢
      have kk : it.kind = 1 ∨ it.kind = 2 ∨ it.kind = 3 := by
        unfold hasChB at ch
        simp at ch
        omega
      have ht : hasTxB it.kind = false := by rcases kk with h | h | h <;> rw [h] <;> rfl
      have F := (A.fit rfl kk).1
      have B := rch_back cr fun c hc => by have := F c hc; omega
      unfold printV
      rw [hv, c4, ht]
      simp only [show kprB [] = true from rfl, show ((0 : Int) != 0) = false from rfl, Bool.not_true, cond_false]
      rcases B with ⟨B1, B2⟩ | ⟨B1, B2⟩
      · rw [B2, B1]; rfl
      · have hl : ((((rchV s).1.length : Nat) : Int) == 0) = false := by
          rw [beq_eq_false_iff_ne]
          intro e
          exact B1 (List.length_eq_zero_iff.1 (by omega))
        rw [hl, B2]
        rfl
    | false =>
      rw [ch] at h0 hv
      cases cp : Lib.hasPrefix s [58] && kprB (Lib.trimPrefix s [58]) with
      | false => rw [cp] at h0; cases h0
      | true =>
      rw [cp] at hv
      simp only [cond_true, cond_false] at hv ⊢
      rw [Bool.and_eq_true] at cp
      have ht : hasTxB it.kind = true := by
        unfold hasChB at ch
        unfold hasTxB
        simp at ch c4 ⊢
        omega
      have es : 58 :: Lib.trimPrefix s [58] = s := by
        unfold Lib.trimPrefix
        rw [if_pos cp.1]
        have hp := cp.1
        unfold Lib.hasPrefix at hp
        cases s with
        | nil => simp [List.isPrefixOf] at hp
        | cons b r =>
          simp [List.isPrefixOf] at hp
          subst hp
          rfl
      unfold printV
      rw [hv, c4, ht]
      simp only [cp.2, show ((0 : Int) != 0) = false from rfl, Bool.not_true, cond_false, cond_true, es]
theorem print_len {it : ItV} {a : AnsV} (hv : validE it a = 0) (ht : a.text.length ≤ 1048576) : (printV it a).1.length ≤ 1900000 := by
  have A := valid_ok hv
  have IO := item_ok A.item
  have hkd := IO.kinds
  have on := IO.opts
  unfold printV
  rw [hv]
  simp only [show ((0 : Int) != 0) = false from rfl, cond_false]
  cases kprB a.text with
  | false => simp
  | true =>
  simp only [Bool.not_true, cond_false]
  cases om : a.om with
  | true => simp
  | false =>
  simp only [cond_false]
  cases c4 : it.kind == 4 with
  | true =>
    have av : -9999999 ≤ a.val ∧ a.val ≤ 9999999 := by
      have hb := A.plain
      unfold validE at hv
      rw [show (itemE it != 0) = false by simp [A.item], show (a.item != it.id) = false by simp [A.id], hb, om, c4] at hv
      cases d1 : decide (a.val < -9999999) with
      | true => rw [d1] at hv; cases hv
      | false =>
      cases d2 : decide ((9999999 : Int) < a.val) with
      | true => rw [d1, d2] at hv; cases hv
      | false => simp at d1 d2; omega
    have := decTx_400 av
    simp only [cond_true]
    omega
  | false =>
  simp only [cond_false]
  cases ct : hasTxB it.kind with
  | true => simp only [cond_true, List.length_cons]; omega
  | false =>
  simp only [cond_false]
  cases ((a.ch.length : Nat) : Int) == 0 with
  | true => simp
  | false =>
  simp only [cond_false]
  have kk : it.kind = 1 ∨ it.kind = 2 ∨ it.kind = 3 := by
    unfold hasTxB at ct
    simp at ct c4
    omega
  have F := A.fit om kk
  have F10 : ∀ c ∈ a.ch, 0 ≤ c ∧ c < 10 := fun c hc => by have := F.1 c hc; omega
  have hn : a.ch.length ≤ 10 := by
    rcases kk with h | h | h
    · have := F.2
      rw [h] at this
      have h1 : ((a.ch.length : Nat) : Int) = 1 := by simpa [fitB] using this
      omega
    · have := F.2
      rw [h] at this
      have hp : krisB a.ch = true := by simpa [fitB] using this
      have := nodup_le a.ch [0, 1, 2, 3, 4, 5, 6, 7, 8, 9] (pw_nodup (kris_pw hp)) fun x hx => by
        have := F10 x hx
        simp
        omega
      simpa using this
    · have := F.2
      rw [h] at this
      simp [fitB] at this
      omega
  have hi : ∀ x ∈ chW a.ch, x.length ≤ 21 := fun x hx => by
    obtain ⟨c, hcc, rfl⟩ := List.mem_map.1 hx
    have := F10 c hcc
    exact Lib.itoa_length_le _ (by omega) (by omega)
  have hjl := join_len [44] 21 (chW a.ch) hi
  have hcl : (chW a.ch).length = a.ch.length := by simp [chW]
  simp only [List.length_cons, List.length_nil, Nat.reduceAdd] at hjl
  omega
end Go.Proofs.YtkmicjpoekbhfaaGreatDoor

/- Chapter 40: the examples of the chapter. INTS -/
set_option linter.unusedSimpArgs false
set_option linter.unusedVariables false
namespace Go.Proofs.YtkmicjpoekbhfaaGreatDoor
open Go.RowKit Go.Shelf Lim

theorem sort201 : sortI [2, 0, 1] = [0, 1, 2] := by simp [List.mergeSort]
theorem sort210 : sortI [2, 1, 0] = [0, 1, 2] := by simp [List.mergeSort]
theorem ord_item : itemE (sampleV 3 2 [2, 0, 1]) = 0 := by
  have k : keyB (sampleV 3 2 [2, 0, 1]) = true := by
    have e : keyB (sampleV 3 2 [2, 0, 1]) = key3 (sampleV 3 2 [2, 0, 1]) := rfl
    rw [e]
    unfold key3
    rw [show (sampleV 3 2 [2, 0, 1]).key = [2, 0, 1] from rfl, sort201]
    rfl
  unfold itemE
  rw [k]
  rfl
theorem ord_valid (l : List Int) (hs : sortI l = [0, 1, 2]) (hl : l.length = 3) (hr : l.all (inRB 3) = true) : validE (sampleV 3 2 [2, 0, 1]) ⟨7, l, 0, [], false⟩ = 0 := by
  have c : chE 3 3 l = 0 := by
    unfold chE fitB
    rw [hr, hs, hl]
    kernel_rfl
  have b : badB (sampleV 3 2 [2, 0, 1]) ⟨7, l, 0, [], false⟩ = false := by
    unfold badB
    rw [show hasChB (sampleV 3 2 [2, 0, 1]).kind = true by kernel_rfl]
    simp
  unfold validE
  rw [ord_item, b]
  exact c
theorem ord_score (l : List Int) (hs : sortI l = [0, 1, 2]) (hl : l.length = 3) (hr : l.all (inRB 3) = true) : scoreV (sampleV 3 2 [2, 0, 1]) ⟨7, l, 0, [], false⟩ = (orderV (sampleV 3 2 [2, 0, 1]) l, 0) := by
  unfold scoreV
  rw [ord_valid l hs hl hr]
  rfl
theorem sample_ok (k p : Int) (key : List Int) (h1 : key.length ≤ 3) (h2 : ∀ z ∈ key, inI z) (hk : inI k) (hp : inI p) : IOK (sampleV k p key) := by
  unfold sampleV smO
  constructor <;> first | exact h2 | exact hk | exact hp | (simp [inI]; done) | (cases k == 3 <;> simp; done) | (simp; omega)
set_option maxHeartbeats 8000000 in
theorem awake40_c : AC 15 [] (boo true) := by
  have m1 := sample_c 2 3 [0, 1, 3]
  have m2 := sample_c 3 2 [2, 0, 1]
  have m3 := sample_c 1 1 [2]
  have o1 := sample_ok 2 3 [0, 1, 3] (by simp) (by simp [inI]) (by simp [inI]) (by simp [inI])
  have o2 := sample_ok 3 2 [2, 0, 1] (by simp) (by simp [inI]) (by simp [inI]) (by simp [inI])
  have o3 := sample_ok 1 1 [2] (by simp) (by simp [inI]) (by simp [inI]) (by simp [inI])
  have s1 := scored_c _ o1 1 [0, 1, 2] (by simp) (by simp [inI])
  have s2 := scored_c _ o1 3 [0, 1, 3] (by simp) (by simp [inI])
  have s3 := scored_c _ o2 0 [2, 1, 0] (by simp) (by simp [inI])
  have s4 := scored_c _ o2 2 [2, 0, 1] (by simp) (by simp [inI])
  have s5 := scored_c _ o3 1 [2] (by simp) (by simp [inI])
  have s6 := scored_c _ o3 0 [1] (by simp) (by simp [inI])
  rw [show scoredB (sampleV 2 3 [0, 1, 3]) 1 [0, 1, 2] = true by kernel_rfl] at s1
  rw [show scoredB (sampleV 2 3 [0, 1, 3]) 3 [0, 1, 3] = true by kernel_rfl] at s2
  rw [show scoredB (sampleV 3 2 [2, 0, 1]) 0 [2, 1, 0] = true by unfold scoredB; rw [ord_score _ sort210 rfl (by kernel_rfl)]; kernel_rfl] at s3
  rw [show scoredB (sampleV 3 2 [2, 0, 1]) 2 [2, 0, 1] = true by unfold scoredB; rw [ord_score _ sort201 rfl (by kernel_rfl)]; kernel_rfl] at s4
  rw [show scoredB (sampleV 1 1 [2]) 1 [2] = true by kernel_rfl] at s5
  rw [show scoredB (sampleV 1 1 [2]) 0 [1] = true by kernel_rfl] at s6
  have pr := print_c _ o1 ⟨7, [0, 2], 0, [], false⟩ ⟨by simp, by simp [inI], by simp, by simp [inI]⟩
  rw [show printV (sampleV 2 3 [0, 1, 3]) ⟨7, [0, 2], 0, [], false⟩ = ([49, 44, 51], 0) by kernel_rfl] at pr
  have p1 := parse_of _ o1 [49, 44, 51] _ (read_ok _ _ (by simp)) (read_c (sampleV 2 3 [0, 1, 3]) [49, 44, 51] (by simp) rfl)
  rw [show parseV (sampleV 2 3 [0, 1, 3]) (readT (sampleV 2 3 [0, 1, 3]) [49, 44, 51]) = (⟨7, [0, 2], 0, [], false⟩, 0) by kernel_rfl] at p1
  have p2 := parse_of _ o3 [49, 44, 50] _ (read_ok _ _ (by simp)) (read_c (sampleV 1 1 [2]) [49, 44, 50] (by simp) rfl)
  rw [show parseV (sampleV 1 1 [2]) (readT (sampleV 1 1 [2]) [49, 44, 50]) = (ans0, 23) by kernel_rfl] at p2
  have p3 := parse_of _ o3 [48] _ (read_ok _ _ (by simp)) (read_c (sampleV 1 1 [2]) [48] (by simp) rfl)
  rw [show parseV (sampleV 1 1 [2]) (readT (sampleV 1 1 [2]) [48]) = (ans0, 2) by kernel_rfl] at p3
  have r := right_c _ o3
  rw [show rightV (sampleV 1 1 [2]) = ⟨7, [2], 0, [], false⟩ by kernel_rfl, show rightE (sampleV 1 1 [2]) = 0 by kernel_rfl] at r
  have q1 := same_c ⟨7, [0, 2], 0, [], false⟩ ⟨7, [0, 2], 0, [], false⟩ (by simp)
  rw [show sameB ⟨7, [0, 2], 0, [], false⟩ ⟨7, [0, 2], 0, [], false⟩ = true by kernel_rfl] at q1
  have q2 := same_c ⟨7, [2], 0, [], false⟩ ⟨7, [2], 0, [], false⟩ (by simp)
  rw [show sameB ⟨7, [2], 0, [], false⟩ ⟨7, [2], 0, [], false⟩ = true by kernel_rfl] at q2
  have n1 := normal_c [32, 32, 78, 101, 119, 45, 89, 111, 114, 107, 32, 46, 32] (by simp)
  rw [show normV [32, 32, 78, 101, 119, 45, 89, 111, 114, 107, 32, 46, 32] = [110, 101, 119, 121, 111, 114, 107] by kernel_rfl] at n1
  have n2 := normal_c [79, 32, 32, 50] (by simp)
  rw [show normV [79, 32, 32, 50] = [111, 32, 50] by kernel_rfl] at n2
  clear o1 o2 o3
  have t1 : (([49, 44, 51] : List UInt8) == (ByteArray.mk #[49, 44, 51]).toList) = true := by rw [show (ByteArray.mk #[49, 44, 51]).toList = [49, 44, 51] from toList_bs [49, 44, 51]]; rfl
  have t2 : (([110, 101, 119, 121, 111, 114, 107] : List UInt8) == (ByteArray.mk #[110, 101, 119, 121, 111, 114, 107]).toList) = true := by rw [show (ByteArray.mk #[110, 101, 119, 121, 111, 114, 107]).toList = [110, 101, 119, 121, 111, 114, 107] from toList_bs [110, 101, 119, 121, 111, 114, 107]]; rfl
  have t3 : (([111, 32, 50] : List UInt8) == (ByteArray.mk #[111, 32, 50]).toList) = true := by rw [show (ByteArray.mk #[111, 32, 50]).toList = [111, 32, 50] from toList_bs [111, 32, 50]]; rfl
  generalize sampleV 2 3 [0, 1, 3] = A at *
  generalize sampleV 3 2 [2, 0, 1] = B at *
  generalize sampleV 1 1 [2] = C at *
  refine ACalls.of ⟨14, [], []⟩ (fn := Tryz.f15) Tryz.func15 rfl rfl rfl (by kernel_rfl) (by kernel_rfl) (Nat.le_of_ble_eq_true rfl) ?_
  simp (maxSteps := 1000000) -implicitDefEqProofs only [go_sem, awp_seq, Nat.reduceBNe, Nat.reduceBEq, Nat.reduceAdd, Nat.reduceSub, Nat.reduceMul, Nat.reduceLeDiff, Nat.reduceLT, Nat.reduceEqDiff, Nat.reduceBneDiff, Int.reduceLE, Int.reduceLT, Int.reduceToNat, Int.reduceBEq, Int.reduceBNe, Int.reduceAdd, Int.reduceSub, Int.cast_ofNat_Int]
  refine callA_t m1 ?_
  simp (maxSteps := 1000000) -implicitDefEqProofs only [go_sem, awp_seq, Nat.reduceBNe, Nat.reduceBEq, Nat.reduceAdd, Nat.reduceSub, Nat.reduceMul, Nat.reduceLeDiff, Nat.reduceLT, Nat.reduceEqDiff, Nat.reduceBneDiff, Int.reduceLE, Int.reduceLT, Int.reduceToNat, Int.reduceBEq, Int.reduceBNe, Int.reduceAdd, Int.reduceSub, Int.cast_ofNat_Int]
  refine callA_t m2 ?_
  simp (maxSteps := 1000000) -implicitDefEqProofs only [go_sem, awp_seq, Nat.reduceBNe, Nat.reduceBEq, Nat.reduceAdd, Nat.reduceSub, Nat.reduceMul, Nat.reduceLeDiff, Nat.reduceLT, Nat.reduceEqDiff, Nat.reduceBneDiff, Int.reduceLE, Int.reduceLT, Int.reduceToNat, Int.reduceBEq, Int.reduceBNe, Int.reduceAdd, Int.reduceSub, Int.cast_ofNat_Int]
  refine callA_t m3 ?_
  simp (maxSteps := 1000000) -implicitDefEqProofs only [go_sem, awp_seq, Nat.reduceBNe, Nat.reduceBEq, Nat.reduceAdd, Nat.reduceSub, Nat.reduceMul, Nat.reduceLeDiff, Nat.reduceLT, Nat.reduceEqDiff, Nat.reduceBneDiff, Int.reduceLE, Int.reduceLT, Int.reduceToNat, Int.reduceBEq, Int.reduceBNe, Int.reduceAdd, Int.reduceSub, Int.cast_ofNat_Int]
  refine callA_mk s1 ?_
  simp (maxSteps := 1000000) -implicitDefEqProofs only [Bool.not_true, go_sem, awp_seq, Nat.reduceBNe, Nat.reduceBEq, Nat.reduceAdd, Nat.reduceSub, Nat.reduceMul, Nat.reduceLeDiff, Nat.reduceLT, Nat.reduceEqDiff, Nat.reduceBneDiff, Int.reduceLE, Int.reduceLT, Int.reduceToNat, Int.reduceBEq, Int.reduceBNe, Int.reduceAdd, Int.reduceSub, Int.cast_ofNat_Int]
  refine callA_mk s2 ?_
  simp (maxSteps := 1000000) -implicitDefEqProofs only [Bool.not_true, go_sem, awp_seq, Nat.reduceBNe, Nat.reduceBEq, Nat.reduceAdd, Nat.reduceSub, Nat.reduceMul, Nat.reduceLeDiff, Nat.reduceLT, Nat.reduceEqDiff, Nat.reduceBneDiff, Int.reduceLE, Int.reduceLT, Int.reduceToNat, Int.reduceBEq, Int.reduceBNe, Int.reduceAdd, Int.reduceSub, Int.cast_ofNat_Int]
  refine callA_mk s3 ?_
  simp (maxSteps := 1000000) -implicitDefEqProofs only [Bool.not_true, go_sem, awp_seq, Nat.reduceBNe, Nat.reduceBEq, Nat.reduceAdd, Nat.reduceSub, Nat.reduceMul, Nat.reduceLeDiff, Nat.reduceLT, Nat.reduceEqDiff, Nat.reduceBneDiff, Int.reduceLE, Int.reduceLT, Int.reduceToNat, Int.reduceBEq, Int.reduceBNe, Int.reduceAdd, Int.reduceSub, Int.cast_ofNat_Int]
  refine callA_mk s4 ?_
  simp (maxSteps := 1000000) -implicitDefEqProofs only [Bool.not_true, go_sem, awp_seq, Nat.reduceBNe, Nat.reduceBEq, Nat.reduceAdd, Nat.reduceSub, Nat.reduceMul, Nat.reduceLeDiff, Nat.reduceLT, Nat.reduceEqDiff, Nat.reduceBneDiff, Int.reduceLE, Int.reduceLT, Int.reduceToNat, Int.reduceBEq, Int.reduceBNe, Int.reduceAdd, Int.reduceSub, Int.cast_ofNat_Int]
  refine callA_mk s5 ?_
  simp (maxSteps := 1000000) -implicitDefEqProofs only [Bool.not_true, go_sem, awp_seq, Nat.reduceBNe, Nat.reduceBEq, Nat.reduceAdd, Nat.reduceSub, Nat.reduceMul, Nat.reduceLeDiff, Nat.reduceLT, Nat.reduceEqDiff, Nat.reduceBneDiff, Int.reduceLE, Int.reduceLT, Int.reduceToNat, Int.reduceBEq, Int.reduceBNe, Int.reduceAdd, Int.reduceSub, Int.cast_ofNat_Int]
  refine callA_mk s6 ?_
  simp (maxSteps := 1000000) -implicitDefEqProofs only [Bool.not_true, go_sem, awp_seq, Nat.reduceBNe, Nat.reduceBEq, Nat.reduceAdd, Nat.reduceSub, Nat.reduceMul, Nat.reduceLeDiff, Nat.reduceLT, Nat.reduceEqDiff, Nat.reduceBneDiff, Int.reduceLE, Int.reduceLT, Int.reduceToNat, Int.reduceBEq, Int.reduceBNe, Int.reduceAdd, Int.reduceSub, Int.cast_ofNat_Int]
  refine callA_mk pr ?_
  simp (maxSteps := 1000000) -implicitDefEqProofs only [Bool.not_true, go_sem, awp_seq, Nat.reduceBNe, Nat.reduceBEq, Nat.reduceAdd, Nat.reduceSub, Nat.reduceMul, Nat.reduceLeDiff, Nat.reduceLT, Nat.reduceEqDiff, Nat.reduceBneDiff, Int.reduceLE, Int.reduceLT, Int.reduceToNat, Int.reduceBEq, Int.reduceBNe, Int.reduceAdd, Int.reduceSub, Int.cast_ofNat_Int]
  refine callA_mk p1 ?_
  simp (maxSteps := 1000000) -implicitDefEqProofs only [Bool.not_true, go_sem, awp_seq, Nat.reduceBNe, Nat.reduceBEq, Nat.reduceAdd, Nat.reduceSub, Nat.reduceMul, Nat.reduceLeDiff, Nat.reduceLT, Nat.reduceEqDiff, Nat.reduceBneDiff, Int.reduceLE, Int.reduceLT, Int.reduceToNat, Int.reduceBEq, Int.reduceBNe, Int.reduceAdd, Int.reduceSub, Int.cast_ofNat_Int]
  refine callA_mk p2 ?_
  simp (maxSteps := 1000000) -implicitDefEqProofs only [Bool.not_true, go_sem, awp_seq, Nat.reduceBNe, Nat.reduceBEq, Nat.reduceAdd, Nat.reduceSub, Nat.reduceMul, Nat.reduceLeDiff, Nat.reduceLT, Nat.reduceEqDiff, Nat.reduceBneDiff, Int.reduceLE, Int.reduceLT, Int.reduceToNat, Int.reduceBEq, Int.reduceBNe, Int.reduceAdd, Int.reduceSub, Int.cast_ofNat_Int]
  refine callA_mk p3 ?_
  simp (maxSteps := 1000000) -implicitDefEqProofs only [Bool.not_true, go_sem, awp_seq, Nat.reduceBNe, Nat.reduceBEq, Nat.reduceAdd, Nat.reduceSub, Nat.reduceMul, Nat.reduceLeDiff, Nat.reduceLT, Nat.reduceEqDiff, Nat.reduceBneDiff, Int.reduceLE, Int.reduceLT, Int.reduceToNat, Int.reduceBEq, Int.reduceBNe, Int.reduceAdd, Int.reduceSub, Int.cast_ofNat_Int]
  refine callA_mk r ?_
  simp (maxSteps := 1000000) -implicitDefEqProofs only [toList_bs, t1, t2, t3, Bool.not_true, go_sem, awp_seq, Nat.reduceBNe, Nat.reduceBEq, Nat.reduceAdd, Nat.reduceSub, Nat.reduceMul, Nat.reduceLeDiff, Nat.reduceLT, Nat.reduceEqDiff, Nat.reduceBneDiff, Int.reduceLE, Int.reduceLT, Int.reduceToNat, Int.reduceBEq, Int.reduceBNe, Int.reduceAdd, Int.reduceSub, Int.cast_ofNat_Int]
  refine callA_t q1 ?_
  simp (maxSteps := 1000000) -implicitDefEqProofs only [toList_bs, t1, t2, t3, Bool.not_true, go_sem, awp_seq, Nat.reduceBNe, Nat.reduceBEq, Nat.reduceAdd, Nat.reduceSub, Nat.reduceMul, Nat.reduceLeDiff, Nat.reduceLT, Nat.reduceEqDiff, Nat.reduceBneDiff, Int.reduceLE, Int.reduceLT, Int.reduceToNat, Int.reduceBEq, Int.reduceBNe, Int.reduceAdd, Int.reduceSub, Int.cast_ofNat_Int]
  refine callA_t q2 ?_
  simp (maxSteps := 1000000) -implicitDefEqProofs only [toList_bs, t1, t2, t3, Bool.not_true, go_sem, awp_seq, Nat.reduceBNe, Nat.reduceBEq, Nat.reduceAdd, Nat.reduceSub, Nat.reduceMul, Nat.reduceLeDiff, Nat.reduceLT, Nat.reduceEqDiff, Nat.reduceBneDiff, Int.reduceLE, Int.reduceLT, Int.reduceToNat, Int.reduceBEq, Int.reduceBNe, Int.reduceAdd, Int.reduceSub, Int.cast_ofNat_Int]
  refine callA_t n1 ?_
  simp (maxSteps := 1000000) -implicitDefEqProofs only [toList_bs, t1, t2, t3, Bool.not_true, go_sem, awp_seq, Nat.reduceBNe, Nat.reduceBEq, Nat.reduceAdd, Nat.reduceSub, Nat.reduceMul, Nat.reduceLeDiff, Nat.reduceLT, Nat.reduceEqDiff, Nat.reduceBneDiff, Int.reduceLE, Int.reduceLT, Int.reduceToNat, Int.reduceBEq, Int.reduceBNe, Int.reduceAdd, Int.reduceSub, Int.cast_ofNat_Int]
  refine callA_t n2 ?_
  simp (maxSteps := 1000000) -implicitDefEqProofs only [toList_bs, t1, t2, t3, Bool.not_true, go_sem, awp_seq, Nat.reduceBNe, Nat.reduceBEq, Nat.reduceAdd, Nat.reduceSub, Nat.reduceMul, Nat.reduceLeDiff, Nat.reduceLT, Nat.reduceEqDiff, Nat.reduceBneDiff, Int.reduceLE, Int.reduceLT, Int.reduceToNat, Int.reduceBEq, Int.reduceBNe, Int.reduceAdd, Int.reduceSub, Int.cast_ofNat_Int]
end Go.Proofs.YtkmicjpoekbhfaaGreatDoor

/- Chapter 40: the law KeyingNotation, its walk. INTS -/
set_option linter.unusedSimpArgs false
set_option linter.unusedVariables false
namespace Go.Proofs.YtkmicjpoekbhfaaGreatDoor
open Go.RowKit Lim

theorem same_refl (a : AnsV) : sameB a a = true := by simp [sameB]
set_option maxHeartbeats 8000000 in
theorem keyingNotation_c (it : ItV) (h : IOK it) (a : AnsV) (ha : ANOK a) (hat : a.text.length ≤ 1048576) (s : List UInt8) (hs : s.length ≤ 1048576) : AC 5 [itA it, ansA a, str s] (boo true) := by
  have PR := print_c it h a ha
  have AW := awake40_c
  have PA := parse_c it h s (by omega)
  have S0 := same_c ans0 ans0 (by simp)
  rw [same_refl] at S0
  have S1 := same_c a a ha.ch
  rw [same_refl] at S1
  have c00 : ((0 : Int) != 0) = false := rfl
  have c01 : ((0 : Int) == 0) = true := rfl
  have ss : (s == s) = true := by simp
  have nn : ((([] : List UInt8) == []) : Bool) = true := rfl
  cases hp : (printV it a).2 == 0 with
  | true =>
    have hp0 : (printV it a).2 = 0 := by simpa using hp
    obtain ⟨hv, hk⟩ := print_ok hp0
    have R := (print_read hv hk).2
    have P1 := parse_c it h (printV it a).1 (print_len hv hat)
    rw [parse_read hv R] at P1
    rw [hp0] at PR
    generalize (printV it a).1 = t at *
    cases he : (parseV it (readV it s)).2 != 0 with
    | true =>
      have e0 := parse_err (it := it) (r := readV it s) (by simpa using he)
      rw [e0] at PA
      generalize (parseV it (readV it s)).2 = e at *
      refine ACalls.of ⟨15, [], []⟩ (fn := Tryz.f5) Tryz.func5 rfl rfl rfl (by kernel_rfl) (by kernel_rfl) (Nat.le_of_ble_eq_true rfl) ?_
      simp (maxSteps := 1000000) -implicitDefEqProofs only [go_sem, awp_seq, Nat.reduceBNe, Nat.reduceBEq, Nat.reduceAdd, Nat.reduceSub, Nat.reduceMul, Nat.reduceLeDiff, Nat.reduceLT, Nat.reduceEqDiff, Nat.reduceBneDiff, Int.reduceLE, Int.reduceLT, Int.reduceToNat, Int.reduceBEq, Int.reduceBNe, Int.reduceAdd, Int.reduceSub, Int.cast_ofNat_Int]
      refine callA_mk PR ?_
      simp (maxSteps := 1000000) -implicitDefEqProofs only [c01, go_sem, awp_seq, Nat.reduceBNe, Nat.reduceBEq, Nat.reduceAdd, Nat.reduceSub, Nat.reduceMul, Nat.reduceLeDiff, Nat.reduceLT, Nat.reduceEqDiff, Nat.reduceBneDiff, Int.reduceLE, Int.reduceLT, Int.reduceToNat, Int.reduceBEq, Int.reduceBNe, Int.reduceAdd, Int.reduceSub, Int.cast_ofNat_Int]
      refine callA_mk P1 ?_
      simp (maxSteps := 1000000) -implicitDefEqProofs only [c00, go_sem, awp_seq, Nat.reduceBNe, Nat.reduceBEq, Nat.reduceAdd, Nat.reduceSub, Nat.reduceMul, Nat.reduceLeDiff, Nat.reduceLT, Nat.reduceEqDiff, Nat.reduceBneDiff, Int.reduceLE, Int.reduceLT, Int.reduceToNat, Int.reduceBEq, Int.reduceBNe, Int.reduceAdd, Int.reduceSub, Int.cast_ofNat_Int]
      refine callA_t S1 ?_
      simp (maxSteps := 1000000) -implicitDefEqProofs only [Bool.not_true, go_sem, awp_seq, Nat.reduceBNe, Nat.reduceBEq, Nat.reduceAdd, Nat.reduceSub, Nat.reduceMul, Nat.reduceLeDiff, Nat.reduceLT, Nat.reduceEqDiff, Nat.reduceBneDiff, Int.reduceLE, Int.reduceLT, Int.reduceToNat, Int.reduceBEq, Int.reduceBNe, Int.reduceAdd, Int.reduceSub, Int.cast_ofNat_Int]
      refine callA_mk PA ?_
      simp (maxSteps := 1000000) -implicitDefEqProofs only [he, go_sem, awp_seq, Nat.reduceBNe, Nat.reduceBEq, Nat.reduceAdd, Nat.reduceSub, Nat.reduceMul, Nat.reduceLeDiff, Nat.reduceLT, Nat.reduceEqDiff, Nat.reduceBneDiff, Int.reduceLE, Int.reduceLT, Int.reduceToNat, Int.reduceBEq, Int.reduceBNe, Int.reduceAdd, Int.reduceSub, Int.cast_ofNat_Int]
      refine callA_t S0 ?_
      simp (maxSteps := 1000000) -implicitDefEqProofs only [go_sem, awp_seq, Nat.reduceBNe, Nat.reduceBEq, Nat.reduceAdd, Nat.reduceSub, Nat.reduceMul, Nat.reduceLeDiff, Nat.reduceLT, Nat.reduceEqDiff, Nat.reduceBneDiff, Int.reduceLE, Int.reduceLT, Int.reduceToNat, Int.reduceBEq, Int.reduceBNe, Int.reduceAdd, Int.reduceSub, Int.cast_ofNat_Int]
      refine callA_mk AW ?_
      simp (maxSteps := 1000000) -implicitDefEqProofs only [go_sem, awp_seq, Nat.reduceBNe, Nat.reduceBEq, Nat.reduceAdd, Nat.reduceSub, Nat.reduceMul, Nat.reduceLeDiff, Nat.reduceLT, Nat.reduceEqDiff, Nat.reduceBneDiff, Int.reduceLE, Int.reduceLT, Int.reduceToNat, Int.reduceBEq, Int.reduceBNe, Int.reduceAdd, Int.reduceSub, Int.cast_ofNat_Int]
    | false =>
      have he0 : (parseV it (readV it s)).2 = 0 := by simpa using he
      obtain ⟨_, r0, rv, rp⟩ := parse_parts he0
      have PB := print_c it h (readV it s).1 (readV_ok it s (by omega))
      rw [read_print r0 rv] at PB
      have VB := keyingValid_c it h (readV it s).1 (readV_ok it s (by omega))
      rw [rv] at VB
      rw [rp] at PA
      generalize (readV it s).1 = c at *
      refine ACalls.of ⟨15, [], []⟩ (fn := Tryz.f5) Tryz.func5 rfl rfl rfl (by kernel_rfl) (by kernel_rfl) (Nat.le_of_ble_eq_true rfl) ?_
      simp (maxSteps := 1000000) -implicitDefEqProofs only [go_sem, awp_seq, Nat.reduceBNe, Nat.reduceBEq, Nat.reduceAdd, Nat.reduceSub, Nat.reduceMul, Nat.reduceLeDiff, Nat.reduceLT, Nat.reduceEqDiff, Nat.reduceBneDiff, Int.reduceLE, Int.reduceLT, Int.reduceToNat, Int.reduceBEq, Int.reduceBNe, Int.reduceAdd, Int.reduceSub, Int.cast_ofNat_Int]
      refine callA_mk PR ?_
      simp (maxSteps := 1000000) -implicitDefEqProofs only [c01, go_sem, awp_seq, Nat.reduceBNe, Nat.reduceBEq, Nat.reduceAdd, Nat.reduceSub, Nat.reduceMul, Nat.reduceLeDiff, Nat.reduceLT, Nat.reduceEqDiff, Nat.reduceBneDiff, Int.reduceLE, Int.reduceLT, Int.reduceToNat, Int.reduceBEq, Int.reduceBNe, Int.reduceAdd, Int.reduceSub, Int.cast_ofNat_Int]
      refine callA_mk P1 ?_
      simp (maxSteps := 1000000) -implicitDefEqProofs only [c00, go_sem, awp_seq, Nat.reduceBNe, Nat.reduceBEq, Nat.reduceAdd, Nat.reduceSub, Nat.reduceMul, Nat.reduceLeDiff, Nat.reduceLT, Nat.reduceEqDiff, Nat.reduceBneDiff, Int.reduceLE, Int.reduceLT, Int.reduceToNat, Int.reduceBEq, Int.reduceBNe, Int.reduceAdd, Int.reduceSub, Int.cast_ofNat_Int]
      refine callA_t S1 ?_
      simp (maxSteps := 1000000) -implicitDefEqProofs only [Bool.not_true, go_sem, awp_seq, Nat.reduceBNe, Nat.reduceBEq, Nat.reduceAdd, Nat.reduceSub, Nat.reduceMul, Nat.reduceLeDiff, Nat.reduceLT, Nat.reduceEqDiff, Nat.reduceBneDiff, Int.reduceLE, Int.reduceLT, Int.reduceToNat, Int.reduceBEq, Int.reduceBNe, Int.reduceAdd, Int.reduceSub, Int.cast_ofNat_Int]
      refine callA_mk PA ?_
      simp (maxSteps := 1000000) -implicitDefEqProofs only [c00, go_sem, awp_seq, Nat.reduceBNe, Nat.reduceBEq, Nat.reduceAdd, Nat.reduceSub, Nat.reduceMul, Nat.reduceLeDiff, Nat.reduceLT, Nat.reduceEqDiff, Nat.reduceBneDiff, Int.reduceLE, Int.reduceLT, Int.reduceToNat, Int.reduceBEq, Int.reduceBNe, Int.reduceAdd, Int.reduceSub, Int.cast_ofNat_Int]
      refine callA_mk PB ?_
      simp (maxSteps := 1000000) -implicitDefEqProofs only [toList_bs, ss, c01, go_sem, awp_seq, Nat.reduceBNe, Nat.reduceBEq, Nat.reduceAdd, Nat.reduceSub, Nat.reduceMul, Nat.reduceLeDiff, Nat.reduceLT, Nat.reduceEqDiff, Nat.reduceBneDiff, Int.reduceLE, Int.reduceLT, Int.reduceToNat, Int.reduceBEq, Int.reduceBNe, Int.reduceAdd, Int.reduceSub, Int.cast_ofNat_Int]
      refine callA_mk VB ?_
      simp (maxSteps := 1000000) -implicitDefEqProofs only [c01, go_sem, awp_seq, Nat.reduceBNe, Nat.reduceBEq, Nat.reduceAdd, Nat.reduceSub, Nat.reduceMul, Nat.reduceLeDiff, Nat.reduceLT, Nat.reduceEqDiff, Nat.reduceBneDiff, Int.reduceLE, Int.reduceLT, Int.reduceToNat, Int.reduceBEq, Int.reduceBNe, Int.reduceAdd, Int.reduceSub, Int.cast_ofNat_Int]
      refine callA_mk AW ?_
      simp (maxSteps := 1000000) -implicitDefEqProofs only [go_sem, awp_seq, Nat.reduceBNe, Nat.reduceBEq, Nat.reduceAdd, Nat.reduceSub, Nat.reduceMul, Nat.reduceLeDiff, Nat.reduceLT, Nat.reduceEqDiff, Nat.reduceBneDiff, Int.reduceLE, Int.reduceLT, Int.reduceToNat, Int.reduceBEq, Int.reduceBNe, Int.reduceAdd, Int.reduceSub, Int.cast_ofNat_Int]
  | false =>
    have hp0 : (printV it a).2 ≠ 0 := by simpa using hp
    rw [print_err hp0] at PR
    generalize (printV it a).2 = pe at *
    cases he : (parseV it (readV it s)).2 != 0 with
    | true =>
      have e0 := parse_err (it := it) (r := readV it s) (by simpa using he)
      rw [e0] at PA
      generalize (parseV it (readV it s)).2 = e at *
      refine ACalls.of ⟨15, [], []⟩ (fn := Tryz.f5) Tryz.func5 rfl rfl rfl (by kernel_rfl) (by kernel_rfl) (Nat.le_of_ble_eq_true rfl) ?_
      simp (maxSteps := 1000000) -implicitDefEqProofs only [go_sem, awp_seq, Nat.reduceBNe, Nat.reduceBEq, Nat.reduceAdd, Nat.reduceSub, Nat.reduceMul, Nat.reduceLeDiff, Nat.reduceLT, Nat.reduceEqDiff, Nat.reduceBneDiff, Int.reduceLE, Int.reduceLT, Int.reduceToNat, Int.reduceBEq, Int.reduceBNe, Int.reduceAdd, Int.reduceSub, Int.cast_ofNat_Int]
      refine callA_mk PR ?_
      simp (maxSteps := 1000000) -implicitDefEqProofs only [hp, toList_bs, toList_nil, nn, Bool.not_true, go_sem, awp_seq, Nat.reduceBNe, Nat.reduceBEq, Nat.reduceAdd, Nat.reduceSub, Nat.reduceMul, Nat.reduceLeDiff, Nat.reduceLT, Nat.reduceEqDiff, Nat.reduceBneDiff, Int.reduceLE, Int.reduceLT, Int.reduceToNat, Int.reduceBEq, Int.reduceBNe, Int.reduceAdd, Int.reduceSub, Int.cast_ofNat_Int]
      refine callA_mk PA ?_
      simp (maxSteps := 1000000) -implicitDefEqProofs only [he, go_sem, awp_seq, Nat.reduceBNe, Nat.reduceBEq, Nat.reduceAdd, Nat.reduceSub, Nat.reduceMul, Nat.reduceLeDiff, Nat.reduceLT, Nat.reduceEqDiff, Nat.reduceBneDiff, Int.reduceLE, Int.reduceLT, Int.reduceToNat, Int.reduceBEq, Int.reduceBNe, Int.reduceAdd, Int.reduceSub, Int.cast_ofNat_Int]
      refine callA_t S0 ?_
      simp (maxSteps := 1000000) -implicitDefEqProofs only [go_sem, awp_seq, Nat.reduceBNe, Nat.reduceBEq, Nat.reduceAdd, Nat.reduceSub, Nat.reduceMul, Nat.reduceLeDiff, Nat.reduceLT, Nat.reduceEqDiff, Nat.reduceBneDiff, Int.reduceLE, Int.reduceLT, Int.reduceToNat, Int.reduceBEq, Int.reduceBNe, Int.reduceAdd, Int.reduceSub, Int.cast_ofNat_Int]
      refine callA_mk AW ?_
      simp (maxSteps := 1000000) -implicitDefEqProofs only [go_sem, awp_seq, Nat.reduceBNe, Nat.reduceBEq, Nat.reduceAdd, Nat.reduceSub, Nat.reduceMul, Nat.reduceLeDiff, Nat.reduceLT, Nat.reduceEqDiff, Nat.reduceBneDiff, Int.reduceLE, Int.reduceLT, Int.reduceToNat, Int.reduceBEq, Int.reduceBNe, Int.reduceAdd, Int.reduceSub, Int.cast_ofNat_Int]
    | false =>
      have he0 : (parseV it (readV it s)).2 = 0 := by simpa using he
      obtain ⟨_, r0, rv, rp⟩ := parse_parts he0
      have PB := print_c it h (readV it s).1 (readV_ok it s (by omega))
      rw [read_print r0 rv] at PB
      have VB := keyingValid_c it h (readV it s).1 (readV_ok it s (by omega))
      rw [rv] at VB
      rw [rp] at PA
      generalize (readV it s).1 = c at *
      refine ACalls.of ⟨15, [], []⟩ (fn := Tryz.f5) Tryz.func5 rfl rfl rfl (by kernel_rfl) (by kernel_rfl) (Nat.le_of_ble_eq_true rfl) ?_
      simp (maxSteps := 1000000) -implicitDefEqProofs only [go_sem, awp_seq, Nat.reduceBNe, Nat.reduceBEq, Nat.reduceAdd, Nat.reduceSub, Nat.reduceMul, Nat.reduceLeDiff, Nat.reduceLT, Nat.reduceEqDiff, Nat.reduceBneDiff, Int.reduceLE, Int.reduceLT, Int.reduceToNat, Int.reduceBEq, Int.reduceBNe, Int.reduceAdd, Int.reduceSub, Int.cast_ofNat_Int]
      refine callA_mk PR ?_
      simp (maxSteps := 1000000) -implicitDefEqProofs only [hp, toList_bs, toList_nil, nn, Bool.not_true, go_sem, awp_seq, Nat.reduceBNe, Nat.reduceBEq, Nat.reduceAdd, Nat.reduceSub, Nat.reduceMul, Nat.reduceLeDiff, Nat.reduceLT, Nat.reduceEqDiff, Nat.reduceBneDiff, Int.reduceLE, Int.reduceLT, Int.reduceToNat, Int.reduceBEq, Int.reduceBNe, Int.reduceAdd, Int.reduceSub, Int.cast_ofNat_Int]
      refine callA_mk PA ?_
      simp (maxSteps := 1000000) -implicitDefEqProofs only [c00, go_sem, awp_seq, Nat.reduceBNe, Nat.reduceBEq, Nat.reduceAdd, Nat.reduceSub, Nat.reduceMul, Nat.reduceLeDiff, Nat.reduceLT, Nat.reduceEqDiff, Nat.reduceBneDiff, Int.reduceLE, Int.reduceLT, Int.reduceToNat, Int.reduceBEq, Int.reduceBNe, Int.reduceAdd, Int.reduceSub, Int.cast_ofNat_Int]
      refine callA_mk PB ?_
      simp (maxSteps := 1000000) -implicitDefEqProofs only [toList_bs, ss, c01, go_sem, awp_seq, Nat.reduceBNe, Nat.reduceBEq, Nat.reduceAdd, Nat.reduceSub, Nat.reduceMul, Nat.reduceLeDiff, Nat.reduceLT, Nat.reduceEqDiff, Nat.reduceBneDiff, Int.reduceLE, Int.reduceLT, Int.reduceToNat, Int.reduceBEq, Int.reduceBNe, Int.reduceAdd, Int.reduceSub, Int.cast_ofNat_Int]
      refine callA_mk VB ?_
      simp (maxSteps := 1000000) -implicitDefEqProofs only [c01, go_sem, awp_seq, Nat.reduceBNe, Nat.reduceBEq, Nat.reduceAdd, Nat.reduceSub, Nat.reduceMul, Nat.reduceLeDiff, Nat.reduceLT, Nat.reduceEqDiff, Nat.reduceBneDiff, Int.reduceLE, Int.reduceLT, Int.reduceToNat, Int.reduceBEq, Int.reduceBNe, Int.reduceAdd, Int.reduceSub, Int.cast_ofNat_Int]
      refine callA_mk AW ?_
      simp (maxSteps := 1000000) -implicitDefEqProofs only [go_sem, awp_seq, Nat.reduceBNe, Nat.reduceBEq, Nat.reduceAdd, Nat.reduceSub, Nat.reduceMul, Nat.reduceLeDiff, Nat.reduceLT, Nat.reduceEqDiff, Nat.reduceBneDiff, Int.reduceLE, Int.reduceLT, Int.reduceToNat, Int.reduceBEq, Int.reduceBNe, Int.reduceAdd, Int.reduceSub, Int.cast_ofNat_Int]
end Go.Proofs.YtkmicjpoekbhfaaGreatDoor

/- What an argument that can be read is, by the shape of its type. -/
set_option linter.unusedSimpArgs false
set_option linter.unusedVariables false
namespace Go.Proofs.YtkmicjpoekbhfaaGreatDoor
open Go.ChangeShapes Go.WideShapes Go.ChangeAt Go.RowKit Lim

/-- The shape of a type; a struct is a chain of its members. -/
inductive SH where
  | int (k : IntKind)
  | bool
  | str
  | nat
  | sl (e : SH)
  | nil
  | cons (f r : SH)
def SH.sz : SH → Nat
  | .nil => 0
  | .cons f r => f.sz + r.sz
  | _ => 1
/-- Cells of a shape, each row at most B long. -/
inductive Ok (B : Nat) : SH → List AV → Prop
  | int {k : IntKind} {z : Int} (h : k.min ≤ z ∧ z ≤ k.max) : Ok B (.int k) [.lit (.int k z)]
  | bool {b : Bool} : Ok B .bool [.lit (.bool b)]
  | str {l : List UInt8} (h : l.length ≤ B) : Ok B .str [Go.Proofs.YtkmicjpoekbhfaaGreatDoor.str l]
  | nat {l : List Nat} (h1 : Dig l) (h2 : l.length ≤ B) : Ok B .nat [.nat l]
  | sl {e : SH} {xs : List (List AV)} (h1 : xs.length ≤ B) (h2 : ∀ x, x ∈ xs → Ok B e x) : Ok B (.sl e) [.sl e.sz (xs.map (mkEl e.sz))]
  | nil : Ok B .nil []
  | cons {f r : SH} {a b : List AV} (h1 : Ok B f a) (h2 : Ok B r b) : Ok B (.cons f r) (a ++ b)
theorem Ok.facts {B : Nat} {s : SH} {cs : List AV} (h : Ok B s cs) : cs.length = s.sz ∧ cs.all AV.one = true := by
  induction h with
  | cons _ _ ih1 ih2 => simp only [SH.sz, List.length_append, List.all_append, ih1.1, ih2.1, ih1.2, ih2.2, Bool.and_self]; exact ⟨trivial, trivial⟩
  | nil => exact ⟨rfl, rfl⟩
  | _ => exact ⟨rfl, rfl⟩
/-- Whether a type has a shape; whether members have it. -/
def shB (P : Program) : SH → (TypeId → Bool) × (List Field → Nat → Bool)
  | .int k => (fun t => match P.underlying t with | some (.int k') => decide (k' = k) | _ => false, fun _ _ => false)
  | .bool => (fun t => match P.underlying t with | some .bool => true | _ => false, fun _ _ => false)
  | .str => (fun t => match P.underlying t with | some .string => true | _ => false, fun _ _ => false)
  | .nat => (fun t => match P.underlying t with | some (.slice e) => (match P.underlying e with | some (.int .u32) => P.cellsOf e == 1 | _ => false) | _ => false, fun _ _ => false)
  | .sl s => (fun t => match P.underlying t with | some (.slice e) => (shB P s).1 e && P.cellsOf e == s.sz && decide (0 < s.sz) | _ => false, fun _ _ => false)
  | .nil => (fun t => match P.underlying t with | some (.struct fs) => fs.toList.isEmpty && P.cellsOf t == 0 | _ => false, fun fs _ => fs.isEmpty)
  | .cons f r => (fun t => match P.underlying t with | some (.struct fs) => (match fs.toList with | g :: gs => g.offset == 0 && (shB P f).1 g.type && P.cellsOf g.type == f.sz && (shB P r).2 gs (0 + f.sz) | [] => false) && P.cellsOf t == f.sz + r.sz | _ => false,
      fun fs off => match fs with | g :: gs => g.offset == off && (shB P f).1 g.type && P.cellsOf g.type == f.sz && (shB P r).2 gs (off + f.sz) | [] => false)
theorem bulk_one {H : Type} (d : DataW H) : 1 ≤ Rows.uptoBulk d := by
  cases d with
  | lit l => cases l <;> simp [Rows.uptoBulk]
  | nil => simp [Rows.uptoBulk]
  | ptr d => simp [Rows.uptoBulk]
  | slice elems spare => simp [Rows.uptoBulk]
  | agg parts => simp [Rows.uptoBulk]
  | iface t d => simp [Rows.uptoBulk]
  | map entries => simp [Rows.uptoBulk]
  | held h => simp [Rows.uptoBulk]
theorem bulk_len {H : Type} (l : List (DataW H)) : l.length ≤ Rows.uptoBulkAll l := by
  induction l with
  | nil => simp [Rows.uptoBulkAll]
  | cons x r ih => have := bulk_one x; simp only [Rows.uptoBulkAll, List.length_cons]; omega
theorem bulk_mem {H : Type} {l : List (DataW H)} {x : DataW H} (h : x ∈ l) : Rows.uptoBulk x ≤ Rows.uptoBulkAll l := by
  induction l with
  | nil => simp at h
  | cons y r ih =>
    simp only [Rows.uptoBulkAll]
    rcases List.mem_cons.1 h with rfl | h
    · omega
    · have := ih h; omega
theorem cell_spot {w : World} {a : Addr} {v : Value} (h : w.cell? a = some v) : a = ⟨a.block, a.off, none⟩ := by
  obtain ⟨b, o, s⟩ := a
  cases s with
  | none => rfl
  | some q =>
    simp only [World.cell?] at h
    split at h <;> simp at h
abbrev inW (w : World) : Zone := fun b _ => b < w.heap.size
section
variable {H : Type} {enc : TypeId × Value → H} {P : Program} {w : World} {base : Nat} {spare : Nat → Bool} {held : Bool} {B : Nat}

theorem open_nat {t e : TypeId} {fuel : Nat} {cs : List Value} {x : DataW H × List MemPlace} (ht : P.underlying t = some (.slice e)) (he : P.underlying e = some (.int .u32)) (hc : P.cellsOf e = 1)
    (h : DataW.trod enc P w base spare held fuel t cs = some x) (hB : Rows.uptoBulk x.1 ≤ B) : ∃ l v, cs = [v] ∧ Dig l ∧ l.length ≤ B ∧ Rep w (inW w) (.nat l) v := by
  rcases open_ints ht he hc h with ⟨rfl, rfl⟩ | ⟨a, len, cap, zs, rfl, _, hl, hm, hz, rfl, hcell, hwf⟩
  · exact ⟨[], _, rfl, dig_nil, by simp, Rep.nat (l := []) (Rd.nil _ _) (by simp) (fun _ _ _ j hj => by simp at hj)⟩
  · have hlen : len ≤ zs.length := by rw [hz]; split <;> omega
    have hb : ∀ n ∈ zs, 0 ≤ n ∧ n < 4294967296 := fun n hn => by
      have := hwf n hn
      simp [Lit.wf, IntKind.min, IntKind.max, IntKind.signed, IntKind.bits] at this
      omega
    have hl2 : ((zs.take len).map Int.toNat).length = len := by simp; omega
    have hd : Dig ((zs.take len).map Int.toNat) := by
      intro y hy
      obtain ⟨n, hn, rfl⟩ := List.mem_map.1 hy
      have := hb n (List.mem_of_mem_take hn)
      omega
    have hR : Rd w (some a) ((zs.take len).map Int.toNat) := ⟨hd, fun hpos => by
      have h0 := hcell 0 (by omega)
      rw [show a.add 0 = a by simp [Addr.add]] at h0
      have ha := cell_spot h0
      refine ⟨a.block, a.off, by rw [← ha], World.block_lt_of_cell? w a h0, fun j hj => ?_⟩
      have hj2 : j < zs.length := by omega
      have := hcell j hj2
      rw [ha, add_addr] at this
      rw [this]
      simp only [List.getElem_map, List.getElem_take]
      have hb2 := hb zs[j] (List.getElem_mem hj2)
      rw [Int.toNat_of_nonneg hb2.1]
      simp [List.getD, List.getElem?_eq_getElem hj2]⟩
    refine ⟨(zs.take len).map Int.toNat, .slice (some a) ((zs.take len).map Int.toNat).length cap, by rw [hl2], hd, ?_, .nat hR (by omega) ?_⟩
    · rw [hl2]
      simp only [Rows.uptoBulk] at hB
      have h1 := bulk_len (lits (H := H) .u32 (zs.take len))
      have : (lits (H := H) .u32 (zs.take len)).length = len := by simp [lits]; omega
      omega
    · intro b off e j hj
      obtain ⟨b', off', e', hb', _⟩ := hR.2 (by omega)
      rw [e] at e'
      cases e'
      exact hb'
/-- Cells that stand for abstract ones. -/
def Stand (w : World) (as' : List AV) (cs : List Value) : Prop := as'.length = cs.length ∧ ∀ j (h1 : j < as'.length) (h2 : j < cs.length), Rep w (inW w) (as'[j]'h1) (cs[j]'h2)
theorem Stand.one {a : AV} {v : Value} (h : Rep w (inW w) a v) : Stand w [a] [v] := ⟨rfl, fun j h1 h2 => by
  have : j = 0 := by simp at h1; exact h1
  subst this
  exact h⟩
theorem add_cell {a : Addr} {i j : Nat} : (a.add i).add j = a.add (i + j) := Go.Deep.add_add a i j
theorem open_sl {s : SH} {t e : TypeId} {fuel : Nat} {cs : List Value} {x : DataW H × List MemPlace} (ht : P.underlying t = some (.slice e)) (hc : P.cellsOf e = s.sz) (hs : 0 < s.sz)
    (ih : ∀ {n : Nat} {cs' : List Value} {y : DataW H × List MemPlace}, DataW.trod enc P w base spare held n e cs' = some y → Rows.uptoBulk y.1 ≤ B → ∃ as', Ok B s as' ∧ Stand w as' cs')
    (h : DataW.trod enc P w base spare held fuel t cs = some x) (hB : Rows.uptoBulk x.1 ≤ B) : ∃ as', Ok B (.sl s) as' ∧ Stand w as' cs := by
  rcases Go.Deep.open_slice ht h with ⟨rfl, rfl⟩ | ⟨a, len, cap, m, n, D, Pl, rfl, hb, hl, hm, hmm, rfl, hx⟩
  · exact ⟨_, .sl (xs := []) (by simp) (fun x hx => by simp at hx), Stand.one .nil⟩
  have hlm : len ≤ m := by rw [hmm]; split <;> omega
  simp only [Rows.uptoBulk] at hB
  have h1 := bulk_len ((List.range len).map D)
  have h2 : ((List.range len).map D).length = len := by simp
  have hel : ∀ i, i < len → ∃ as', Ok B s as' ∧ ∃ cs', w.cells? base (a.add (i * s.sz)) s.sz = some cs' ∧ Stand w as' cs' := fun i hi => by
    obtain ⟨cs', k1, k2⟩ := hx i (by omega)
    rw [hc] at k1
    have k3 : Rows.uptoBulk (D i) ≤ Rows.uptoBulkAll ((List.range len).map D) := bulk_mem (List.mem_map.2 ⟨i, List.mem_range.2 hi, rfl⟩)
    obtain ⟨as', o1, o2⟩ := ih k2 (show Rows.uptoBulk (D i) ≤ B by omega)
    exact ⟨as', o1, cs', k1, o2⟩
  let A : Nat → List AV := fun i => if h : i < len then Classical.choose (hel i h) else []
  have hA : ∀ i (hi : i < len), Ok B s (A i) ∧ ∃ cs', w.cells? base (a.add (i * s.sz)) s.sz = some cs' ∧ Stand w (A i) cs' := fun i hi => by
    have := Classical.choose_spec (hel i hi)
    simp only [A, dif_pos hi]
    exact this
  let V : Nat → List Value := fun i => (w.cells? base (a.add (i * s.sz)) s.sz).getD []
  have hV : ∀ i (hi : i < len), w.cells? base (a.add (i * s.sz)) s.sz = some (V i) ∧ Stand w (A i) (V i) := fun i hi => by
    obtain ⟨_, cs', k1, k2⟩ := hA i hi
    simp only [V, k1, Option.getD_some]
    exact ⟨trivial, k2⟩
  have hcl : ∀ i (hi : i < len) j (hj : j < s.sz), ∃ hv : j < (V i).length, w.cell? (a.add (i * s.sz + j)) = some ((V i)[j]'hv) := fun i hi j hj => by
    obtain ⟨_, k2, k3⟩ := World.cells?_some (hV i hi).1
    refine ⟨by omega, ?_⟩
    rw [← add_cell, k3 j hj, List.getElem?_eq_getElem]
  have hE : ∀ i (hi : i < len), (mkEl s.sz (A i)).cells = A i := fun i hi => mkEl_cells hs (hA i hi).1.facts.1 (hA i hi).1.facts.2
  have hmm' : ((List.range len).map A).map (mkEl s.sz) = (List.range len).map fun i => mkEl s.sz (A i) := by rw [List.map_map]; rfl
  refine ⟨_, .sl (xs := (List.range len).map A) (by simp; omega) (fun x hx => ?_), Stand.one ?_⟩
  · obtain ⟨i, hi, rfl⟩ := List.mem_map.1 hx
    exact (hA i (List.mem_range.1 hi)).1
  · rw [hmm']
    by_cases h0 : len = 0
    · subst h0
      exact .nil
    · obtain ⟨_, hc0⟩ := hcl 0 (by omega) 0 hs
      have hadd0 : a.add (0 * s.sz + 0) = a := by simp [Addr.add]
      rw [hadd0] at hc0
      have ha := cell_spot hc0
      have hlt := World.block_lt_of_cell? w a hc0
      have key : Rep w (inW w) (.sl s.sz ((List.range len).map fun i => mkEl s.sz (A i))) (.slice (some ⟨a.block, a.off, none⟩) ((List.range len).map fun i => mkEl s.sz (A i)).length cap) := by
        refine .sl (fun i j => (V i).getD j undef) hlt (by simp; exact hl) (fun i hi => ?_) (fun i j hi hj => ?_) (fun i hi j hj => ?_)
        · simp only [List.length_map, List.length_range] at hi
          simp only [List.getElem_map, List.getElem_range, hE i hi]
          exact (hA i hi).1.facts.1
        · simp only [List.length_map, List.length_range] at hi
          obtain ⟨q1, q2⟩ := hcl i hi j hj
          rw [ha, add_addr] at q2
          refine ⟨?_, hlt⟩
          rw [Nat.add_assoc, q2]
          simp [List.getD, List.getElem?_eq_getElem q1]
        · simp only [List.length_map, List.length_range] at hi
          have e0 : ((List.range len).map fun i => mkEl s.sz (A i))[i]'(by simpa using hi) = mkEl s.sz (A i) := by simp
          have hj' : j < (A i).length := by
            rw [← hE i hi]
            simpa [e0] using hj
          obtain ⟨q1, q2⟩ := hcl i hi j (by rw [← (hA i hi).1.facts.1]; exact hj')
          have := (hV i hi).2.2 j hj' q1
          have e1 : (V i).getD j undef = (V i)[j] := by simp [List.getD, List.getElem?_eq_getElem q1]
          rw [e1]
          have e2 : (((List.range len).map fun i => mkEl s.sz (A i))[i]'(by simpa using hi)).cells[j]'hj = (A i)[j] := by simp only [e0, hE i hi]
          rw [e2]
          exact this
      rw [ha]
      simpa using key
end
end Go.Proofs.YtkmicjpoekbhfaaGreatDoor

/- The opener of arguments; from a contract to a row's end. -/
set_option linter.unusedSimpArgs false
set_option linter.unusedVariables false
namespace Go.Proofs.YtkmicjpoekbhfaaGreatDoor
open Go.ChangeShapes Go.WideShapes Go.ChangeAt Go.RowKit Lim

section
variable {H : Type} {enc : TypeId × Value → H} {P : Program} {w : World} {base : Nat} {spare : Nat → Bool} {held : Bool} {B : Nat}

theorem Stand.app {as' bs' : List AV} {cs ds : List Value} (h1 : Stand w as' cs) (h2 : Stand w bs' ds) : Stand w (as' ++ bs') (cs ++ ds) := by
  refine ⟨by rw [List.length_append, List.length_append, h1.1, h2.1], fun j k1 k2 => ?_⟩
  by_cases hj : j < as'.length
  · rw [List.getElem_append_left hj, List.getElem_append_left (by rw [← h1.1]; exact hj)]
    exact h1.2 j hj _
  · have e : cs.length = as'.length := h1.1.symm
    rw [List.getElem_append_right (by omega), List.getElem_append_right (by omega)]
    have := h2.2 (j - as'.length) (by simp at k1; omega) (by simp at k2; omega)
    simpa [e] using this
/-- Members, from an offset on. -/
def OpenF (enc : TypeId × Value → H) (P : Program) (w : World) (base : Nat) (spare : Nat → Bool) (held : Bool) (B : Nat) (s : SH) : Prop :=
  ∀ (fs : List Field) (off n : Nat) (cs : List Value) (xs : List (DataW H × List MemPlace)), (shB P s).2 fs off = true → off + s.sz ≤ cs.length →
    (∀ (i : Nat) (f : Field), fs[i]? = some f → DataW.trod enc P w base spare held n f.type ((cs.drop f.offset).take (P.cellsOf f.type)) = xs[i]?) → xs.length = fs.length →
    Rows.uptoBulkAll (xs.map (·.1)) ≤ B → ∃ as', Ok B s as' ∧ Stand w as' ((cs.drop off).take s.sz)
def OpenT (enc : TypeId × Value → H) (P : Program) (w : World) (base : Nat) (spare : Nat → Bool) (held : Bool) (B : Nat) (s : SH) : Prop :=
  ∀ (t : TypeId) (n : Nat) (cs : List Value) (x : DataW H × List MemPlace), (shB P s).1 t = true → DataW.trod enc P w base spare held n t cs = some x → Rows.uptoBulk x.1 ≤ B → ∃ as', Ok B s as' ∧ Stand w as' cs
theorem openT_struct {s : SH} (hF : OpenF enc P w base spare held B s) {t : TypeId} {fs : Array Field} (hu : P.underlying t = some (.struct fs)) (hs : (shB P s).2 fs.toList 0 = true) (hc : P.cellsOf t = s.sz)
    {n : Nat} {cs : List Value} {x : DataW H × List MemPlace} (h : DataW.trod enc P w base spare held n t cs = some x) (hB : Rows.uptoBulk x.1 ≤ B) : ∃ as', Ok B s as' ∧ Stand w as' cs := by
  obtain ⟨xs, n, rfl, rfl, hl, hx, hf⟩ := DataW.trod_struct hu h
  rw [hc] at hl
  simp only [Rows.uptoBulk] at hB
  obtain ⟨as', h1, h2⟩ := hF fs.toList 0 n cs xs hs (by omega) (fun i f hi => hf i f (by simpa using hi)) (by simpa using hx) (by omega)
  rw [List.drop_zero, List.take_of_length_le (by omega)] at h2
  exact ⟨as', h1, h2⟩
theorem open_sh : ∀ s : SH, OpenT enc P w base spare held B s ∧ OpenF enc P w base spare held B s
  | .int k => ⟨fun t n cs x hs h hB => by
      simp only [shB] at hs
      split at hs
      · rename_i k' hu
        have hs := of_decide_eq_true hs
        subst hs
        obtain ⟨z, rfl, rfl, hw⟩ := DataW.trod_int hu h
        refine ⟨_, .int (z := z) ?_, Stand.one (.lit rfl)⟩
        simpa [Lit.wf] using hw
      · exact Bool.noConfusion hs, fun fs off n cs xs hs => by simp [shB] at hs⟩
  | .bool => ⟨fun t n cs x hs h hB => by
      simp only [shB] at hs
      split at hs
      · rename_i hu
        obtain ⟨b, rfl, rfl⟩ := DataW.trod_bool hu h
        exact ⟨_, .bool (b := b), Stand.one (.lit rfl)⟩
      · exact Bool.noConfusion hs, fun fs off n cs xs hs => by simp [shB] at hs⟩
  | .str => ⟨fun t n cs x hs h hB => by
      simp only [shB] at hs
      split at hs
      · rename_i hu
        obtain ⟨b, rfl, rfl, _⟩ := DataW.trod_string hu h
        simp only [Rows.uptoBulk] at hB
        refine ⟨_, .str (l := b.data.toList) (by omega), Stand.one ?_⟩
        have e : bs b.data.toList = b := by cases b; simp [bs]
        show Rep w _ (.lit (.string (bs b.data.toList))) (.string b)
        rw [e]
        exact .lit rfl
      · exact Bool.noConfusion hs, fun fs off n cs xs hs => by simp [shB] at hs⟩
  | .nat => ⟨fun t n cs x hs h hB => by
      simp only [shB] at hs
      split at hs
      · rename_i e hu
        split at hs
        · rename_i he
          obtain ⟨l, v, rfl, h1, h2, h3⟩ := open_nat hu he (by simpa using hs) h hB
          exact ⟨_, .nat h1 h2, Stand.one h3⟩
        · cases hs
      · exact Bool.noConfusion hs, fun fs off n cs xs hs => by simp [shB] at hs⟩
  | .sl s => ⟨fun t n cs x hs h hB => by
      simp only [shB] at hs
      split at hs
      · rename_i e hu
        simp only [Bool.and_eq_true, beq_iff_eq, decide_eq_true_eq] at hs
        exact open_sl hu hs.1.2 hs.2 (fun hy hb => (open_sh s).1 e _ _ _ hs.1.1 hy hb) h hB
      · exact Bool.noConfusion hs, fun fs off n cs xs hs => by simp [shB] at hs⟩
  | .nil => by
    have hF : OpenF enc P w base spare held B .nil := fun fs off n cs xs hs hl hf hx hb => ⟨[], .nil, by simp [SH.sz], fun j h1 h2 => by simp at h1⟩
    refine ⟨fun t n cs x hs h hB => ?_, hF⟩
    simp only [shB] at hs
    split at hs
    · rename_i fs hu
      simp only [Bool.and_eq_true, beq_iff_eq] at hs
      exact openT_struct hF hu hs.1 hs.2 h hB
    · cases hs
  | .cons f r => by
    have hF : OpenF enc P w base spare held B (.cons f r) := fun fs off n cs xs hs hl hf hx hb => by
      cases fs with
      | nil => simp [shB] at hs
      | cons g gs =>
        simp only [shB, Bool.and_eq_true, beq_iff_eq] at hs
        obtain ⟨⟨⟨ho, hg⟩, hc⟩, hr⟩ := hs
        cases xs with
        | nil => simp at hx
        | cons x xs =>
          simp only [List.map_cons, Rows.uptoBulkAll] at hb
          simp only [SH.sz] at hl
          have h0 := hf 0 g rfl
          rw [ho, hc] at h0
          obtain ⟨as1, k1, k2⟩ := (open_sh f).1 g.type n _ x hg h0 (by omega)
          obtain ⟨as2, k3, k4⟩ := (open_sh r).2 gs (off + f.sz) n cs xs hr (by omega) (fun i q hi => hf (i + 1) q (by simpa using hi)) (by simpa using hx) (by omega)
          refine ⟨as1 ++ as2, .cons k1 k3, ?_⟩
          have e : (cs.drop off).take (f.sz + r.sz) = (cs.drop off).take f.sz ++ (cs.drop (off + f.sz)).take r.sz := by
            rw [List.take_add, List.drop_drop]
          show Stand w _ ((cs.drop off).take (f.sz + r.sz))
          rw [e]
          exact k2.app k4
    refine ⟨fun t n cs x hs h hB => ?_, hF⟩
    simp only [shB] at hs
    split at hs
    · rename_i fs hu
      simp only [Bool.and_eq_true, beq_iff_eq] at hs
      exact openT_struct hF hu hs.1 hs.2 h hB
    · cases hs
/-- What a value of a shape reads as. -/
def SH.top : SH → List AV → AV
  | .nil, cs => .agg cs
  | .cons _ _, cs => .agg cs
  | _, cs => cs.headD (.agg [])
/-- A value whose cells stand for abstract ones. -/
theorem stand_top {s : SH} {t : TypeId} {v : Value} {as' : List AV} {r : Reach} (hs : (shB P s).1 t = true) (ho : Ok B s as') (h : Stand w as' v.cells.toList) (hv : Value.okWide P w r base t v) : Rep w (inW w) (s.top as') v := by
  have one : ∀ {a : AV}, as' = [a] → v.cells.toList = [v] → Rep w (inW w) a v := fun {a} e1 e2 => by
    subst e1
    rw [e2] at h
    exact h.2 0 (by simp) (by simp)
  have agg : (∃ cs, v = .agg cs) → Rep w (inW w) (.agg as') v := fun ⟨cs, e⟩ => by
    subst e
    have h' : Stand w as' cs.toList := h
    exact .agg (by have := h'.1; simp at this; omega) fun j hj => by
      have := h'.2 j hj (by have := h'.1; simp at this ⊢; omega)
      simpa using this
  cases ho with
  | int hh =>
    simp only [shB] at hs
    split at hs
    · rename_i hu
      obtain ⟨n, rfl⟩ := okWide_int hu hv
      exact one rfl rfl
    · cases hs
  | bool =>
    simp only [shB] at hs
    split at hs
    · rename_i hu
      obtain ⟨n, rfl⟩ := okWide_bool hu hv
      exact one rfl rfl
    · cases hs
  | str hh =>
    simp only [shB] at hs
    split at hs
    · rename_i hu
      obtain ⟨n, rfl⟩ := okWide_string hu hv
      exact one rfl rfl
    · cases hs
  | nat h1 h2 =>
    simp only [shB] at hs
    split at hs
    · rename_i hu
      obtain ⟨a, n, c, rfl⟩ := okWide_slice hu hv
      exact one rfl rfl
    · cases hs
  | sl h1 h2 =>
    simp only [shB] at hs
    split at hs
    · rename_i hu
      obtain ⟨a, n, c, rfl⟩ := okWide_slice hu hv
      exact one rfl rfl
    · cases hs
  | nil =>
    simp only [shB] at hs
    split at hs
    · rename_i hu
      obtain ⟨cs, e, _⟩ := okWide_struct hu hv
      exact agg ⟨cs, e⟩
    · cases hs
  | cons h1 h2 =>
    simp only [shB] at hs
    split at hs
    · rename_i hu
      obtain ⟨cs, e, _⟩ := okWide_struct hu hv
      exact agg ⟨cs, e⟩
    · cases hs
/-- Arguments of shapes. -/
inductive OkA (B : Nat) : List SH → List AV → Prop
  | nil : OkA B [] []
  | cons {s : SH} {ss : List SH} {cs : List AV} {as' : List AV} (h1 : Ok B s cs) (h2 : OkA B ss as') : OkA B (s :: ss) (s.top cs :: as')
def shAll (P : Program) : List SH → List TypeId → Bool
  | [], [] => true
  | s :: ss, t :: ts => (shB P s).1 t && shAll P ss ts
  | _, _ => false
theorem args_open : ∀ (ss : List SH) (ts : List TypeId) (vs : List Value) (ds : List (DataW H)) (p : List MemPlace) (r : Reach) (b : Nat), shAll P ss ts = true → DataW.TrodAll enc P w base spare held ts vs ds p →
    (∀ (j : Nat) (t : TypeId) (v : Value), ts[j]? = some t → vs[j]? = some v → Value.okWide P w r b t v) → Rows.uptoBulkAll ds ≤ B → ∃ as', OkA B ss as' ∧ Stand w as' vs
  | [], [], vs, ds, p, r, b, _, h, _, _ => by
    obtain ⟨rfl, rfl, rfl⟩ := trodAll_nil h
    exact ⟨[], .nil, rfl, fun j h1 => by simp at h1⟩
  | [], t :: ts, _, _, _, _, _, hs, _, _, _ => by simp [shAll] at hs
  | s :: ss, [], _, _, _, _, _, hs, _, _, _ => by simp [shAll] at hs
  | s :: ss, t :: ts, vs, ds, p, r, b, hs, h, hv, hB => by
    obtain ⟨v, vs1, d, ds1, p1, p2, rfl, rfl, rfl, ⟨n, h1⟩, h2⟩ := trodAll_cons h
    simp only [shAll, Bool.and_eq_true] at hs
    simp only [Rows.uptoBulkAll] at hB
    obtain ⟨cs, k1, k2⟩ := (open_sh s).1 t n _ _ hs.1 h1 (show Rows.uptoBulk d ≤ B by omega)
    obtain ⟨as', k3, k4⟩ := args_open ss ts vs1 ds1 p2 r b hs.2 h2 (fun j t v ht hv' => hv (j + 1) t v (by simpa using ht) (by simpa using hv')) (by omega)
    have hr := stand_top hs.1 k1 k2 (hv 0 t v rfl rfl)
    exact ⟨_, .cons k1 k3, (Stand.one hr).app k4⟩
theorem stand_args {as' : List AV} {args : Array Value} (h : Stand w as' args.toList) : Rep w (inW w) (.agg as') (.agg args) :=
  .agg (by have := h.1; simp at this; omega) fun j hj => by
    have := h.2 j hj (by have := h.1; simp at this ⊢; omega)
    simpa using this
end
section
variable {H : Type} {enc : TypeId × Value → H} {P : Program}
theorem stay_all (hl : laidOutB P = true) {W W' : World} (hb : Below W.heap.size W W') : ∀ (ts : List TypeId) (vs : List Value) (ds : List (DataW H)) (p : List MemPlace), ts.all (fun t => P.readableRec t && decide (t < P.types.size)) = true →
    DataW.TrodAll enc P W 0 (fun _ => true) true ts vs ds p → (∀ x ∈ p, x.block < W.heap.size) → ∀ sp : Nat → Bool, (∀ q ∈ p, sp q.block = true) → DataW.TrodAll enc P W' 0 sp true ts vs ds p
  | [], vs, ds, p, _, h, _, sp, _ => by
    obtain ⟨rfl, rfl, rfl⟩ := trodAll_nil h
    exact trodAll_mk0
  | t :: ts, vs, ds, p, ht, h, hlt, sp, hsp => by
    obtain ⟨v, vs1, d, ds1, a, b, rfl, rfl, rfl, h1, h2⟩ := trodAll_cons h
    simp only [List.all_cons, Bool.and_eq_true, decide_eq_true_eq] at ht
    refine trodAll_cons_mk (WideElems.Trod_stays hl ht.1.1 ht.1.2 h1 (fun x hx => hb.same (hlt x (List.mem_append_left _ hx))) (fun x hx => hsp x (List.mem_append_left _ hx))) ?_
    exact stay_all hl hb ts vs1 ds1 b (by simpa using ht.2) h2 (fun x hx => hlt x (List.mem_append_right _ hx)) sp (fun x hx => hsp x (List.mem_append_right _ hx))
/-- A law's contract gives the row's end. -/
theorem law_end (hl : laidOutB P = true) {tb : TypeId} (hu : P.underlying tb = some .bool) {fid : FuncId} {fn : Func} {s : ChangeSpec} {apart : Bool} (hv : s.vars = []) (hres : fn.resultTypes = #[tb]) (hts : fn.params.toList.all (fun t => P.readableRec t && decide (t < P.types.size)) = true)
    {W : World} {args : Array Value} {ds : List (DataW H)} {before : List MemPlace} (hW : DataW.Whole enc P fn.params.toList s.vars apart W args.toList ds [] before)
    (hfn : s.fn H (ds ++ []) = { results := [.lit (.bool true)], args := ds }) (hc : Calls P fid args W fun e W' => e = .returned (.bool true) ∧ Below W.heap.size W W') :
    Calls P fid args W fun e W' => ∃ v, e = .returned v ∧ s.post enc P fn apart true false false W args v W' := by
  have hW' := hW
  obtain ⟨p, q, hA, hV, rfl, hfz, hnd⟩ := hW
  rw [hv] at hV
  obtain ⟨_, rfl⟩ := trodVars_none hV
  refine hc.mono fun e W' ⟨he, hb⟩ => ⟨.bool true, he, ?_⟩
  have hlt : ∀ x ∈ p, x.block < W.heap.size := fun x hx => hW'.lt x (List.mem_append_left _ hx)
  have hl2 : ∀ x ∈ p ++ [], x.block < W.heap.size := fun x hx => hW'.lt x hx
  have hA2 : ∀ sp : Nat → Bool, (∀ x ∈ p, sp x.block = true) → DataW.TrodAll enc P W' 0 sp true fn.params.toList args.toList (s.fn H (ds ++ [])).args p := fun sp h => by
    rw [hfn]
    exact stay_all hl hb _ _ _ _ hts hA hlt sp h
  have hR2 : ∀ b sp hd, DataW.TrodAll enc P W' b sp hd fn.resultTypes.toList ((Value.bool true).resultList fn.resultTypes.size) (s.fn H (ds ++ [])).results [] := fun b sp hd => by
    rw [hfn, hres]
    exact trodAll_cons_mk (shut_bool hu _) trodAll_mk0
  have hV2 : ∀ sp, DataW.TrodVars enc P W' sp s.vars (s.fn H (ds ++ [])).vars [] := fun sp => by
    rw [hfn, hv]
    rfl
  refine ⟨ds, [], p ++ [], [], p, [], hW', hR2 _ _ _, hA2 _ (fun x hx => by simpa using hlt x hx), hV2 _, World.keptBut_mono (fun x hx => ⟨hx, .inr (List.mem_append.1 hx)⟩) (hb.frame (· ∈ p ++ [])), fun _ =>
    ⟨ok_one hres rfl (okWide_bool_mk hu _), _, _, ([] ++ p) ++ [], ⟨[] ++ p, [], trodAll_append (hA2 _ fun _ _ => rfl) (hR2 _ _ _), hV2 _, rfl, fun b off hx => ?_, fun h => by simpa using hnd h⟩, fun x hx _ => by simpa using hx⟩⟩
  have hx2 : MemPlace.cell b off ∈ p ++ [] := by simpa using hx
  rw [hb.frozen (hl2 _ hx2)]
  exact hfz b off hx2
end
theorem ac_calls {fid : FuncId} {avs : List AV} {W : World} {args : Array Value} (hc : AC fid avs (boo true)) (hE : Env W) (hR : Rep W (inW W) (.agg avs) (.agg args)) :
    Calls Tryz.prog fid args W fun e W' => e = .returned (.bool true) ∧ Below W.heap.size W W' := by
  refine (hc.2 W _ args hE (fun _ _ h => h) (fun _ b o v h _ => World.block_lt_of_cell? W _ h) hR).mono fun e W' ⟨v, he, hb, hr⟩ => ⟨?_, hb⟩
  cases hr
  exact he
set_option maxRecDepth 100000 in
/-- A law that holds for all arguments of its shapes. -/
theorem law_row {H : Type} {enc : TypeId × Value → H} (hl : laidOutB Tryz.prog = true) {tb : TypeId} (hu : Tryz.prog.underlying tb = some .bool) {fid : FuncId} {fn : Func} {s : ChangeSpec} (hv : s.vars = []) (hres : fn.resultTypes = #[tb]) (hts : fn.params.toList.all (fun t => Tryz.prog.readableRec t && decide (t < Tryz.prog.types.size)) = true)
    (ss : List SH) (hss : shAll Tryz.prog ss fn.params.toList = true) (hfn : ∀ ds : List (DataW H), ds.length = fn.params.toList.length → s.fn H (ds ++ []) = { results := [.lit (.bool true)], args := ds })
    (law : ∀ as', OkA 1048576 ss as' → AC fid as' (boo true))
    {W : World} {base : Nat} {args : Array Value} {ds gs : List (DataW H)} {before : List MemPlace} (hval : ∀ (j : Nat) t v, fn.params[j]? = some t → args[j]? = some v → Value.okWide Tryz.prog W .any base t v)
    (hW : DataW.Whole enc Tryz.prog fn.params.toList s.vars false W args.toList ds gs before) (hE : Env W) (hsm : Rows.uptoSmall H (ds ++ gs) = true) :
    Calls Tryz.prog fid args W fun e W' => ∃ v, e = .returned v ∧ s.post enc Tryz.prog fn false true false false W args v W' := by
  have hW' := hW
  obtain ⟨p, q, hA, hV, rfl, hfz, hnd⟩ := hW
  rw [hv] at hV
  obtain ⟨rfl, rfl⟩ := trodVars_none hV
  simp only [Rows.uptoSmall, List.append_nil, decide_eq_true_eq] at hsm
  obtain ⟨as', k1, k2⟩ := args_open ss _ _ _ _ .any base hss hA (fun j t v ht hv' => hval j t v (by simpa using ht) (by simpa using hv')) hsm
  have hlen : ds.length = fn.params.toList.length := by
    have : ∀ (ts : List TypeId) (vs : List Value) (ds : List (DataW H)) (p : List MemPlace), DataW.TrodAll enc Tryz.prog W 0 (fun _ => true) true ts vs ds p → ds.length = ts.length := by
      intro ts
      induction ts with
      | nil => intro vs ds p h; obtain ⟨rfl, rfl, rfl⟩ := trodAll_nil h; rfl
      | cons t ts ih =>
        intro vs ds p h
        obtain ⟨v, vs1, d, ds1, p1, p2, rfl, rfl, rfl, _, h2⟩ := trodAll_cons h
        rw [List.length_cons, List.length_cons, ih _ _ _ h2]
    exact this _ _ _ _ hA
  exact law_end hl hu hv hres hts hW' (hfn ds hlen) (ac_calls (law as' k1) hE (stand_args k2))
end Go.Proofs.YtkmicjpoekbhfaaGreatDoor

/- Chapter 40: items and answers as arguments. -/
set_option linter.unusedSimpArgs false
set_option linter.unusedVariables false
namespace Go.Proofs.YtkmicjpoekbhfaaGreatDoor
open Go.RowKit Lim

section
variable {B : Nat} {cs : List AV}
theorem Ok.pair {f r : SH} (h : Ok B (.cons f r) cs) : ∃ a b, cs = a ++ b ∧ Ok B f a ∧ Ok B r b := by
  cases h with | cons h1 h2 => exact ⟨_, _, rfl, h1, h2⟩
theorem Ok.done (h : Ok B .nil cs) : cs = [] := by cases h; rfl
theorem Ok.i64 (h : Ok B (.int .i64) cs) : ∃ z : Int, cs = [Go.Proofs.YtkmicjpoekbhfaaGreatDoor.i64 z] ∧ inI z := by
  cases h with | int h => exact ⟨_, rfl, h⟩
theorem Ok.boo (h : Ok B .bool cs) : ∃ b : Bool, cs = [Go.Proofs.YtkmicjpoekbhfaaGreatDoor.boo b] := by cases h; exact ⟨_, rfl⟩
theorem Ok.s (h : Ok B .str cs) : ∃ l : List UInt8, cs = [Go.Proofs.YtkmicjpoekbhfaaGreatDoor.str l] ∧ l.length ≤ B := by cases h; exact ⟨_, rfl, by assumption⟩
theorem Ok.row {e : SH} (h : Ok B (.sl e) cs) : ∃ xs : List (List AV), cs = [.sl e.sz (xs.map (mkEl e.sz))] ∧ xs.length ≤ B ∧ ∀ x, x ∈ xs → Ok B e x := by
  cases h; exact ⟨_, rfl, by assumption, by assumption⟩
theorem map_of {α β : Type} {f : α → β} {Q : α → Prop} : ∀ (xs : List β), (∀ x, x ∈ xs → ∃ r, x = f r ∧ Q r) → ∃ rs : List α, xs = rs.map f ∧ ∀ r ∈ rs, Q r
  | [], _ => ⟨[], rfl, fun r hr => by simp at hr⟩
  | x :: xs, h => by
    obtain ⟨r, rfl, hr⟩ := h x (by simp)
    obtain ⟨rs, rfl, hrs⟩ := map_of xs (fun y hy => h y (by simp [hy]))
    exact ⟨r :: rs, rfl, fun q hq => by
      rcases List.mem_cons.1 hq with rfl | hq
      · exact hr
      · exact hrs q hq⟩
/-- Elements of a shape, each read as a value. -/
theorem Ok.list {e : SH} {α : Type} {f : α → List AV} {Q : α → Prop} (h : Ok B (.sl e) cs) (he : ∀ x, Ok B e x → ∃ r, x = f r ∧ Q r) : ∃ rs : List α, cs = [.sl e.sz (rs.map fun r => mkEl e.sz (f r))] ∧ rs.length ≤ B ∧ ∀ r ∈ rs, Q r := by
  obtain ⟨xs, rfl, h1, h2⟩ := h.row
  obtain ⟨rs, rfl, h3⟩ := map_of xs (fun x hx => he x (h2 x hx))
  refine ⟨rs, ?_, by simpa using h1, h3⟩
  rw [List.map_map]
  rfl
abbrev shI : SH := .int .i64
abbrev shItem : SH := .cons shI (.cons shI (.cons shI (.cons .str (.cons (.sl .str) (.cons (.sl shI) (.cons shI (.cons shI (.cons (.sl .str) (.cons shI (.cons .str (.cons shI (.cons shI (.cons shI (.cons shI (.cons (.sl shI) (.cons shI .nil))))))))))))))))
abbrev shAns : SH := .cons shI (.cons (.sl shI) (.cons shI (.cons .str (.cons .bool .nil))))
theorem Ok.ints (h : Ok B (.sl shI) cs) : ∃ l : List Int, cs = [Go.Proofs.YtkmicjpoekbhfaaGreatDoor.ints l] ∧ l.length ≤ B ∧ ∀ z ∈ l, inI z := by
  obtain ⟨l, rfl, h1, h2⟩ := h.list (f := fun z : Int => [Go.Proofs.YtkmicjpoekbhfaaGreatDoor.i64 z]) (Q := inI) (fun x hx => hx.i64)
  exact ⟨l, rfl, h1, h2⟩
theorem Ok.strs (h : Ok B (.sl .str) cs) : ∃ l : List (List UInt8), cs = [Go.Proofs.YtkmicjpoekbhfaaGreatDoor.strs l] ∧ l.length ≤ B ∧ ∀ z ∈ l, z.length ≤ B := by
  obtain ⟨l, rfl, h1, h2⟩ := h.list (f := fun z : List UInt8 => [Go.Proofs.YtkmicjpoekbhfaaGreatDoor.str z]) (Q := fun z => z.length ≤ B) (fun x hx => hx.s)
  exact ⟨l, rfl, h1, h2⟩
theorem Ok.ans (h : Ok B shAns cs) (hB : B ≤ 1048576) : ∃ a : AnsV, cs = ansC a ∧ ANOK a ∧ a.ch.length ≤ B ∧ a.text.length ≤ B := by
  obtain ⟨a, b, rfl, h1, h2⟩ := h.pair
  obtain ⟨c, d, rfl, h3, h4⟩ := h2.pair
  obtain ⟨e, f, rfl, h5, h6⟩ := h4.pair
  obtain ⟨g, i, rfl, h7, h8⟩ := h6.pair
  obtain ⟨j, k, rfl, h9, h10⟩ := h8.pair
  obtain ⟨z1, rfl, _⟩ := h1.i64
  obtain ⟨l, rfl, l1, l2⟩ := h3.ints
  obtain ⟨z2, rfl, v2⟩ := h5.i64
  obtain ⟨t, rfl, t1⟩ := h7.s
  obtain ⟨o, rfl⟩ := h9.boo
  rw [h10.done]
  exact ⟨⟨z1, l, z2, t, o⟩, rfl, ⟨by show l.length ≤ _; omega, l2, by show t.length ≤ _; omega, v2⟩, l1, t1⟩
theorem Ok.item (h : Ok B shItem cs) (hB : B ≤ 1048576) : ∃ it : ItV, cs = itC it ∧ IOK it := by
  obtain ⟨c1, r1, rfl, h1, q1⟩ := h.pair
  obtain ⟨c2, r2, rfl, h2, q2⟩ := q1.pair
  obtain ⟨c3, r3, rfl, h3, q3⟩ := q2.pair
  obtain ⟨c4, r4, rfl, h4, q4⟩ := q3.pair
  obtain ⟨c5, r5, rfl, h5, q5⟩ := q4.pair
  obtain ⟨c6, r6, rfl, h6, q6⟩ := q5.pair
  obtain ⟨c7, r7, rfl, h7, q7⟩ := q6.pair
  obtain ⟨c8, r8, rfl, h8, q8⟩ := q7.pair
  obtain ⟨c9, r9, rfl, h9, q9⟩ := q8.pair
  obtain ⟨c10, r10, rfl, h10, q10⟩ := q9.pair
  obtain ⟨c11, r11, rfl, h11, q11⟩ := q10.pair
  obtain ⟨c12, r12, rfl, h12, q12⟩ := q11.pair
  obtain ⟨c13, r13, rfl, h13, q13⟩ := q12.pair
  obtain ⟨c14, r14, rfl, h14, q14⟩ := q13.pair
  obtain ⟨c15, r15, rfl, h15, q15⟩ := q14.pair
  obtain ⟨c16, r16, rfl, h16, q16⟩ := q15.pair
  obtain ⟨c17, r17, rfl, h17, q17⟩ := q16.pair
  obtain ⟨id, rfl, v1⟩ := h1.i64
  obtain ⟨ver, rfl, v2⟩ := h2.i64
  obtain ⟨kind, rfl, v3⟩ := h3.i64
  obtain ⟨stem, rfl, v4⟩ := h4.s
  obtain ⟨opts, rfl, v5, v5'⟩ := h5.strs
  obtain ⟨key, rfl, v6, v6'⟩ := h6.ints
  obtain ⟨val, rfl, v7⟩ := h7.i64
  obtain ⟨tol, rfl, v8⟩ := h8.i64
  obtain ⟨texts, rfl, v9, v9'⟩ := h9.strs
  obtain ⟨pts, rfl, v10⟩ := h10.i64
  obtain ⟨content, rfl, v11⟩ := h11.s
  obtain ⟨fam, rfl, v12⟩ := h12.i64
  obtain ⟨set, rfl, v13⟩ := h13.i64
  obtain ⟨words, rfl, v14⟩ := h14.i64
  obtain ⟨secs, rfl, v15⟩ := h15.i64
  obtain ⟨assets, rfl, v16, v16'⟩ := h16.ints
  obtain ⟨rubric, rfl, v17⟩ := h17.i64
  rw [q17.done]
  refine ⟨⟨id, ver, kind, stem, opts, key, val, tol, texts, pts, content, fam, set, words, secs, assets, rubric⟩, rfl, ?_⟩
  constructor <;> first | assumption | (dsimp only; omega) | (intro o ho; have := v5' o ho; omega) | (intro o ho; have := v9' o ho; omega)
end
theorem okA_one {B : Nat} {s : SH} {as' : List AV} (h : OkA B [s] as') : ∃ a, as' = [s.top a] ∧ Ok B s a := by
  cases h with | cons h1 h2 => cases h2; exact ⟨_, rfl, h1⟩
theorem okA_two {B : Nat} {s t : SH} {as' : List AV} (h : OkA B [s, t] as') : ∃ a b, as' = [s.top a, t.top b] ∧ Ok B s a ∧ Ok B t b := by
  cases h with | cons h1 h2 => obtain ⟨b, rfl, h3⟩ := okA_one h2; exact ⟨_, b, rfl, h1, h3⟩
theorem okA_three {B : Nat} {s t u : SH} {as' : List AV} (h : OkA B [s, t, u] as') : ∃ a b c, as' = [s.top a, t.top b, u.top c] ∧ Ok B s a ∧ Ok B t b ∧ Ok B u c := by
  cases h with | cons h1 h2 => obtain ⟨b, c, rfl, h3, h4⟩ := okA_two h2; exact ⟨_, b, c, rfl, h1, h3, h4⟩
end Go.Proofs.YtkmicjpoekbhfaaGreatDoor

/- Chapter 40: KeyingNotation for all arguments. -/
set_option linter.unusedSimpArgs false
set_option linter.unusedVariables false
namespace Go.Proofs.YtkmicjpoekbhfaaGreatDoor
open Go.RowKit Lim

theorem kNot.law (as' : List AV) (h : OkA 1048576 [shItem, shAns, .str] as') : AC 5 as' (boo true) := by
  obtain ⟨a, b, c, rfl, h1, h2, h3⟩ := okA_three h
  obtain ⟨it, rfl, hi⟩ := h1.item (by omega)
  obtain ⟨x, rfl, hx, _, ht⟩ := h2.ans (by omega)
  obtain ⟨s, rfl, hs⟩ := h3.s
  exact keyingNotation_c it hi x hx ht s hs
end Go.Proofs.YtkmicjpoekbhfaaGreatDoor
