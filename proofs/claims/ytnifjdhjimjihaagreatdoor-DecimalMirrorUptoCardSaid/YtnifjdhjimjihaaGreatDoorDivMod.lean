/- nat.DivMod, nat.Gcd, nat.Pow. -/
import Derived.Test.YtnifjdhjimjihaaGreatDoorDivLong
import Derived.Test.YtnifjdhjimjihaaGreatDoorNorm
import Derived.Test.YtnifjdhjimjihaaGreatDoorMul
import Derived.Deep.LoopGhost
namespace Go.Proofs.YtnifjdhjimjihaaGreatDoor
open Go.RowKit Lim

theorem In.limbs {w : World} {A : Option Addr} {c n : Nat} {l : List Nat} (h : In w A c l n) : In w A c (limbs n) n := h.trim.toIn h.nlen

set_option maxHeartbeats 1000000 in
theorem divmod_no (A1 A2 : Option Addr) (c1 c2 n1 : Nat) (l1 l2 : List Nat) (w : World) (h1 : In w A1 c1 l1 n1) (h2 : In w A2 c2 l2 0) :
    Calls Tryz.prog 70 #[.slice A1 l1.length c1, .slice A2 l2.length c2] w fun e w' => e = .returned (.tuple #[.slice none 0 0, .slice none 0 0, .bool false]) ∧ w = w' := by
  have H0 := Lib.hid limbs_zero
  go_enter Tryz.func70, Tryz.ntmps70
  go_wp2_with (go_at_call 98; (first | (with_reducible refine (trim_in _ _ _ _ _ h1 _ rfl).mono ?_) | (with_reducible refine (trim_in _ _ _ _ _ h2 _ H0.out).mono ?_)); rintro e w' ⟨rfl, rfl⟩)
  go_ret3
  exact ⟨rfl, rfl⟩

/-- The result of a division. -/
def DivOut (w w' : World) (e : Ending) (n1 n2 : Nat) : Prop :=
  ∃ B1 d1 B2 d2, e = .returned (.tuple #[.slice B1 (limbs (n1 / n2)).length d1, .slice B2 (limbs (n1 % n2)).length d2, .bool true]) ∧ Out w' B1 d1 (n1 / n2) ∧ Out w' B2 d2 (n1 % n2) ∧ Below w.heap.size w w'

set_option maxHeartbeats 1000000 in
theorem divmod_lt (A1 A2 : Option Addr) (c1 c2 n1 n2 : Nat) (l1 l2 : List Nat) (w : World) (h1 : In w A1 c1 l1 n1) (h2 : In w A2 c2 l2 n2) (hlt : n1 < n2) :
    Calls Tryz.prog 70 #[.slice A1 l1.length c1, .slice A2 l2.length c2] w fun e w' => DivOut w w' e n1 n2 := by
  have i1 := h1.limbs
  have i2 := h2.limbs
  have hz : (((limbs n2).length : Int) == 0) = false := by
    have h0 : nlen n2 ≠ 0 := fun h => by have := nlen_eq_zero.1 h; omega
    simpa [nlen] using h0
  have hc := cmpI_lt hlt
  go_enter Tryz.func70, Tryz.ntmps70
  go_wp2_with (first | (go_at_call 98; (first | (with_reducible refine (trim_in _ _ _ _ _ h1 _ rfl).mono ?_) | (with_reducible refine (trim_in _ _ _ _ _ h2 _ rfl).mono ?_)); rintro e w' ⟨rfl, rfl⟩) | (go_at_call 62; (with_reducible refine (cmp_any _ _ _ _ _ _ _ _ _ i1 i2).mono ?_); rintro e w' ⟨rfl, m, rfl⟩) | (go_at_call 69; (with_reducible refine (norm_any _ _ _ _ _ (i1.keep (below_drewN (Below.refl _ _) _))).mono ?_); rintro e w' ⟨B2, d2, rfl, ho, hb⟩))
  go_ret3
  have e1 : n1 / n2 = 0 := Nat.div_eq_of_lt hlt
  have e2 : n1 % n2 = n1 := Nat.mod_eq_of_lt hlt
  refine ⟨none, 0, B2, d2, ?_, ?_, ?_, (below_drewN (Below.refl _ _) m).trans hb⟩
  · rw [e1, e2, limbs_zero]; rfl
  · rw [e1]; exact Out.zero _ _ _
  · rw [e2]; exact ho

set_option maxHeartbeats 1000000 in
theorem divmod_one (A1 A2 : Option Addr) (c1 c2 n1 n2 : Nat) (l1 l2 : List Nat) (w : World) (h1 : In w A1 c1 l1 n1) (h2 : In w A2 c2 l2 n2) (hge : n2 ≤ n1) (hl : (limbs n2).length = 1) :
    Calls Tryz.prog 70 #[.slice A1 l1.length c1, .slice A2 l2.length c2] w fun e w' => DivOut w w' e n1 n2 := by
  have i1 := h1.limbs
  have i2 := h2.limbs
  have hc : ¬ cmpI n1 n2 < 0 := by unfold cmpI; rw [if_neg (by omega)]; split <;> omega
  obtain ⟨b2, o2, rfl, hlt2, hcb⟩ := i2.rd.at_ (show 0 < (limbs n2).length by omega)
  have hv : (limbs n2)[0]'(by omega) = n2 := by
    have h := val_limbs n2
    have : ∀ l : List Nat, (hl : l.length = 1) → val l = l[0]'(by omega) := by
      intro l hl
      match l, hl with
      | [x], _ => simp [val]
    rw [this _ hl] at h
    exact h
  rw [hv] at hcb
  have hb2 : n2 < 4294967296 := by rw [← hv]; exact dig_get (dig_limbs n2) _
  have hpos : 0 < n2 := by
    rcases Nat.eq_zero_or_pos n2 with h0 | h0
    · subst h0; rw [limbs_zero] at hl; simp at hl
    · exact h0
  have hlim0 : n1 % n2 < 18446744073709551616 := by have := Nat.mod_lt n1 hpos; omega
  have hz : (((limbs n2).length : Int) == 0) = false := by rw [hl]; rfl
  have h1e : (((limbs n2).length : Int) == 1) = true := by rw [hl]; rfl
  have hp0 : 0 < (limbs n2).length := by omega
  rw [Nat.add_zero] at hcb
  clear hv hl
  go_enter Tryz.func70, Tryz.ntmps70
  go_wp2_with (first | (go_at_call 98; (first | (with_reducible refine (trim_in _ _ _ _ _ h1 _ rfl).mono ?_) | (with_reducible refine (trim_in _ _ _ _ _ h2 _ rfl).mono ?_)); rintro e w' ⟨rfl, rfl⟩) | (go_at_call 62; (with_reducible refine (cmp_any _ _ _ _ _ _ _ _ _ i1 i2).mono ?_); rintro e w' ⟨rfl, m, rfl⟩) | (go_at_call 99; (with_reducible refine (divLimb_any _ _ _ _ _ _ (i1.keep (below_drewN (Below.refl _ _) _)) hpos hb2).mono ?_); rintro e w' ⟨B1, d1, r, rfl, hr, ho, hb⟩; have hlim : r < 18446744073709551616 := by rw [hr.out]; exact hlim0) | (go_at_call 57; (with_reducible refine (of_any _ hlim _).mono ?_); rintro e w'' ⟨B2, d2, rfl, ho2, hb3⟩))
  go_ret3
  rw [hr.out] at ho2
  exact ⟨B1, d1, B2, d2, by rw [← hr.out]; rfl, ho.keep hb3, ho2, ((below_drewN (Below.refl _ _) m).trans hb).trans (hb3.mono hb.size)⟩

set_option maxHeartbeats 1000000 in
theorem divmod_long (A1 A2 : Option Addr) (c1 c2 n1 n2 : Nat) (l1 l2 : List Nat) (w : World) (h1 : In w A1 c1 l1 n1) (h2 : In w A2 c2 l2 n2) (hge : n2 ≤ n1) (hl : 2 ≤ (limbs n2).length) :
    Calls Tryz.prog 70 #[.slice A1 l1.length c1, .slice A2 l2.length c2] w fun e w' => DivOut w w' e n1 n2 := by
  have i1 := h1.limbs
  have i2 := h2.limbs
  have hc : ¬ cmpI n1 n2 < 0 := by unfold cmpI; rw [if_neg (by omega)]; split <;> omega
  have hz : (((limbs n2).length : Int) == 0) = false := by simp; intro h; rw [h] at hl; simp at hl
  have h1e : (((limbs n2).length : Int) == 1) = false := by simp; omega
  go_enter Tryz.func70, Tryz.ntmps70
  go_wp2_with (first | (go_at_call 98; (first | (with_reducible refine (trim_in _ _ _ _ _ h1 _ rfl).mono ?_) | (with_reducible refine (trim_in _ _ _ _ _ h2 _ rfl).mono ?_)); rintro e w' ⟨rfl, rfl⟩) | (go_at_call 62; (with_reducible refine (cmp_any _ _ _ _ _ _ _ _ _ i1 i2).mono ?_); rintro e w' ⟨rfl, m, rfl⟩) | (go_at_call 110; (with_reducible refine (divLong_any _ _ _ _ _ _ _ (i1.keep (below_drewN (Below.refl _ _) _)) (i2.keep (below_drewN (Below.refl _ _) _)) hge hl).mono ?_); rintro e w' ⟨B1, d1, B2, d2, rfl, ho, ho2, hb⟩))
  go_ret3
  exact ⟨B1, d1, B2, d2, rfl, ho, ho2, (below_drewN (Below.refl _ _) m).trans hb⟩

theorem divmod_any (A1 A2 : Option Addr) (c1 c2 n1 n2 : Nat) (l1 l2 : List Nat) (w : World) (h1 : In w A1 c1 l1 n1) (h2 : In w A2 c2 l2 n2) (hpos : 0 < n2) :
    Calls Tryz.prog 70 #[.slice A1 l1.length c1, .slice A2 l2.length c2] w fun e w' => DivOut w w' e n1 n2 := by
  rcases Nat.lt_or_ge n1 n2 with hlt | hge
  · exact divmod_lt _ _ _ _ _ _ _ _ _ h1 h2 hlt
  · have h0 : nlen n2 ≠ 0 := fun h => by have := nlen_eq_zero.1 h; omega
    by_cases hl : (limbs n2).length = 1
    · exact divmod_one _ _ _ _ _ _ _ _ _ h1 h2 hge hl
    · exact divmod_long _ _ _ _ _ _ _ _ _ h1 h2 hge (by unfold nlen at h0; omega)

theorem slen_pos (n : Nat) (h : 0 < n) : 0 < (limbs n).length := by
  have h0 : nlen n ≠ 0 := fun e => by have := nlen_eq_zero.1 e; omega
  unfold nlen at h0
  omega

/-- Gcd's loop: the two numbers have the gcd g. -/
def GcRel (w wr : World) (A B : Option Addr) (ca cb x y g : Nat) : Prop :=
  In wr A ca (limbs x) x ∧ In wr B cb (limbs y) y ∧ Nat.gcd y x = g ∧ Below w.heap.size w wr

set_option maxHeartbeats 1000000 in
theorem gcd_any (A1 A2 : Option Addr) (c1 c2 n1 n2 : Nat) (l1 l2 : List Nat) (w : World) (h1 : In w A1 c1 l1 n1) (h2 : In w A2 c2 l2 n2) :
    Calls Tryz.prog 108 #[.slice A1 l1.length c1, .slice A2 l2.length c2] w fun e w' => ∃ A c, e = .returned (.slice A (limbs (Nat.gcd n1 n2)).length c) ∧ Out w' A c (Nat.gcd n1 n2) ∧ Below w.heap.size w w' := by
  have q1 := h1.nlen
  have q2 := h2.nlen
  go_enter Tryz.func108, Tryz.ntmps108
  go_wp2_with fail
  refine (norm_any _ _ _ _ _ h1).mono ?_
  rintro e w1 ⟨B1, d1, rfl, o1, b1⟩
  go_wp2_with fail
  refine (norm_any _ _ _ _ _ (h2.keep b1)).mono ?_
  rintro e w2 ⟨B2, d2, rfl, o2, b2⟩
  go_wp2_with fail
  go_loopg [0, 1] n2 (fun gk a b wr => ∃ (A B : Option Addr) (ca cb x : Nat), a = .slice A (limbs x).length ca ∧ b = .slice B (limbs gk).length cb ∧ GcRel w wr A B ca cb x gk (Nat.gcd n1 n2))
  case atStart => exact ⟨B1, B2, d1, d2, n1, rfl, rfl, (o1.toIn q1).keep b2, o2.toIn q2, Nat.gcd_comm _ _, b1.trans (b2.mono b1.size)⟩
  case round =>
    obtain ⟨A, B, ca, cb, x, rfl, rfl, ha, hb, hg, hbe⟩ := hrel
    have HG := Lib.hid hg; clear hg
    by_cases h0 : gk = 0
    · have hz : ¬ 0 < (limbs gk).length := by rw [h0, limbs_zero]; simp
      have hzi : ¬ (0 : Int) < ((limbs gk).length : Int) := by omega
      have H0 := Lib.hid h0; clear h0
      go_wp2
      go_ret
      have e : x = Nat.gcd n1 n2 := by rw [← HG.out, H0.out, Nat.gcd_zero_left]
      exact ⟨A, ca, by rw [← e]; rfl, by rw [← e]; exact ⟨ha.rd, ha.cap⟩, hbe⟩
    · have hp := slen_pos gk (by omega)
      have hm := Nat.mod_lt x (show 0 < gk by omega)
      have hmn : nlen (x % gk) < 1099511627776 := Nat.lt_of_le_of_lt (nlen_mono (Nat.le_of_lt hm)) hb.nlen
      have HM := Lib.hid hm; clear hm
      go_wp2_with (go_at_call 70; (with_reducible refine (divmod_any _ _ _ _ _ _ _ _ _ ha hb (by omega)).mono ?_); rintro e w5 ⟨E1, f1, E2, f2, rfl, p1, p2, p3⟩)
      go_roundg (x % gk)
      case measure => exact HM.out
      case rel => exact ⟨B, E2, cb, f2, gk, rfl, rfl, hb.keep p3, p2.toIn hmn, by rw [← HG.out]; exact (Nat.gcd_rec gk x).symm, hbe.trans (p3.mono hbe.size)⟩

theorem nlen_one : nlen 1 = 1 := by unfold nlen; rw [limbs_pos (by omega)]; simp [limbs_zero]
theorem nlen_pow (a k : Nat) : nlen (a ^ k) ≤ k * nlen a + 1 := by
  induction k with
  | zero => rw [Nat.pow_zero, nlen_one]; omega
  | succ k ih =>
    have := nlen_mul (a ^ k) a
    rw [Nat.pow_succ, Nat.add_mul]
    omega
theorem nlen_pow_lt {a k K : Nat} (hk : k ≤ K) (h : K * nlen a + 1 < 1099511627776) : nlen (a ^ k) < 1099511627776 := by
  have h1 := nlen_pow a k
  have h2 := Nat.mul_le_mul_right (nlen a) hk
  omega
/-- Pow's loop: x = n1^p, y = n1^q, the exponent that is left is n. -/
def PoRel (w wr : World) (A B : Option Addr) (ca cb n1 p q n k : Nat) : Prop :=
  In wr A ca (limbs (n1 ^ p)) (n1 ^ p) ∧ In wr B cb (limbs (n1 ^ q)) (n1 ^ q) ∧ p + q * n = k ∧ Below w.heap.size w wr

set_option maxHeartbeats 2000000 in
theorem pow_any (A1 : Option Addr) (c1 n1 k : Nat) (l1 : List Nat) (w : World) (h1 : In w A1 c1 l1 n1) (hk : k ≤ 512) (hlim : k * nlen n1 + 1 < 1099511627776) :
    Calls Tryz.prog 72 #[.slice A1 l1.length c1, .int .i64 (k : Int)] w fun e w' => ∃ A c, e = .returned (.tuple #[.slice A (limbs (n1 ^ k)).length c, .bool true]) ∧ Out w' A c (n1 ^ k) ∧ Below w.heap.size w w' := by
  have q1 := h1.nlen
  have g1 : decide ((k : Int) < 0) = false := by simp
  have g2 : decide (512 < (k : Int)) = false := by simp; omega
  have HLim := Lib.hid hlim; clear hlim
  go_enter Tryz.func72, Tryz.ntmps72
  go_wp2_with fail
  refine (of_any 1 (by omega) _).mono ?_
  rintro e w1 ⟨B1, d1, rfl, o1, b1⟩
  go_wp2_with fail
  refine (norm_any _ _ _ _ _ (h1.keep b1)).mono ?_
  rintro e w2 ⟨B2, d2, rfl, o2, b2⟩
  go_wp2_with fail
  go_loopw [1, 6, 7] (fun i a b wr => ∃ (A B : Option Addr) (ca cb n p q : Nat), n ≤ 512 ∧ i = .int .i64 (n : Int) ∧ a = .slice A (limbs (n1 ^ p)).length ca ∧ b = .slice B (limbs (n1 ^ q)).length cb ∧ PoRel w wr A B ca cb n1 p q n k) (fun i _ _ _ => (intOf i).toNat)
  case atStart =>
    refine ⟨B1, B2, d1, d2, k, 0, 1, hk, rfl, by rw [Nat.pow_zero], by rw [Nat.pow_one], ?_, ?_, by omega, b1.trans (b2.mono b1.size)⟩
    · rw [Nat.pow_zero]; exact (o1.toIn (by rw [nlen_one]; omega)).keep b2
    · rw [Nat.pow_one]; exact o2.toIn q1
  case round =>
    obtain ⟨A, B, ca, cb, n, p, q, hn, rfl, rfl, rfl, ha, hb, hpq, hbe⟩ := hrel
    have HPQ := Lib.hid hpq; clear hpq
    rcases Nat.eq_zero_or_pos n with h0 | h0
    · subst h0
      have e : p = k := by have := HPQ.out; omega
      subst e
      go_wp2
      go_ret2
      exact ⟨A, ca, rfl, ⟨ha.rd, ha.cap⟩, hbe⟩
    · have hpk : p ≤ k := by have := HPQ.out; omega
      have hq0 : q ≤ q * n := Nat.le_mul_of_pos_right q h0
      have hqk : p + q ≤ k := by have := HPQ.out; omega
      clear hq0
      obtain ⟨m, hm⟩ : ∃ m, n = 2 * m ∨ n = 2 * m + 1 := ⟨n / 2, by omega⟩
      rcases hm with rfl | rfl
      · have hm0 : 0 < m := by omega
        have hodd : (((2 * m : Nat) : Int) % 2 == 1) = false := by simp
        have hdiv : ((2 * m : Nat) : Int) / 2 = (m : Int) := by omega
        have hq2 : 2 * q ≤ k := by
          have h1 := HPQ.out
          have h2 := Nat.mul_le_mul_left q (show 2 ≤ 2 * m by omega)
          omega
        go_wp2_with fail
        refine (mul_any _ _ _ _ _ _ _ _ _ hb hb).mono ?_
        rintro e w3 ⟨E, f, rfl, o3, b3⟩
        go_wp2
        go_roundw
        case rel =>
          refine ⟨A, E, ca, f, m, p, q + q, by omega, rfl, rfl, by rw [Nat.pow_add], ha.keep b3, ?_, ?_, hbe.trans (b3.mono hbe.size)⟩
          · rw [Nat.pow_add]; exact o3.toIn (by rw [← Nat.pow_add]; exact nlen_pow_lt (K := k) (by omega) HLim.out)
          · have := HPQ.out; rw [← this]; grind
        case measure => simp [intOf]; omega
      · have hodd : (((2 * m + 1 : Nat) : Int) % 2 == 1) = true := by simp
        have hdiv : ((2 * m + 1 : Nat) : Int) / 2 = (m : Int) := by omega
        go_wp2_with fail
        refine (mul_any _ _ _ _ _ _ _ _ _ ha hb).mono ?_
        rintro e w3 ⟨E, f, rfl, o3, b3⟩
        have i3 : In w3 E f (limbs (n1 ^ (p + q))) (n1 ^ (p + q)) := by
          rw [Nat.pow_add]; exact o3.toIn (by rw [← Nat.pow_add]; exact nlen_pow_lt (K := k) (by omega) HLim.out)
        have E0 := Lib.hid (show (limbs (n1 ^ p * n1 ^ q)).length = (limbs (n1 ^ (p + q))).length by rw [Nat.pow_add])
        rw [E0.out]
        rcases Nat.eq_zero_or_pos m with hm | hm
        · subst hm
          go_wp2
          go_roundw
          case rel => exact ⟨E, B, f, cb, 0, p + q, q, by omega, rfl, rfl, rfl, i3, hb.keep b3, by have := HPQ.out; rw [← this]; grind, hbe.trans (b3.mono hbe.size)⟩
          case measure => simp [intOf]
        · have hq2 : 2 * q ≤ k := by
            have h1 := HPQ.out
            have h2 := Nat.mul_le_mul_left q (show 2 ≤ 2 * m + 1 by omega)
            omega
          go_wp2_with fail
          refine (mul_any _ _ _ _ _ _ _ _ _ (hb.keep b3) (hb.keep b3)).mono ?_
          rintro e w4 ⟨F, f4, rfl, o4, b4⟩
          go_wp2
          go_roundw
          case rel =>
            refine ⟨E, F, f, f4, m, p + q, q + q, by omega, vint (by omega), rfl, by rw [Nat.pow_add], i3.keep b4, ?_, ?_, (hbe.trans (b3.mono hbe.size)).trans (b4.mono (Nat.le_trans hbe.size b3.size))⟩
            · rw [Nat.pow_add]; exact o4.toIn (by rw [← Nat.pow_add]; exact nlen_pow_lt (K := k) (by omega) HLim.out)
            · have := HPQ.out; rw [← this]; grind
          case measure => simp [intOf]; omega
end Go.Proofs.YtnifjdhjimjihaaGreatDoor
