/- decimal.power, validPlaces, validMode, higher. -/
import Derived.Test.YtnifjdhjimjihaaGreatDoorRat3
namespace Go.Proofs.YtnifjdhjimjihaaGreatDoor
open Go.RowKit Lim
attribute [local go_sem ↓] Go.wp_at_zero Go.wp_at_succ

theorem nlen_pow10 {p : Nat} (hp : p ≤ 9) : nlen (10 ^ p) ≤ 1 := by
  apply nlen_le
  have h : 10 ^ p ≤ 10 ^ 9 := Nat.pow_le_pow_right (by omega) hp
  have : pw 1 = 4294967296 := by decide
  omega
theorem nlen_ten : nlen 10 ≤ 1 := nlen_pow10 (p := 1) (by omega)

set_option maxHeartbeats 1000000 in
theorem power_any (p : Nat) (hp : p ≤ 9) (w : World) :
    Calls Tryz.prog 34 #[.int .i64 (p : Int)] w (RetI w ((10 ^ p : Nat) : Int)) := by
  have hbx := Box.new w #[.bool false, .slice none 0 0] 25
  have HS := Lib.hid (show sg false (10 ^ p) = ((10 ^ p : Nat) : Int) from rfl)
  have n10 := nlen_ten
  have np := nlen_pow10 hp
  have hm : p * nlen 10 + 1 < 1099511627776 := by
    have := Nat.mul_le_mul_left p n10
    omega
  go_enter Tryz.func34, Tryz.ntmps34
  go_wp2_with fail
  refine (of_any 10 (by omega) _).mono ?_
  rintro e w1 ⟨B1, d1, rfl, o1, b1⟩
  go_wp2_with fail
  refine (pow_any _ _ _ _ _ _ (o1.toIn (by omega)) (by omega) hm).mono ?_
  rintro e w2 ⟨B2, d2, rfl, o2, b2⟩
  go_wp2_with fail
  refine (make_any _ _ _ _ _ _ (o2.toIn (by omega))).mono ?_
  rw [HS.out]
  rintro e w3 ⟨t', B3, d3, l', rfl, o3, b3⟩
  have b03 := (b1.trans (b2.mono b1.size)).trans (b3.mono (Nat.le_trans b1.size b2.size))
  have hb1 := hbx.keep b03
  have e0 : w3.cell? ⟨w.heap.size, 0, none⟩ = some (.bool false) := hb1.cell 0
  have e1 : w3.cell? ⟨w.heap.size, 1, none⟩ = some (.slice none 0 0) := hb1.cell 1
  have f0 := hb1.frozen 0
  have f1 := hb1.frozen 1
  go_wp2
  obtain ⟨o4, b4⟩ := o3.stored hb1 rfl rfl
  exact bodyPost_ret (results_int Tryz.results34 rfl b4) rfl ⟨t', B3, d3, l', rfl, o4, Below.box2 (((Below.refl w.heap.size w).alloc (Nat.le_refl _) _).trans (b03.mono (by simp))) (Nat.le_refl _) _ _⟩

theorem validPlaces_yes (p : Int) (h0 : 0 ≤ p) (h9 : p ≤ 9) (w : World) : Calls Tryz.prog 28 #[.int .i64 p] w fun e w' => e = .returned (.bool true) ∧ w = w' := by
  go_enter Tryz.func28, Tryz.ntmps28
  go_wp2
  go_ret
  exact ⟨rfl, rfl⟩
theorem validPlaces_no (p : Int) (h : p < 0 ∨ 9 < p) (w : World) : Calls Tryz.prog 28 #[.int .i64 p] w fun e w' => e = .returned (.bool false) ∧ w = w' := by
  rcases h with h | h
  · have hd : decide (0 ≤ p) = false := by simp; omega
    go_enter Tryz.func28, Tryz.ntmps28
    go_wp2
    go_ret
    exact ⟨rfl, rfl⟩
  · have hd : decide (p ≤ 9) = false := by simp; omega
    have h0 : 0 ≤ p := by omega
    go_enter Tryz.func28, Tryz.ntmps28
    go_wp2
    go_ret
    exact ⟨rfl, rfl⟩
theorem validMode_yes (p : Int) (h0 : 1 ≤ p) (h9 : p ≤ 7) (w : World) : Calls Tryz.prog 29 #[.int .i64 p] w fun e w' => e = .returned (.bool true) ∧ w = w' := by
  go_enter Tryz.func29, Tryz.ntmps29
  go_wp2
  go_ret
  exact ⟨rfl, rfl⟩
theorem validMode_no (p : Int) (h : p < 1 ∨ 7 < p) (w : World) : Calls Tryz.prog 29 #[.int .i64 p] w fun e w' => e = .returned (.bool false) ∧ w = w' := by
  rcases h with h | h
  · have hd : decide (1 ≤ p) = false := by simp; omega
    go_enter Tryz.func29, Tryz.ntmps29
    go_wp2
    go_ret
    exact ⟨rfl, rfl⟩
  · have hd : decide (p ≤ 7) = false := by simp; omega
    have h0 : 1 ≤ p := by omega
    go_enter Tryz.func29, Tryz.ntmps29
    go_wp2
    go_ret
    exact ⟨rfl, rfl⟩

/-- Whether the higher neighbor is chosen. -/
def hiB (low half : Int) (neg : Bool) (mode : Int) : Bool :=
  if mode = 1 ∨ mode = 2 ∨ mode = 3 then
    (if half = 0 then (if mode = 1 then decide (low.natAbs % 2 = 1) else (neg == decide (mode = 3))) else decide (0 < half))
  else if mode = 4 then !neg else if mode = 5 then neg else decide (mode = 7)

theorem val_odd {l : List Nat} (h : Dig l) : val l % 2 = l.getD 0 0 % 2 := by
  cases l with
  | nil => rfl
  | cons x xs => rw [val_cons]; simp; omega

set_option maxHeartbeats 2000000 in
theorem higher_any (t neg : Bool) (A : Option Addr) (c : Nat) (l : List Nat) (z half mode : Int) (w : World) (h : InI w t A c l z) (hm1 : 1 ≤ mode) (hm2 : mode ≤ 7) (hh1 : -1 ≤ half) (hh2 : half ≤ 1) :
    Calls Tryz.prog 37 #[.agg #[.bool t, .slice A l.length c], .int .i64 half, .bool neg, .int .i64 mode] w fun e w' => e = .returned (.bool (hiB z half neg mode)) ∧ Below w.heap.size w w' := by
  have hfin : Below w.heap.size w (w.alloc (.cells #[.bool t, .slice A l.length c] 25)) := (Below.refl _ _).alloc (Nat.le_refl _) _
  by_cases h123 : mode = 1 ∨ mode = 2 ∨ mode = 3
  · by_cases hz : half = 0
    · subst hz
      clear hh1 hh2
      rcases h123 with rfl | rfl | rfl
      · rcases Nat.eq_zero_or_pos l.length with h0 | h0
        · have hl : ¬ 0 < l.length := by omega
          have hv : hiB z 0 neg 1 = false := by
            have e : l = [] := List.eq_nil_of_length_eq_zero h0
            have := h.mag.val
            rw [e, val_nil] at this
            simp [hiB, ← this]
          have HV := Lib.hid hv; clear hv h0
          go_enter Tryz.func37, Tryz.ntmps37
          go_wp2
          go_ret
          exact ⟨by rw [HV.out]; rfl, hfin⟩
        · obtain ⟨b, off, rfl, hlt, hcx⟩ := (h.mag.rd.keep hfin).at_ h0
          obtain ⟨x, hx⟩ : ∃ x, l[0] = x := ⟨_, rfl⟩
          rw [hx, Nat.add_zero] at hcx
          have hodd := val_odd h.mag.rd.1
          rw [h.mag.val, getD_of h0 hx] at hodd
          have hv : hiB z 0 neg 1 = decide (x % 2 = 1) := by simp [hiB, hodd]
          have HV := Lib.hid hv; clear hv hodd hx
          by_cases h2 : x % 2 = 1
          · have hb : ((x : Int) % 2 == 1) = true := by simp; omega
            have H2 := Lib.hid h2; clear h2
            go_enter Tryz.func37, Tryz.ntmps37
            go_wp2
            go_ret
            exact ⟨by rw [HV.out]; simp [H2.out], hfin⟩
          · have hb : ((x : Int) % 2 == 1) = false := by simp; omega
            have H2 := Lib.hid h2; clear h2
            go_enter Tryz.func37, Tryz.ntmps37
            go_wp2
            go_ret
            exact ⟨by rw [HV.out]; simp [H2.out], hfin⟩
      · cases neg
        all_goals
          go_enter Tryz.func37, Tryz.ntmps37
          go_wp2
          go_ret
          exact ⟨rfl, hfin⟩
      · cases neg
        all_goals
          go_enter Tryz.func37, Tryz.ntmps37
          go_wp2
          go_ret
          exact ⟨rfl, hfin⟩
    · have hh : half = 1 ∨ half = -1 := by omega
      clear hz hh1 hh2
      rcases h123 with rfl | rfl | rfl <;> rcases hh with rfl | rfl
      all_goals
        go_enter Tryz.func37, Tryz.ntmps37
        go_wp2
        go_ret
        exact ⟨rfl, hfin⟩
  · have hmm : mode = 4 ∨ mode = 5 ∨ mode = 6 ∨ mode = 7 := by omega
    clear h123 hm1 hm2
    rcases hmm with rfl | rfl | rfl | rfl <;> cases neg
    all_goals
      go_enter Tryz.func37, Tryz.ntmps37
      go_wp2
      go_ret
      exact ⟨rfl, hfin⟩
end Go.Proofs.YtnifjdhjimjihaaGreatDoor
