/- nat.Cmp. -/
import Derived.Test.YtnifjdhjimjihaaGreatDoorTrim
import Derived.Deep.QuietTactic
import Derived.BigQuiet
namespace Go.Proofs.YtnifjdhjimjihaaGreatDoor
open Go.RowKit Lim

set_option maxHeartbeats 400000 in
theorem cmp_any (A1 A2 : Option Addr) (c1 c2 n1 n2 : Nat) (l1 l2 : List Nat) (w : World) (h1 : In w A1 c1 l1 n1) (h2 : In w A2 c2 l2 n2) :
    Calls Tryz.prog 62 #[.slice A1 l1.length c1, .slice A2 l2.length c2] w fun e w' => e = .returned (.int .i64 (cmpI n1 n2)) ∧ ∃ m, w' = w.drewN m := by
  obtain ⟨a, ha⟩ : ∃ a, limbs n1 = a := ⟨_, rfl⟩
  obtain ⟨b, hb⟩ : ∃ b, limbs n2 = b := ⟨_, rfl⟩
  have r1 := h1.trim.rd
  have r2 := h2.trim.rd
  have k1 : a.length < 1099511627776 := by rw [← ha]; exact h1.nlen
  have k2 : b.length < 1099511627776 := by rw [← hb]; exact h2.nlen
  rw [ha] at r1
  rw [hb] at r2
  have N1 : Nrm a := by rw [← ha]; exact nrm_limbs n1
  have N2 : Nrm b := by rw [← hb]; exact nrm_limbs n2
  have V1 : val a = n1 := by rw [← ha]; exact val_limbs n1
  have V2 : val b = n2 := by rw [← hb]; exact val_limbs n2
  have V1' := Lib.hid V1; clear V1
  have V2' := Lib.hid V2; clear V2
  have ha' := Lib.hid ha; clear ha
  have hb' := Lib.hid hb; clear hb
  by_cases hlt : a.length < b.length
  · have hf : cmpI n1 n2 = -1 := cmpI_lt (by rw [← V1'.out, ← V2'.out]; exact lt_of_length r1.1 N2 hlt)
    have hf' := Lib.hid hf; clear hf
    go_enter Tryz.func62, Tryz.ntmps62
    go_wp2_with (go_at_call 98; (first | (with_reducible refine (trim_in _ _ _ _ _ h1 a ha'.out).mono ?_) | (with_reducible refine (trim_in _ _ _ _ _ h2 b hb'.out).mono ?_)); rintro e w' ⟨rfl, rfl⟩)
    go_ret
    exact ⟨by rw [hf'.out]; rfl, 0, rfl⟩
  by_cases hgt : b.length < a.length
  · have hf : cmpI n1 n2 = 1 := cmpI_gt (by rw [← V1'.out, ← V2'.out]; exact lt_of_length r2.1 N1 hgt)
    have hf' := Lib.hid hf; clear hf
    go_enter Tryz.func62, Tryz.ntmps62
    go_wp2_with (go_at_call 98; (first | (with_reducible refine (trim_in _ _ _ _ _ h1 a ha'.out).mono ?_) | (with_reducible refine (trim_in _ _ _ _ _ h2 b hb'.out).mono ?_)); rintro e w' ⟨rfl, rfl⟩)
    go_ret
    exact ⟨by rw [hf'.out]; rfl, 0, rfl⟩
  · have hL := Lib.hid (show a.length = b.length by omega)
    go_enter Tryz.func62, Tryz.ntmps62
    go_wp2_with (go_at_call 98; (first | (with_reducible refine (trim_in _ _ _ _ _ h1 a ha'.out).mono ?_) | (with_reducible refine (trim_in _ _ _ _ _ h2 b hb'.out).mono ?_)); rintro e w' ⟨rfl, rfl⟩)
    go_loopw [5] (fun i wr => ∃ k m : Nat, k ≤ a.length ∧ i = .int .i64 ((k : Int) - 1) ∧ a.drop k = b.drop k ∧ wr = w.drewN m) (fun i _ => (intOf i + 1).toNat)
    case atStart => exact ⟨a.length, 0, Nat.le_refl _, rfl, by simp [hL.out], rfl⟩
    case round =>
      obtain ⟨k, m, hk, rfl, he, rfl⟩ := hrel
      have he' := Lib.hid he; clear he
      rcases Nat.eq_zero_or_pos k with h0 | h0
      · subst h0
        have hf : cmpI n1 n2 = 0 := by
          have : a = b := by simpa using he'.out
          rw [← V1'.out, ← V2'.out, this]; exact cmpI_eq _
        have hf' := Lib.hid hf; clear hf
        go_wp2
        go_ret
        exact ⟨by rw [hf'.out]; rfl, m, rfl⟩
      · obtain ⟨j, rfl⟩ : ∃ j, k = j + 1 := ⟨k - 1, by omega⟩
        rw [show (((j + 1 : Nat) : Int) - 1) = (j : Int) from by omega]
        have ja : j < a.length := by omega
        have jb : j < b.length := by omega
        obtain ⟨b1, o1, rfl, hlt1, hc1⟩ := r1.at_ ja
        obtain ⟨b2, o2, rfl, hlt2, hc2⟩ := r2.at_ jb
        obtain ⟨x, hx⟩ : ∃ x, a[j] = x := ⟨_, rfl⟩
        obtain ⟨y, hy⟩ : ∃ y, b[j] = y := ⟨_, rfl⟩
        rw [hx] at hc1
        rw [hy] at hc2
        have hx' := Lib.hid hx; clear hx
        have hy' := Lib.hid hy; clear hy
        have i1 : (0 : Int) ≤ (j : Int) := by omega
        have i2 : (j : Int) < (a.length : Int) := by omega
        have i3 : (j : Int) < (b.length : Int) := by omega
        rcases Nat.lt_trichotomy x y with hxy | hxy | hxy
        · have hf : cmpI n1 n2 = -1 := cmpI_lt (by rw [← V1'.out, ← V2'.out]; exact lt_of_limb r1.1 ja hL.out he'.out (by rw [hx'.out, hy'.out]; exact hxy))
          have hf' := Lib.hid hf; clear hf
          go_wp2
          go_quiet (fail)
          go_wp2
          go_ret
          exact ⟨by rw [hf'.out]; rfl, by simp only [World.drewN_drewN]; exact ⟨_, rfl⟩⟩
        · have he2 := Lib.hid (drop_eq_of ja hL.out he'.out (by rw [hx'.out, hy'.out]; exact hxy))
          subst hxy
          have hn : ¬ (x : Int) < x := by omega
          go_wp2
          go_quiet (fail)
          go_wp2
          go_quiet (fail)
          go_wp2
          go_roundw
          case rel => exact ⟨j, _, by omega, rfl, he2.out, rfl⟩
          case measure => simp [intOf]
        · have hf : cmpI n1 n2 = 1 := cmpI_gt (by rw [← V1'.out, ← V2'.out]; exact lt_of_limb r2.1 jb hL.out.symm he'.out.symm (by rw [hx'.out, hy'.out]; exact hxy))
          have hf' := Lib.hid hf; clear hf
          go_wp2
          go_quiet (fail)
          go_wp2
          go_quiet (fail)
          go_wp2
          go_ret
          exact ⟨by rw [hf'.out]; rfl, by simp only [World.drewN_drewN]; exact ⟨_, rfl⟩⟩
end Go.Proofs.YtnifjdhjimjihaaGreatDoor
