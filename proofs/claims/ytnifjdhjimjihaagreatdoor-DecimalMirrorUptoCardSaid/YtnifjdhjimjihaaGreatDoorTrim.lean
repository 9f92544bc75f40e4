/- nat.trim. -/
import Derived.Test.YtnifjdhjimjihaaGreatDoorMem
import Derived.LoopTactic
import Derived.Outline
namespace Go.Proofs.YtnifjdhjimjihaaGreatDoor
open Go.RowKit Lim

set_option maxHeartbeats 400000 in
theorem trim_any (A : Option Addr) (c : Nat) (l : List Nat) (w : World) (h : Rd w A l) (hc : l.length ≤ c) (hb : l.length ≤ 4398046511104) :
    Calls Tryz.prog 98 #[.slice A l.length c] w fun e w' => e = .returned (.slice A (limbs (val l)).length c) ∧ w = w' := by
  go_enter Tryz.func98, Tryz.ntmps98
  go_wp2
  go_loop [0] (fun v => ∃ k : Nat, k ≤ l.length ∧ val (l.drop k) = 0 ∧ v = .slice A k c) (fun v => lenOf v)
  case atStart => exact ⟨l.length, Nat.le_refl _, by simp [val], rfl⟩
  case round =>
    obtain ⟨k, hk, hz, rfl⟩ := hrel
    rcases Nat.eq_zero_or_pos k with h0 | h0
    · subst h0
      have hz' := Lib.hid hz; clear hz
      go_wp2
      go_ret
      exact ⟨by rw [limbs_take h.1 hk hz'.out (fun h => absurd h (by omega))]; rfl, rfl⟩
    · obtain ⟨m, rfl⟩ : ∃ m, k = m + 1 := ⟨k - 1, by omega⟩
      obtain ⟨b, off, rfl, hlt, hcell⟩ := h.at_ (show m < l.length by omega)
      have hz' := Lib.hid hz; clear hz
      obtain ⟨x, hx⟩ : ∃ x, l[m] = x := ⟨_, rfl⟩
      rw [hx] at hcell
      have hx' := Lib.hid hx; clear hx
      by_cases hx0 : x = 0
      · subst hx0
        go_wp2
        go_round
        case rel => exact ⟨m, by omega, by rw [val_drop_cons l m (by omega), hx'.out, hz'.out], rfl⟩
        case measure => simp [lenOf]
      · have hne : ((x : Int) == 0) = false := by simp; omega
        go_wp2
        go_ret
        exact ⟨by rw [limbs_take h.1 hk hz'.out (fun h => by simpa [hx'.out] using hx0)]; simp; omega, rfl⟩
theorem trim_raw (A : Option Addr) (c : Nat) (l : List Nat) (n : Nat) (w : World) (h : Raw w A c l n) (a : List Nat) (ha : limbs n = a) :
    Calls Tryz.prog 98 #[.slice A l.length c] w fun e w' => e = .returned (.slice A a.length c) ∧ w = w' := by
  obtain ⟨hr, hc, hl, rfl⟩ := h
  subst ha
  exact trim_any A c l w hr hc hl
theorem trim_in (A : Option Addr) (c : Nat) (l : List Nat) (n : Nat) (w : World) (h : In w A c l n) (a : List Nat) (ha : limbs n = a) :
    Calls Tryz.prog 98 #[.slice A l.length c] w fun e w' => e = .returned (.slice A a.length c) ∧ w = w' :=
  trim_raw A c l n w h.toRaw a ha
end Go.Proofs.YtnifjdhjimjihaaGreatDoor
