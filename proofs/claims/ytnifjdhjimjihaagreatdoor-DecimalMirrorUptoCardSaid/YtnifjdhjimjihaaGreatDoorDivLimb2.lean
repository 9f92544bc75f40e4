/- nat.divLimb, with the place of what it returns. -/
import Derived.Test.YtnifjdhjimjihaaGreatDoorDivLimb
namespace Go.Proofs.YtnifjdhjimjihaaGreatDoor
open Go.RowKit Lim

set_option maxHeartbeats 1000000 in
theorem divLimb_at (A1 : Option Addr) (c1 n1 d : Nat) (a : List Nat) (w : World) (h1 : In w A1 c1 a n1) (hd : 0 < d) (hdb : d < 4294967296) :
    Calls Tryz.prog 99 #[.slice A1 a.length c1, .int .u32 (d : Int)] w fun e w' => ∃ c r, e = .returned (.tuple #[.slice (some ⟨w.heap.size, 0, none⟩) (limbs (n1 / d)).length c, .int .u32 ((r : Nat) : Int)]) ∧ Hid (r = n1 % d) ∧ Out w' (some ⟨w.heap.size, 0, none⟩) c (n1 / d) ∧ Below w.heap.size w w' := by
  have r1 := h1.rd
  have k1 := h1.lim
  have V1' := Lib.hid h1.val
  have hmk := made a.length (by omega)
  go_enter Tryz.func99, Tryz.ntmps99
  go_wp2_with fail
  go_loopw [7, 8] (fun r i wr => ∃ k c : Nat, k ≤ a.length ∧ i = .int .i64 ((k : Int) - 1) ∧ r = .int .u64 (c : Int) ∧ DlRel w wr w.heap.size k c d a) (fun _ i _ => (intOf i + 1).toNat)
  case atStart =>
    exact ⟨a.length, 0, by omega, rfl, rfl, [], by simp, dig_nil, by rw [List.append_nil]; exact Blk.new w _, by simp [val], hd, (Below.refl _ _).alloc (Nat.le_refl _) _⟩
  case round =>
    obtain ⟨k, r, hk, rfl, rfl, hrel⟩ := hrel
    have hbe : Below w.heap.size w wr := by obtain ⟨_, _, _, _, _, _, h⟩ := hrel; exact h
    have hrd : r < d := by obtain ⟨_, _, _, _, _, h, _⟩ := hrel; exact h
    rcases Nat.eq_zero_or_pos k with h0 | h0
    · subst h0
      obtain ⟨hr, l, hin, hll, hbl⟩ := hrel.last (by omega)
      rw [V1'.out] at hin hr
      have hL := Lib.hid hll; clear hll
      have hR := Lib.hid hr; clear hr
      go_wp2_with fail
      have ht := trim_raw _ _ _ _ _ hin _ rfl
      rw [hL.out] at ht
      refine ht.mono ?_
      clear ht
      rintro e w' ⟨rfl, rfl⟩
      go_wp2
      go_ret2
      exact ⟨_, r, rfl, hR, hin.trim, hbl⟩
    · obtain ⟨j, rfl⟩ : ∃ j, k = j + 1 := ⟨k - 1, by omega⟩
      rw [show (((j + 1 : Nat) : Int) - 1) = (j : Int) from by omega]
      have ja : j < a.length := by omega
      obtain ⟨b1, o1, rfl, hlt1, hcx⟩ := (r1.keep hbe).at_ ja
      obtain ⟨x, hx⟩ : ∃ x, a[j] = x := ⟨_, rfl⟩
      rw [hx] at hcx
      have hX := Lib.hid (getD_of ja hx)
      have hxb : x < 4294967296 := by rw [← hx]; exact dig_get r1.1 ja
      clear hx
      have hor := or_shift r x hxb (by omega)
      obtain ⟨t, ht⟩ : ∃ t, t = r * 4294967296 + x := ⟨_, rfl⟩
      rw [← ht] at hor
      obtain ⟨hoc, hof, htd, htb, hd0, hst⟩ := hrel.step ja (Nat.le_refl _) hdb hX.out hxb ht
      have hT := Lib.hid ht; clear ht
      have hST := Lib.hid hst; clear hst
      go_wp2
      go_roundw
      case rel => exact ⟨j, t % d, by omega, rfl, vint (by rw [Int.natCast_emod]), hST.out _ (by rw [← Int.natCast_ediv, IntKind.wrap_u64]; clear hST; generalize t / d = z at *; omega)⟩
      case measure => simp [intOf]

end Go.Proofs.YtnifjdhjimjihaaGreatDoor
