/- nat.divLimb. -/
import Derived.Test.YtnifjdhjimjihaaGreatDoorTrim
import Derived.Test.YtnifjdhjimjihaaGreatDoorKnuth
namespace Go.Proofs.YtnifjdhjimjihaaGreatDoor
open Go.RowKit Lim

/-- The loop's state: the limbs from k on are divided. -/
def DlRel (w wr : World) (g k r d : Nat) (a : List Nat) : Prop :=
  ∃ q : List Nat, q.length = a.length - k ∧ Dig q ∧ Blk wr g (List.replicate k 0 ++ q) ∧ val q * d + r = val (a.drop k) ∧ r < d ∧ Below w.heap.size w wr

theorem DlRel.step {w wr : World} {g k r d : Nat} {a : List Nat} (h : DlRel w wr g (k + 1) r d a) (hk : k < a.length) (hg : w.heap.size ≤ g) (hd : d < 4294967296) {x t : Nat} (hx : a.getD k 0 = x) (hxb : x < 4294967296) (ht : t = r * 4294967296 + x) :
    wr.cell? ⟨g, k, none⟩ = some (.int .u32 0) ∧ wr.frozen? ⟨g, k, none⟩ = false ∧ t / d < 4294967296 ∧ t < 18446744073709551616 ∧ 0 < d ∧
    ∀ u : Int, u = ((t / d : Nat) : Int) → DlRel w (wr.setCell ⟨g, k, none⟩ (.int .u32 u)) g k (t % d) d a := by
  obtain ⟨q, hl, hdq, hb, hv, hr, hbe⟩ := h
  have hd0 : 0 < d := by omega
  have htd : t / d < 4294967296 := by
    rw [Nat.div_lt_iff_lt_mul hd0]
    have := Nat.mul_le_mul_right 4294967296 (show r + 1 ≤ d by omega)
    rw [Nat.mul_comm 4294967296 d]
    omega
  have e0 : List.replicate (k + 1) 0 ++ q = List.replicate k 0 ++ 0 :: q := by
    rw [List.replicate_succ', List.append_assoc]; rfl
  rw [e0] at hb
  refine ⟨?_, hb.frozen _, htd, by omega, hd0, fun u hu => ?_⟩
  · have := hb.cell (i := k) (by simp)
    simpa [List.getElem_append_right] using this
  · refine ⟨(t / d) :: q, by simp; omega, dig_cons.2 ⟨htd, hdq⟩, ?_, ?_, Nat.mod_lt _ hd0, hbe.setCell hg _⟩
    · have := hb.set k _ hu
      rw [List.set_append_right _ _ (by simp)] at this
      simpa using this
    · have h1 := val_drop_cons a k hk
      rw [val_cons]
      refine div_step hv ht ?_
      rw [h1, ← getD_of hk rfl, hx]
theorem DlRel.last {w wr : World} {g r d : Nat} {a : List Nat} (h : DlRel w wr g 0 r d a) (hL : a.length ≤ 4398046511104) :
    r = val a % d ∧ ∃ l, Raw wr (some ⟨g, 0, none⟩) a.length l (val a / d) ∧ l.length = a.length ∧ Below w.heap.size w wr := by
  obtain ⟨q, hl, hdq, hb, hv, hr, hbe⟩ := h
  rw [List.drop_zero] at hv
  simp only [List.replicate_zero, List.nil_append] at hb
  have h1 : val a / d = val q := by
    rw [← hv, Nat.add_comm, Nat.mul_comm, Nat.add_mul_div_left _ _ (by omega), Nat.div_eq_of_lt hr]; omega
  have h2 : val a % d = r := by
    rw [← hv, Nat.add_comm, Nat.mul_comm, Nat.add_mul_mod_self_left, Nat.mod_eq_of_lt hr]
  exact ⟨h2.symm, q, ⟨hb.rd hdq, by omega, by omega, h1.symm⟩, by omega, hbe⟩

theorem or_shift (r x : Nat) (hx : x < 4294967296) (hr : r < 4294967296) : bits .or .u64 ((r : Int) * 4294967296) (x : Int) = ((r * 4294967296 + x : Nat) : Int) := by
  have h := u64_or_nat (r * 4294967296) x (by omega) (by omega)
  rw [show ((r * 4294967296 : Nat) : Int) = (r : Int) * 4294967296 from by omega] at h
  rw [h]
  have h2 := Nat.two_pow_add_eq_or_of_lt (show x < 2 ^ 32 by omega) r
  rw [Nat.mul_comm r 4294967296]
  exact congrArg Int.ofNat h2.symm

set_option maxHeartbeats 1000000 in
theorem divLimb_any (A1 : Option Addr) (c1 n1 d : Nat) (a : List Nat) (w : World) (h1 : In w A1 c1 a n1) (hd : 0 < d) (hdb : d < 4294967296) :
    Calls Tryz.prog 99 #[.slice A1 a.length c1, .int .u32 (d : Int)] w fun e w' => ∃ A c r, e = .returned (.tuple #[.slice A (limbs (n1 / d)).length c, .int .u32 ((r : Nat) : Int)]) ∧ Hid (r = n1 % d) ∧ Out w' A c (n1 / d) ∧ Below w.heap.size w w' := by
  have r1 := h1.rd
  have k1 := h1.lim
  have V1' := Lib.hid h1.val
  have hmk := made a.length (by omega)
  go_enter Tryz.func99, Tryz.ntmps99
  go_wp2_with fail
  go_loopw [7, 8] (fun r i wr => ∃ k c : Nat, k ≤ a.length ∧ i = .int .i64 ((k : Int) - 1) ∧ r = .int .u64 (c : Int) ∧ DlRel w wr w.heap.size k c d a) (fun _ i _ => (intOf i + 1).toNat)
  case atStart =>
    exact ⟨a.length, 0, by omega, rfl, rfl, [], by simp, dig_nil, by rw [List.append_nil]; exact Blk.new w _, by simp [val], hd, (Below.refl _ _).alloc (Nat.le_refl _) _⟩
  case round =>
    obtain ⟨k, r, hk, rfl, rfl, hrel⟩ := hrel
    have hbe : Below w.heap.size w wr := by obtain ⟨_, _, _, _, _, _, h⟩ := hrel; exact h
    have hrd : r < d := by obtain ⟨_, _, _, _, _, h, _⟩ := hrel; exact h
    rcases Nat.eq_zero_or_pos k with h0 | h0
    · subst h0
      obtain ⟨hr, l, hin, hll, hbl⟩ := hrel.last (by omega)
      rw [V1'.out] at hin hr
      have hL := Lib.hid hll; clear hll
      have hR := Lib.hid hr; clear hr
      go_wp2_with fail
      have ht := trim_raw _ _ _ _ _ hin _ rfl
      rw [hL.out] at ht
      refine ht.mono ?_
      clear ht
      rintro e w' ⟨rfl, rfl⟩
      go_wp2
      go_ret2
      exact ⟨_, _, r, rfl, hR, hin.trim, hbl⟩
    · obtain ⟨j, rfl⟩ : ∃ j, k = j + 1 := ⟨k - 1, by omega⟩
      rw [show (((j + 1 : Nat) : Int) - 1) = (j : Int) from by omega]
      have ja : j < a.length := by omega
      obtain ⟨b1, o1, rfl, hlt1, hcx⟩ := (r1.keep hbe).at_ ja
      obtain ⟨x, hx⟩ : ∃ x, a[j] = x := ⟨_, rfl⟩
      rw [hx] at hcx
      have hX := Lib.hid (getD_of ja hx)
      have hxb : x < 4294967296 := by rw [← hx]; exact dig_get r1.1 ja
      clear hx
      have hor := or_shift r x hxb (by omega)
      obtain ⟨t, ht⟩ : ∃ t, t = r * 4294967296 + x := ⟨_, rfl⟩
      rw [← ht] at hor
      obtain ⟨hoc, hof, htd, htb, hd0, hst⟩ := hrel.step ja (Nat.le_refl _) hdb hX.out hxb ht
      have hT := Lib.hid ht; clear ht
      have hST := Lib.hid hst; clear hst
      go_wp2
      go_roundw
      case rel => exact ⟨j, t % d, by omega, rfl, vint (by rw [Int.natCast_emod]), hST.out _ (by rw [← Int.natCast_ediv, IntKind.wrap_u64]; clear hST; generalize t / d = z at *; omega)⟩
      case measure => simp [intOf]
end Go.Proofs.YtnifjdhjimjihaaGreatDoor
