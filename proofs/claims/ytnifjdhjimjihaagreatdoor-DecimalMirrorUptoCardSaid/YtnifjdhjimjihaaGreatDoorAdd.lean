/- nat.Add. -/
import Derived.Test.YtnifjdhjimjihaaGreatDoorTrim
import Derived.Test.YtnifjdhjimjihaaGreatDoorKnuth
namespace Go.Proofs.YtnifjdhjimjihaaGreatDoor
open Go.RowKit Lim

/-- The loop's state: i limbs of the sum stand. -/
def AddRel (w wr : World) (g i cr : Nat) (a b : List Nat) : Prop :=
  ∃ s : List Nat, s.length = i ∧ Dig s ∧ Blk wr g (s ++ List.replicate (a.length + 1 - i) 0) ∧ val s + cr * pw i = val (a.take i) + val (b.take i) ∧ cr ≤ 1 ∧ Below w.heap.size w wr

theorem AddRel.cell {w wr : World} {g i cr : Nat} {a b : List Nat} (h : AddRel w wr g i cr a b) (hi : i ≤ a.length) : wr.cell? ⟨g, i, none⟩ = some (.int .u32 0) ∧ wr.frozen? ⟨g, i, none⟩ = false := by
  obtain ⟨s, rfl, hd, hb, _⟩ := h
  have h1 := hb.cell (i := s.length) (by simp; omega)
  rw [List.getElem_append_right (Nat.le_refl _)] at h1
  simp at h1
  exact ⟨h1, hb.frozen _⟩
theorem AddRel.step {w wr : World} {g k c : Nat} {a b : List Nat} (h : AddRel w wr g k c a b) (ha : Dig a) (hb : Dig b) (hg : w.heap.size ≤ g) (hk : k < a.length) {x y : Nat} (hx : a.getD k 0 = x) (hy : b.getD k 0 = y) {u : Int} (hu : u = (((x + c + y) % 4294967296 : Nat) : Int)) :
    AddRel w (wr.setCell ⟨g, k, none⟩ (.int .u32 u)) g (k + 1) ((x + c + y) / 4294967296) a b := by
  obtain ⟨s, rfl, hd, hbl, hv, hc, hbe⟩ := h
  have hx' := dig_getD ha s.length
  have hy' := dig_getD hb s.length
  refine ⟨s ++ [(x + c + y) % 4294967296], by simp, dig_snoc hd (by omega), ?_, ?_, by omega, hbe.setCell hg _⟩
  · have := hbl.set s.length _ hu
    rw [show a.length + 1 - s.length = (a.length + 1 - (s.length + 1)) + 1 from by omega, set_here] at this
    exact this
  · rw [val_snoc, val_take_succ', val_take_succ', pw_succ, hx, hy]
    exact add_step hv rfl
theorem AddRel.last {w wr : World} {g c n1 n2 : Nat} {a b : List Nat} (h : AddRel w wr g a.length c a b) (hl : b.length ≤ a.length) (hg : w.heap.size ≤ g) (hS : val a + val b = n1 + n2) (hL : a.length < 1099511627776) {u : Int} (hu : u = (c : Int)) :
    ∃ l, Raw (wr.setCell ⟨g, a.length, none⟩ (.int .u32 u)) (some ⟨g, 0, none⟩) (a.length + 1) l (n1 + n2) ∧ l.length = a.length + 1 ∧ Below w.heap.size w (wr.setCell ⟨g, a.length, none⟩ (.int .u32 u)) := by
  obtain ⟨s, hs, hd, hbl, hv, hc, hbe⟩ := h
  have h1 := hbl.set a.length c hu
  rw [show a.length + 1 - a.length = 0 + 1 from by omega, ← hs, set_here, hs] at h1
  simp only [List.replicate_zero, List.append_nil] at h1
  refine ⟨s ++ [c], ⟨h1.rd (dig_snoc hd (by omega)), by simp [hs], by simp [hs]; omega, ?_⟩, by simp [hs], hbe.setCell hg _⟩
  rw [List.take_of_length_le (Nat.le_refl _), List.take_of_length_le hl] at hv
  rw [val_snoc, hs, ← hS, ← hv, Nat.mul_comm]

set_option maxHeartbeats 1000000 in
theorem add_any (A1 A2 : Option Addr) (c1 c2 n1 n2 : Nat) (l1 l2 : List Nat) (w : World) (h1 : In w A1 c1 l1 n1) (h2 : In w A2 c2 l2 n2) :
    Calls Tryz.prog 58 #[.slice A1 l1.length c1, .slice A2 l2.length c2] w fun e w' => ∃ A c, e = .returned (.slice A (limbs (n1 + n2)).length c) ∧ Out w' A c (n1 + n2) ∧ Below w.heap.size w w' := by
  obtain ⟨a1, ha1⟩ : ∃ a, limbs n1 = a := ⟨_, rfl⟩
  obtain ⟨a2, ha2⟩ : ∃ b, limbs n2 = b := ⟨_, rfl⟩
  have q1 : Rd w A1 a1 := by rw [← ha1]; exact h1.trim.rd
  have q2 : Rd w A2 a2 := by rw [← ha2]; exact h2.trim.rd
  have m1 : a1.length < 1099511627776 := by rw [← ha1]; exact h1.nlen
  have m2 : a2.length < 1099511627776 := by rw [← ha2]; exact h2.nlen
  have S : val a1 + val a2 = n1 + n2 := by rw [← ha1, ← ha2, val_limbs, val_limbs]
  have ha1' := Lib.hid ha1; clear ha1
  have ha2' := Lib.hid ha2; clear ha2
  rcases Nat.lt_or_ge a1.length a2.length with hlt | hge
  case' inl =>
    have hn : (a1.length : Int) < (a2.length : Int) := by omega
    rw [Nat.add_comm] at S
    obtain ⟨a, b, XA, XB, r1, r2, k1, S', hge, ea, eb⟩ : ∃ (a b : List Nat) (XA XB : Option Addr), Rd w XA a ∧ Rd w XB b ∧ a.length < 1099511627776 ∧ Hid (val a + val b = n1 + n2) ∧ b.length ≤ a.length ∧ (a = a2 ∧ XA = A2) ∧ (b = a1 ∧ XB = A1) := ⟨a2, a1, A2, A1, q2, q1, m2, S, by omega, ⟨rfl, rfl⟩, ⟨rfl, rfl⟩⟩
  case' inr =>
    have hn : ¬ (a1.length : Int) < (a2.length : Int) := by omega
    obtain ⟨a, b, XA, XB, r1, r2, k1, S', hge, ea, eb⟩ : ∃ (a b : List Nat) (XA XB : Option Addr), Rd w XA a ∧ Rd w XB b ∧ a.length < 1099511627776 ∧ Hid (val a + val b = n1 + n2) ∧ b.length ≤ a.length ∧ (a = a1 ∧ XA = A1) ∧ (b = a2 ∧ XB = A2) := ⟨a1, a2, A1, A2, q1, q2, m1, S, by omega, ⟨rfl, rfl⟩, ⟨rfl, rfl⟩⟩
  all_goals
    obtain ⟨rfl, rfl⟩ := ea
    obtain ⟨rfl, rfl⟩ := eb
    clear S
    have hmk := made (a.length + 1) (by omega)
    rw [show ((a.length + 1 : Nat) : Int) = (a.length : Int) + 1 from by omega] at hmk
    go_enter Tryz.func58, Tryz.ntmps58
    go_wp2_with (go_at_call 98; (first | (with_reducible refine (trim_in _ _ _ _ _ h1 _ ha1'.out).mono ?_) | (with_reducible refine (trim_in _ _ _ _ _ h2 _ ha2'.out).mono ?_)); rintro e w' ⟨rfl, rfl⟩)
    go_loopw [6, 26] (fun cr i wr => ∃ k c : Nat, k ≤ a.length ∧ i = .int .i64 (k : Int) ∧ cr = .int .u64 (c : Int) ∧ AddRel w wr w.heap.size k c a b) (fun _ i _ => a.length - (intOf i).toNat)
    case atStart =>
      exact ⟨0, 0, by omega, rfl, rfl, [], rfl, dig_nil, Blk.new w _, by simp [val], by omega, (Below.refl _ _).alloc (Nat.le_refl _) _⟩
    case round =>
      obtain ⟨k, c, hk, rfl, rfl, hrel⟩ := hrel
      obtain ⟨hst, hfz⟩ := hrel.cell hk
      have hbe : Below w.heap.size w wr := by obtain ⟨_, _, _, _, _, _, h⟩ := hrel; exact h
      have hc1 : c ≤ 1 := by obtain ⟨_, _, _, _, _, h, _⟩ := hrel; exact h
      by_cases hlt : k < a.length
      · obtain ⟨b1, o1, rfl, hlt1, hcx⟩ := (r1.keep hbe).at_ hlt
        obtain ⟨x, hx⟩ : ∃ x, a[k] = x := ⟨_, rfl⟩
        rw [hx] at hcx
        have hX := Lib.hid (getD_of hlt hx)
        have hxb : x < 4294967296 := by rw [← hx]; exact dig_get r1.1 hlt
        clear hx
        by_cases hltb : k < b.length
        · obtain ⟨b2, o2, rfl, hlt2, hcy⟩ := (r2.keep hbe).at_ hltb
          obtain ⟨y, hy⟩ : ∃ y, b[k] = y := ⟨_, rfl⟩
          rw [hy] at hcy
          have hY := Lib.hid (getD_of hltb hy)
          have hyb : y < 4294967296 := by rw [← hy]; exact dig_get r2.1 hltb
          clear hy
          go_wp2
          go_roundw
          case rel => exact ⟨k + 1, (x + c + y) / 4294967296, by omega, by go_num, vint (by omega), hrel.step r1.1 r2.1 (Nat.le_refl _) hlt hX.out hY.out (by omega)⟩
          case measure => simp [intOf]; omega
        · have hY := Lib.hid (getD_out (l := b) (k := k) (by omega))
          go_wp2
          go_roundw
          case rel => exact ⟨k + 1, (x + c + 0) / 4294967296, by omega, by go_num, vint (by omega), hrel.step r1.1 r2.1 (Nat.le_refl _) hlt hX.out hY.out (by omega)⟩
          case measure => simp [intOf]; omega
      · obtain rfl : k = a.length := by omega
        obtain ⟨l, hin, hll, hbl⟩ := hrel.last (u := (c : Int)) hge (Nat.le_refl _) S'.out k1 rfl
        have hL := Lib.hid hll; clear hll
        go_wp2_with fail
        have ht := trim_raw _ _ _ _ _ hin _ rfl
        rw [hL.out] at ht
        refine ht.mono ?_
        clear ht
        rintro e w' ⟨rfl, rfl⟩
        go_wp2
        go_ret
        exact ⟨_, _, rfl, hin.trim, hbl⟩
end Go.Proofs.YtnifjdhjimjihaaGreatDoor
