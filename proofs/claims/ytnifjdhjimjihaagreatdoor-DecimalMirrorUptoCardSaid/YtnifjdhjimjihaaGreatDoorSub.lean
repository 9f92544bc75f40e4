/- nat.Sub. -/
import Derived.Test.YtnifjdhjimjihaaGreatDoorCmp
import Derived.Test.YtnifjdhjimjihaaGreatDoorKnuth
namespace Go.Proofs.YtnifjdhjimjihaaGreatDoor
open Go.RowKit Lim

/-- The loop's state: i limbs of the difference stand. -/
def SubRel (w wr : World) (g i cr : Nat) (a b : List Nat) : Prop :=
  ∃ s : List Nat, s.length = i ∧ Dig s ∧ Blk wr g (s ++ List.replicate (a.length - i) 0) ∧ val s + val (b.take i) = val (a.take i) + cr * pw i ∧ cr ≤ 1 ∧ Below w.heap.size w wr

theorem SubRel.cell {w wr : World} {g i cr : Nat} {a b : List Nat} (h : SubRel w wr g i cr a b) (hi : i < a.length) : wr.cell? ⟨g, i, none⟩ = some (.int .u32 0) ∧ wr.frozen? ⟨g, i, none⟩ = false := by
  obtain ⟨s, rfl, hd, hb, _⟩ := h
  have h1 := hb.cell (i := s.length) (by simp; omega)
  rw [List.getElem_append_right (Nat.le_refl _)] at h1
  simp at h1
  exact ⟨h1, hb.frozen _⟩
/-- The new borrow. -/
def bor (x y : Nat) : Nat := if x < y then 1 else 0
theorem bor_eq (x y : Nat) (hx : x < 4294967296) (hy : y ≤ 4294967296) : ((x : Int) - (y : Int)) % 18446744073709551616 / 9223372036854775808 = (bor x y : Nat) := by
  unfold bor; split <;> omega
theorem wrap_two (x y c : Nat) : IntKind.u64.wrap (IntKind.u64.wrap ((x : Int) - c) - y) = ((x : Int) - (y + c : Nat)) % 18446744073709551616 := by rw [IntKind.wrap_u64, IntKind.wrap_u64]; omega
theorem wrap_one (x c : Nat) : IntKind.u64.wrap ((x : Int) - c) = ((x : Int) - (0 + c : Nat)) % 18446744073709551616 := by rw [IntKind.wrap_u64]; omega
theorem SubRel.step {w wr : World} {g k c : Nat} {a b : List Nat} (h : SubRel w wr g k c a b) (ha : Dig a) (hb : Dig b) (hg : w.heap.size ≤ g) (hk : k < a.length) {x y : Nat} (hx : a.getD k 0 = x) (hy : b.getD k 0 = y) {u : Int} (hu : u = ((x : Int) - (y + c : Nat)) % 4294967296) :
    SubRel w (wr.setCell ⟨g, k, none⟩ (.int .u32 u)) g (k + 1) (bor x (y + c)) a b := by
  obtain ⟨s, rfl, hd, hbl, hv, hc, hbe⟩ := h
  have hx' := dig_getD ha s.length
  have hy' := dig_getD hb s.length
  rw [hx] at hx'
  rw [hy] at hy'
  have hu' : u = (((x + 4294967296 - (y + c)) % 4294967296 : Nat) : Int) := by omega
  have hm : (x + 4294967296 - (y + c)) % 4294967296 + c + y = x + 4294967296 * bor x (y + c) := by unfold bor; split <;> omega
  generalize (x + 4294967296 - (y + c)) % 4294967296 = m at *
  have hml : m < 4294967296 := by unfold bor at hm; split at hm <;> omega
  refine ⟨s ++ [m], by simp, dig_snoc hd hml, ?_, ?_, by unfold bor; split <;> omega, hbe.setCell hg _⟩
  · have := hbl.set s.length _ hu'
    rw [show a.length - s.length = (a.length - (s.length + 1)) + 1 from by omega, set_here] at this
    exact this
  · rw [val_snoc, val_take_succ', val_take_succ', pw_succ, hx, hy]
    exact sub_step hv hm
theorem SubRel.last {w wr : World} {g c : Nat} {a b : List Nat} (h : SubRel w wr g a.length c a b) (hl : b.length ≤ a.length) (hle : val b ≤ val a) (hL : a.length < 1099511627776) :
    ∃ l, Raw wr (some ⟨g, 0, none⟩) a.length l (val a - val b) ∧ l.length = a.length ∧ Below w.heap.size w wr := by
  obtain ⟨s, hs, hd, hbl, hv, hc, hbe⟩ := h
  rw [Nat.sub_self, List.replicate_zero, List.append_nil] at hbl
  rw [List.take_of_length_le (Nat.le_refl _), List.take_of_length_le hl] at hv
  have h1 := val_lt hd
  rw [hs] at h1
  have hc0 : c = 0 := by
    rcases Nat.eq_zero_or_pos c with h0 | h0
    · exact h0
    · obtain rfl : c = 1 := by omega
      omega
  subst hc0
  exact ⟨s, ⟨hbl.rd hd, by omega, by omega, by omega⟩, hs, hbe⟩

set_option maxHeartbeats 1000000 in
theorem sub_no (A1 A2 : Option Addr) (c1 c2 n1 n2 : Nat) (l1 l2 : List Nat) (w : World) (h1 : In w A1 c1 l1 n1) (h2 : In w A2 c2 l2 n2) (hlt : n1 < n2) :
    Calls Tryz.prog 71 #[.slice A1 l1.length c1, .slice A2 l2.length c2] w fun e w' => e = .returned (.tuple #[.slice none 0 0, .bool false]) ∧ Below w.heap.size w w' := by
  have hc := cmpI_lt hlt
  have i1 := h1.trim.toIn h1.nlen
  have i2 := h2.trim.toIn h2.nlen
  go_enter Tryz.func71, Tryz.ntmps71
  go_wp2_with (first | (go_at_call 98; (first | (with_reducible refine (trim_in _ _ _ _ _ h1 _ rfl).mono ?_) | (with_reducible refine (trim_in _ _ _ _ _ h2 _ rfl).mono ?_)); rintro e w' ⟨rfl, rfl⟩) | (go_at_call 62; (with_reducible refine (cmp_any _ _ _ _ _ _ _ _ _ i1 i2).mono ?_); rintro e w' ⟨rfl, m, rfl⟩))
  go_ret2
  exact ⟨rfl, below_drewN (Below.refl _ _) _⟩

set_option maxHeartbeats 1000000 in
theorem sub_yes (A1 A2 : Option Addr) (c1 c2 n1 n2 : Nat) (l1 l2 : List Nat) (w : World) (h1 : In w A1 c1 l1 n1) (h2 : In w A2 c2 l2 n2) (hle : n2 ≤ n1) :
    Calls Tryz.prog 71 #[.slice A1 l1.length c1, .slice A2 l2.length c2] w fun e w' => ∃ A c, e = .returned (.tuple #[.slice A (limbs (n1 - n2)).length c, .bool true]) ∧ Out w' A c (n1 - n2) ∧ Below w.heap.size w w' := by
  have hcm : ¬ cmpI n1 n2 < 0 := by unfold cmpI; rw [if_neg (by omega)]; split <;> omega
  have i1 := h1.trim.toIn h1.nlen
  have i2 := h2.trim.toIn h2.nlen
  have hge : (limbs n2).length ≤ (limbs n1).length := nlen_mono hle
  obtain ⟨a, ha⟩ : ∃ a, limbs n1 = a := ⟨_, rfl⟩
  obtain ⟨b, hb⟩ : ∃ b, limbs n2 = b := ⟨_, rfl⟩
  rw [ha] at i1 hge
  rw [hb] at i2 hge
  have r1 := i1.rd
  have r2 := i2.rd
  have k1 := i1.lim
  have V1' := Lib.hid i1.val
  have V2' := Lib.hid i2.val
  have ha' := Lib.hid ha; clear ha
  have hb' := Lib.hid hb; clear hb
  have hmk := made a.length (by omega)
  go_enter Tryz.func71, Tryz.ntmps71
  go_wp2_with (first | (go_at_call 98; (first | (with_reducible refine (trim_in _ _ _ _ _ h1 _ ha'.out).mono ?_) | (with_reducible refine (trim_in _ _ _ _ _ h2 _ hb'.out).mono ?_)); rintro e w' ⟨rfl, rfl⟩) | (go_at_call 62; (with_reducible refine (cmp_any _ _ _ _ _ _ _ _ _ i1 i2).mono ?_); rintro e w' ⟨rfl, m, rfl⟩))
  go_loopw [7, 23] (fun cr i wr => ∃ k c : Nat, k ≤ a.length ∧ i = .int .i64 (k : Int) ∧ cr = .int .u64 (c : Int) ∧ SubRel w wr w.heap.size k c a b) (fun _ i _ => a.length - (intOf i).toNat)
  case atStart =>
    exact ⟨0, 0, by omega, rfl, rfl, [], rfl, dig_nil, Blk.new (w.drewN m) _, by simp [val], by omega, (below_drewN (Below.refl _ _) _).alloc (Nat.le_refl _) _⟩
  case round =>
    obtain ⟨k, c, hk, rfl, rfl, hrel⟩ := hrel
    have hbe : Below w.heap.size w wr := by obtain ⟨_, _, _, _, _, _, h⟩ := hrel; exact h
    have hc1 : c ≤ 1 := by obtain ⟨_, _, _, _, _, h, _⟩ := hrel; exact h
    by_cases hlt : k < a.length
    · obtain ⟨hst, hfz⟩ := hrel.cell hlt
      obtain ⟨b1, o1, rfl, hlt1, hcx⟩ := (r1.keep hbe).at_ hlt
      obtain ⟨x, hx⟩ : ∃ x, a[k] = x := ⟨_, rfl⟩
      rw [hx] at hcx
      have hX := Lib.hid (getD_of hlt hx)
      have hxb : x < 4294967296 := by rw [← hx]; exact dig_get r1.1 hlt
      clear hx
      by_cases hltb : k < b.length
      · obtain ⟨b2, o2, rfl, hlt2, hcy⟩ := (r2.keep hbe).at_ hltb
        obtain ⟨y, hy⟩ : ∃ y, b[k] = y := ⟨_, rfl⟩
        rw [hy] at hcy
        have hY := Lib.hid (getD_of hltb hy)
        have hyb : y < 4294967296 := by rw [← hy]; exact dig_get r2.1 hltb
        clear hy
        go_wp2
        go_roundw
        case rel => exact ⟨k + 1, bor x (y + c), by omega, by go_num, vint (by rw [wrap_two]; exact bor_eq x (y + c) hxb (by omega)), hrel.step r1.1 r2.1 (Nat.le_refl _) hlt hX.out hY.out (by rw [wrap_two]; omega)⟩
        case measure => simp [intOf]; omega
      · have hY := Lib.hid (getD_out (l := b) (k := k) (by omega))
        go_wp2
        go_roundw
        case rel => exact ⟨k + 1, bor x (0 + c), by omega, by go_num, vint (by rw [wrap_one]; exact bor_eq x (0 + c) hxb (by omega)), hrel.step r1.1 r2.1 (Nat.le_refl _) hlt hX.out hY.out (by rw [wrap_one]; omega)⟩
        case measure => simp [intOf]; omega
    · obtain rfl : k = a.length := by omega
      obtain ⟨l, hin, hll, hbl⟩ := hrel.last hge (by rw [V1'.out, V2'.out]; exact hle) k1
      rw [V1'.out, V2'.out] at hin
      have hL := Lib.hid hll; clear hll
      go_wp2_with fail
      have ht := trim_raw _ _ _ _ _ hin _ rfl
      rw [hL.out] at ht
      refine ht.mono ?_
      clear ht
      rintro e w' ⟨rfl, rfl⟩
      go_wp2
      go_ret2
      exact ⟨_, _, rfl, hin.trim, hbl⟩
end Go.Proofs.YtnifjdhjimjihaaGreatDoor
