/- nat.Mul. -/
import Derived.Test.YtnifjdhjimjihaaGreatDoorTrim
import Derived.Test.YtnifjdhjimjihaaGreatDoorKnuth
namespace Go.Proofs.YtnifjdhjimjihaaGreatDoor
open Go.RowKit Lim

/-- The outer loop's state: i limbs of a are multiplied. -/
def MulRel (w wr : World) (g i : Nat) (a b : List Nat) : Prop :=
  ∃ p : List Nat, p.length = i + b.length ∧ Dig p ∧ Blk wr g (p ++ List.replicate (a.length - i) 0) ∧ val p = val (a.take i) * val b ∧ Below w.heap.size w wr
/-- The inner loop's state: j limbs of b are multiplied by x. -/
def MulIn (w wr : World) (g i j c x z : Nat) (a b : List Nat) : Prop :=
  ∃ q : List Nat, q.length = i + b.length ∧ Dig q ∧ Blk wr g (q ++ List.replicate z 0) ∧ val q + c * pw (i + j) = val (a.take i) * val b + x * (pw i * val (b.take j)) ∧ c < 4294967296 ∧ Below w.heap.size w wr

theorem MulRel.start {w wr : World} {g i : Nat} {a b : List Nat} (h : MulRel w wr g i a b) (x : Nat) : MulIn w wr g i 0 0 x (a.length - i) a b := by
  obtain ⟨p, hl, hd, hb, hv, hbe⟩ := h
  exact ⟨p, hl, hd, hb, by simp [val, hv], by omega, hbe⟩
theorem MulIn.cell {w wr : World} {g i j c x z : Nat} {a b : List Nat} (h : MulIn w wr g i j c x z a b) (hj : j < b.length) : ∃ o, wr.cell? ⟨g, i + j, none⟩ = some (.int .u32 ((o : Nat) : Int)) ∧ wr.frozen? ⟨g, i + j, none⟩ = false ∧ o < 4294967296 ∧
    ∀ y t : Nat, b.getD j 0 = y → x < 4294967296 → y < 4294967296 → t = x * y + o + c → w.heap.size ≤ g → ∀ u : Int, u = ((t % 4294967296 : Nat) : Int) →
      MulIn w (wr.setCell ⟨g, i + j, none⟩ (.int .u32 u)) g i (j + 1) (t / 4294967296) x z a b := by
  obtain ⟨q, hl, hd, hb, hv, hc, hbe⟩ := h
  have hi : i + j < q.length := by omega
  refine ⟨q[i + j], ?_, hb.frozen _, dig_get hd hi, ?_⟩
  · have := hb.cell (i := i + j) (by simp; omega)
    rw [List.getElem_append_left hi] at this
    exact this
  · intro y t hy hx hyb ht hg u hu
    have ho := dig_get hd hi
    have hset := val_set q (i + j) (t % 4294967296) hi
    have hm : x * y ≤ 4294967295 * 4294967295 := Nat.mul_le_mul (by omega) (by omega)
    refine ⟨q.set (i + j) (t % 4294967296), by simp [hl], dig_set hd _ (by omega), ?_, ?_, by omega, hbe.setCell hg _⟩
    · have := hb.set (i + j) _ hu
      rw [List.set_append_left _ _ hi] at this
      exact this
    · have h1 := mul_step hset ht
      rw [← Nat.add_assoc, pw_succ, h1, hv, val_take_succ', hy, pw_add]
      grind
theorem MulIn.last {w wr : World} {g i c x z : Nat} {a b : List Nat} (h : MulIn w wr g i b.length c x (z + 1) a b) (hx : a.getD i 0 = x) (hz : a.length - (i + 1) = z) (hg : w.heap.size ≤ g) {u : Int} (hu : u = (c : Int)) :
    wr.cell? ⟨g, i + b.length, none⟩ = some (.int .u32 0) ∧ wr.frozen? ⟨g, i + b.length, none⟩ = false ∧ MulRel w (wr.setCell ⟨g, i + b.length, none⟩ (.int .u32 u)) g (i + 1) a b := by
  obtain ⟨q, hl, hd, hb, hv, hc, hbe⟩ := h
  refine ⟨?_, hb.frozen _, q ++ [c], by simp [hl]; omega, dig_snoc hd hc, ?_, ?_, hbe.setCell hg _⟩
  · have := hb.cell (i := i + b.length) (by simp; omega)
    rw [List.getElem_append_right (by omega)] at this
    simpa using this
  · have := hb.set (i + b.length) _ hu
    rw [← hl, set_here] at this
    rw [hz, ← hl]
    exact this
  · rw [List.take_of_length_le (Nat.le_refl _)] at hv
    rw [val_snoc, hl, val_take_succ', hx, Nat.mul_comm (pw _) c, hv]
    grind
theorem MulRel.last {w wr : World} {g : Nat} {a b : List Nat} (h : MulRel w wr g a.length a b) (hL : a.length + b.length ≤ 4398046511104) :
    ∃ l, Raw wr (some ⟨g, 0, none⟩) (a.length + b.length) l (val a * val b) ∧ l.length = a.length + b.length ∧ Below w.heap.size w wr := by
  obtain ⟨p, hl, hd, hb, hv, hbe⟩ := h
  rw [Nat.sub_self, List.replicate_zero, List.append_nil] at hb
  rw [List.take_of_length_le (Nat.le_refl _)] at hv
  exact ⟨p, ⟨hb.rd hd, by omega, by omega, hv⟩, hl, hbe⟩

set_option maxHeartbeats 1000000 in
theorem mul_any (A1 A2 : Option Addr) (c1 c2 n1 n2 : Nat) (l1 l2 : List Nat) (w : World) (h1 : In w A1 c1 l1 n1) (h2 : In w A2 c2 l2 n2) :
    Calls Tryz.prog 59 #[.slice A1 l1.length c1, .slice A2 l2.length c2] w fun e w' => ∃ A c, e = .returned (.slice A (limbs (n1 * n2)).length c) ∧ Out w' A c (n1 * n2) ∧ Below w.heap.size w w' := by
  have i1 := h1.trim.toIn h1.nlen
  have i2 := h2.trim.toIn h2.nlen
  obtain ⟨a, ha⟩ : ∃ a, limbs n1 = a := ⟨_, rfl⟩
  obtain ⟨b, hb⟩ : ∃ b, limbs n2 = b := ⟨_, rfl⟩
  rw [ha] at i1
  rw [hb] at i2
  have r1 := i1.rd
  have r2 := i2.rd
  have k1 := i1.lim
  have k2 := i2.lim
  have V1' := Lib.hid i1.val
  have V2' := Lib.hid i2.val
  have ha' := Lib.hid ha; clear ha
  have hb' := Lib.hid hb; clear hb
  have hmk := made (a.length + b.length) (by omega)
  rw [show ((a.length + b.length : Nat) : Int) = (a.length : Int) + (b.length : Int) from by omega] at hmk
  go_enter Tryz.func59, Tryz.ntmps59
  go_wp2_with (go_at_call 98; (first | (with_reducible refine (trim_in _ _ _ _ _ h1 _ ha'.out).mono ?_) | (with_reducible refine (trim_in _ _ _ _ _ h2 _ hb'.out).mono ?_)); rintro e w' ⟨rfl, rfl⟩)
  go_loopw [24] (fun i wr => ∃ k : Nat, k ≤ a.length ∧ i = .int .i64 (k : Int) ∧ MulRel w wr w.heap.size k a b) (fun i _ => a.length - (intOf i).toNat)
  case atStart =>
    exact ⟨0, by omega, rfl, List.replicate b.length 0, by simp, dig_replicate _, by rw [List.replicate_append_replicate, Nat.sub_zero, Nat.add_comm]; exact Blk.new w _, by rw [val_replicate]; simp [val], (Below.refl _ _).alloc (Nat.le_refl _) _⟩
  case round =>
    obtain ⟨k, hk, rfl, hout⟩ := hrel
    obtain ⟨wo, rfl⟩ : ∃ wo : World, wo = wr := ⟨_, rfl⟩
    by_cases hlt : k < a.length
    · have hbe : Below w.heap.size w wo := by obtain ⟨_, _, _, _, _, h⟩ := hout; exact h
      obtain ⟨b1, o1, rfl, hlt1, hcx⟩ := (r1.keep hbe).at_ hlt
      obtain ⟨x, hx⟩ : ∃ x, a[k] = x := ⟨_, rfl⟩
      rw [hx] at hcx
      have hX := Lib.hid (getD_of hlt hx)
      have hxb : x < 4294967296 := by rw [← hx]; exact dig_get r1.1 hlt
      clear hx
      go_wp2
      go_loopw [8, 31] (fun cr j wr => ∃ m c : Nat, m ≤ b.length ∧ j = .int .i64 (m : Int) ∧ cr = .int .u64 (c : Int) ∧ MulIn w wr w.heap.size k m c x (a.length - k) a b) (fun _ j _ => b.length - (intOf j).toNat)
      case atStart => exact ⟨0, 0, by omega, rfl, rfl, hout.start x⟩
      case round =>
        obtain ⟨m, c, hm, rfl, rfl, hrin⟩ := hrel
        have hbi : Below w.heap.size w wr := by obtain ⟨_, _, _, _, _, _, h⟩ := hrin; exact h
        have hcb : c < 4294967296 := by obtain ⟨_, _, _, _, _, h, _⟩ := hrin; exact h
        by_cases hltb : m < b.length
        · obtain ⟨b2, o2, rfl, hlt2, hcy⟩ := (r2.keep hbi).at_ hltb
          obtain ⟨y, hy⟩ : ∃ y, b[m] = y := ⟨_, rfl⟩
          rw [hy] at hcy
          have hY := Lib.hid (getD_of hltb hy)
          have hyb : y < 4294967296 := by rw [← hy]; exact dig_get r2.1 hltb
          clear hy
          obtain ⟨o, hoc, hof, hob, hstep⟩ := hrin.cell hltb
          have hst := Lib.hid (hstep y _ hY.out hxb hyb rfl (Nat.le_refl _))
          clear hstep
          have hmul : x * y ≤ 18446744065119617025 := Nat.mul_le_mul (show x ≤ 4294967295 by omega) (show y ≤ 4294967295 by omega)
          have hmi : (x : Int) * (y : Int) ≤ 18446744065119617025 := by rw [← Int.natCast_mul]; omega
          have hm0 : 0 ≤ (x : Int) * (y : Int) := by rw [← Int.natCast_mul]; omega
          go_wp2
          go_roundw
          case rel => exact ⟨m + 1, (x * y + o + c) / 4294967296, by omega, by go_num, vint (by rw [← Int.natCast_mul]; omega), hst.out _ (by rw [← Int.natCast_mul]; omega)⟩
          case measure => simp [intOf]; omega
        · obtain rfl : m = b.length := by omega
          obtain ⟨hoc, hof, hst⟩ := MulIn.last (z := a.length - (k + 1)) (by rw [show a.length - (k + 1) + 1 = a.length - k from by omega]; exact hrin) hX.out rfl (Nat.le_refl _) (u := (c : Int)) rfl
          go_wp2
          go_roundw
          case rel => exact ⟨k + 1, by omega, by go_num, hst⟩
          case measure => simp [intOf]; omega
    · obtain rfl : k = a.length := by omega
      obtain ⟨l, hin, hll, hbl⟩ := hout.last (by omega)
      rw [V1'.out, V2'.out] at hin
      have hL := Lib.hid hll; clear hll
      go_wp2_with fail
      have ht := trim_raw _ _ _ _ _ hin _ rfl
      rw [hL.out] at ht
      refine ht.mono ?_
      clear ht
      rintro e w' ⟨rfl, rfl⟩
      go_wp2
      go_ret
      exact ⟨_, _, rfl, hin.trim, hbl⟩
end Go.Proofs.YtnifjdhjimjihaaGreatDoor
