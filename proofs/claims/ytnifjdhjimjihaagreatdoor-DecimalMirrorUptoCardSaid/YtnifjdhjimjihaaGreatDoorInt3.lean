/- integer.Add, DivMod. -/
import Derived.Test.YtnifjdhjimjihaaGreatDoorInt2
namespace Go.Proofs.YtnifjdhjimjihaaGreatDoor
open Go.RowKit Lim
attribute [local go_sem ↓] Go.wp_at_zero Go.wp_at_succ

theorem sg_add {t : Bool} {z1 z2 : Int} (h1 : z1 = sg t z1.natAbs) (h2 : z2 = sg t z2.natAbs) : sg t (z1.natAbs + z2.natAbs) = z1 + z2 := by
  unfold sg at *; cases t <;> simp at * <;> omega
theorem sg_sub1 {t1 t2 : Bool} {z1 z2 : Int} (h1 : z1 = sg t1 z1.natAbs) (h2 : z2 = sg t2 z2.natAbs) (ht : t1 ≠ t2) (hle : z2.natAbs ≤ z1.natAbs) : sg t1 (z1.natAbs - z2.natAbs) = z1 + z2 := by
  unfold sg at *; cases t1 <;> cases t2 <;> simp at * <;> omega
theorem sg_sub2 {t1 t2 : Bool} {z1 z2 : Int} (h1 : z1 = sg t1 z1.natAbs) (h2 : z2 = sg t2 z2.natAbs) (ht : t1 ≠ t2) (hle : z1.natAbs ≤ z2.natAbs) : sg t2 (z2.natAbs - z1.natAbs) = z1 + z2 := by
  unfold sg at *; cases t1 <;> cases t2 <;> simp at * <;> omega

set_option maxHeartbeats 2000000 in
theorem iadd_same (t : Bool) (A1 A2 : Option Addr) (c1 c2 : Nat) (l1 l2 : List Nat) (z1 z2 : Int) (w : World) (h1 : InI w t A1 c1 l1 z1) (h2 : InI w t A2 c2 l2 z2) (hl : max (nlen z1.natAbs) (nlen z2.natAbs) + 1 < 1099511627776) :
    Calls Tryz.prog 36 #[.agg #[.bool t, .slice A1 l1.length c1], .agg #[.bool t, .slice A2 l2.length c2]] w (RetI w (z1 + z2)) := by
  have hbx := Boxes.new w t t (.slice A1 l1.length c1) (.slice A2 l2.length c2)
  have hbel : Below w.heap.size w (((w.alloc (.cells #[.bool t, .slice A1 l1.length c1] 25)).alloc (.cells #[.bool t, .slice A2 l2.length c2] 25)).alloc (.cells #[.bool false, .slice none 0 0] 25)) := (((Below.refl _ _).alloc (Nat.le_refl _) _).alloc (by simp) _).alloc (by simp; omega) _
  have hlm : nlen (z1.natAbs + z2.natAbs) < 1099511627776 := Nat.lt_of_le_of_lt (nlen_add _ _) hl
  have HM := Lib.hid (sg_add h1.sgn h2.sgn)
  clear hl
  go_enter Tryz.func36, Tryz.ntmps36
  go_wp2
  generalize hW : ((w.alloc (.cells #[.bool t, .slice A1 l1.length c1] 25)).alloc (.cells #[.bool t, .slice A2 l2.length c2] 25)).alloc (.cells #[.bool false, .slice none 0 0] 25) = W at *
  clear hW
  obtain ⟨k0, k1, k2, k3⟩ := hbx.cells
  have i1 : In W.drew A1 c1 l1 z1.natAbs := h1.mag.keep hbel.drew
  have i2 : In W.drew A2 c2 l2 z2.natAbs := h2.mag.keep hbel.drew
  have hbd := hbx.drew
  have hbeld := hbel.drew
  go_region_held3 (fun w' => w'.cell? ⟨w.heap.size, 0, none⟩ = some (.bool t) ∧ w'.cell? ⟨w.heap.size, 1, none⟩ = some (.slice A1 l1.length c1) ∧ w'.cell? ⟨w.heap.size + 1, 0, none⟩ = some (.bool t) ∧ w'.cell? ⟨w.heap.size + 1, 1, none⟩ = some (.slice A2 l2.length c2)) (first | exact hbx.cells | exact hbd.cells | exact (hbd.keep b1).cells | exact ((hbd.keep b1).keep b2).cells | exact ((hbd.keep b1).keep b2).cells_after _ _)
    (first
      | (go_at_call 58; (with_reducible refine (add_any _ _ _ _ _ _ _ _ _ i1 i2).mono ?_); rintro e w1 ⟨B, d, rfl, o1, b1⟩)
      | (go_at_call 31; (with_reducible refine (make_any _ _ _ _ _ _ (o1.toIn hlm)).mono ?_); rw [HM.out]; rintro e w2 ⟨t', B2, d2, l', rfl, o2, b2⟩; have hb1 := ((hbd.keep b1).keep b2).r; have e0 : w2.cell? ⟨w.heap.size + 1 + 1, 0, none⟩ = some (.bool false) := hb1.cell 0; have e1 : w2.cell? ⟨w.heap.size + 1 + 1, 1, none⟩ = some (.slice none 0 0) := hb1.cell 1; have f0 := hb1.frozen 0; have f1 := hb1.frozen 1))
  go_wp2
  obtain ⟨o3, b3⟩ := o2.stored hb1 rfl rfl
  exact bodyPost_ret (results_int Tryz.results36 rfl b3) rfl ⟨t', B2, d2, l', rfl, o3, Below.box2 ((hbeld.trans (b1.mono hbel.size)).trans (b2.mono (Nat.le_trans hbel.size b1.size))) (by omega) _ _⟩

set_option maxHeartbeats 2000000 in
theorem iadd_diff (t1 t2 : Bool) (A1 A2 : Option Addr) (c1 c2 : Nat) (l1 l2 : List Nat) (z1 z2 : Int) (w : World) (h1 : InI w t1 A1 c1 l1 z1) (h2 : InI w t2 A2 c2 l2 z2) (ht : t1 ≠ t2) :
    Calls Tryz.prog 36 #[.agg #[.bool t1, .slice A1 l1.length c1], .agg #[.bool t2, .slice A2 l2.length c2]] w (RetI w (z1 + z2)) := by
  have hbx := Boxes.new w t1 t2 (.slice A1 l1.length c1) (.slice A2 l2.length c2)
  have hbel : Below w.heap.size w (((w.alloc (.cells #[.bool t1, .slice A1 l1.length c1] 25)).alloc (.cells #[.bool t2, .slice A2 l2.length c2] 25)).alloc (.cells #[.bool false, .slice none 0 0] 25)) := (((Below.refl _ _).alloc (Nat.le_refl _) _).alloc (by simp) _).alloc (by simp; omega) _
  have hne : (t1 == t2) = false := by simpa using ht
  have q1 := h1.mag.nlen
  have q2 := h2.mag.nlen
  have i1 : In (((w.alloc (.cells #[.bool t1, .slice A1 l1.length c1] 25)).alloc (.cells #[.bool t2, .slice A2 l2.length c2] 25)).alloc (.cells #[.bool false, .slice none 0 0] 25)) A1 c1 l1 z1.natAbs := h1.mag.keep hbel
  have i2 : In (((w.alloc (.cells #[.bool t1, .slice A1 l1.length c1] 25)).alloc (.cells #[.bool t2, .slice A2 l2.length c2] 25)).alloc (.cells #[.bool false, .slice none 0 0] 25)) A2 c2 l2 z2.natAbs := h2.mag.keep hbel
  by_cases hle : z2.natAbs ≤ z1.natAbs
  · have HM := Lib.hid (sg_sub1 h1.sgn h2.sgn ht hle)
    have hlm : nlen (z1.natAbs - z2.natAbs) < 1099511627776 := Nat.lt_of_le_of_lt (nlen_mono (Nat.sub_le _ _)) q1
    clear ht
    go_enter Tryz.func36, Tryz.ntmps36
    go_wp2_with fail
    refine (sub_yes _ _ _ _ _ _ _ _ _ i1 i2 hle).mono ?_
    rintro e w1 ⟨B, d, rfl, o1, b1⟩
    obtain ⟨k0, k1, k2, k3⟩ := (hbx.keep b1).cells
    clear k1 k3
    go_wp2_with fail
    refine (make_any _ _ _ _ _ _ (o1.toIn hlm)).mono ?_
    rw [HM.out]
    rintro e w2 ⟨t', B2, d2, l', rfl, o2, b2⟩
    have hb1 := ((hbx.keep b1).keep b2).r
    have e0 : w2.cell? ⟨w.heap.size + 1 + 1, 0, none⟩ = some (.bool false) := hb1.cell 0
    have e1 : w2.cell? ⟨w.heap.size + 1 + 1, 1, none⟩ = some (.slice none 0 0) := hb1.cell 1
    have f0 := hb1.frozen 0
    have f1 := hb1.frozen 1
    go_wp2
    obtain ⟨o3, b3⟩ := o2.stored hb1 rfl rfl
    exact bodyPost_ret (results_int Tryz.results36 rfl b3) rfl ⟨t', B2, d2, l', rfl, o3, Below.box2 ((hbel.trans (b1.mono hbel.size)).trans (b2.mono (Nat.le_trans hbel.size b1.size))) (by omega) _ _⟩
  · have HM := Lib.hid (sg_sub2 h1.sgn h2.sgn ht (by omega))
    have hlm : nlen (z2.natAbs - z1.natAbs) < 1099511627776 := Nat.lt_of_le_of_lt (nlen_mono (Nat.sub_le _ _)) q2
    clear ht
    go_enter Tryz.func36, Tryz.ntmps36
    go_wp2_with fail
    refine (sub_no _ _ _ _ _ _ _ _ _ i1 i2 (by omega)).mono ?_
    rintro e w1 ⟨rfl, b1⟩
    obtain ⟨k0, k1, k2, k3⟩ := (hbx.keep b1).cells
    clear k0 k2
    go_wp2_with fail
    refine (sub_yes _ _ _ _ _ _ _ _ _ (i2.keep b1) (i1.keep b1) (by omega)).mono ?_
    rintro e w2 ⟨B, d, rfl, o1, b2⟩
    obtain ⟨k0, _, k2, _⟩ := ((hbx.keep b1).keep b2).cells
    go_wp2_with fail
    refine (make_any _ _ _ _ _ _ (o1.toIn hlm)).mono ?_
    rw [HM.out]
    rintro e w3 ⟨t', B2, d2, l', rfl, o2, b3⟩
    have hb1 := (((hbx.keep b1).keep b2).keep b3).r
    have e0 : w3.cell? ⟨w.heap.size + 1 + 1, 0, none⟩ = some (.bool false) := hb1.cell 0
    have e1 : w3.cell? ⟨w.heap.size + 1 + 1, 1, none⟩ = some (.slice none 0 0) := hb1.cell 1
    have f0 := hb1.frozen 0
    have f1 := hb1.frozen 1
    go_wp2
    obtain ⟨o3, b4⟩ := o2.stored hb1 rfl rfl
    exact bodyPost_ret (results_int Tryz.results36 rfl b4) rfl ⟨t', B2, d2, l', rfl, o3, Below.box2 (((hbel.trans (b1.mono hbel.size)).trans (b2.mono (Nat.le_trans hbel.size b1.size))).trans (b3.mono (Nat.le_trans (Nat.le_trans hbel.size b1.size) b2.size))) (by omega) _ _⟩

theorem iadd_any (t1 t2 : Bool) (A1 A2 : Option Addr) (c1 c2 : Nat) (l1 l2 : List Nat) (z1 z2 : Int) (w : World) (h1 : InI w t1 A1 c1 l1 z1) (h2 : InI w t2 A2 c2 l2 z2) (hl : max (nlen z1.natAbs) (nlen z2.natAbs) + 1 < 1099511627776) :
    Calls Tryz.prog 36 #[.agg #[.bool t1, .slice A1 l1.length c1], .agg #[.bool t2, .slice A2 l2.length c2]] w (RetI w (z1 + z2)) := by
  by_cases ht : t1 = t2
  · subst ht; exact iadd_same t1 A1 A2 c1 c2 l1 l2 z1 z2 w h1 h2 hl
  · exact iadd_diff t1 t2 A1 A2 c1 c2 l1 l2 z1 z2 w h1 h2 ht
end Go.Proofs.YtnifjdhjimjihaaGreatDoor
