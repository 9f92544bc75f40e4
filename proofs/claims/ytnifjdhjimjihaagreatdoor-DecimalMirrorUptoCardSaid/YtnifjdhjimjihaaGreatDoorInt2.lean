/- integer.Cmp, Add, Sub, Mul, DivMod. -/
import Derived.Test.YtnifjdhjimjihaaGreatDoorInt
import Derived.Test.YtnifjdhjimjihaaGreatDoorAdd
import Derived.Test.YtnifjdhjimjihaaGreatDoorSub
namespace Go.Proofs.YtnifjdhjimjihaaGreatDoor
open Go.RowKit Lim
attribute [local go_sem ↓] Go.wp_at_zero Go.wp_at_succ

/-- Two integers in their boxes, and the result's box. -/
structure Boxes (W : World) (g : Nat) (t1 t2 : Bool) (v1 v2 : Value) : Prop where
  a : Box W g #[.bool t1, v1] 25
  b : Box W (g + 1) #[.bool t2, v2] 25
  r : Box W (g + 2) #[.bool false, .slice none 0 0] 25
theorem Boxes.new (w : World) (t1 t2 : Bool) (v1 v2 : Value) : Boxes (((w.alloc (.cells #[.bool t1, v1] 25)).alloc (.cells #[.bool t2, v2] 25)).alloc (.cells #[.bool false, .slice none 0 0] 25)) w.heap.size t1 t2 v1 v2 :=
  ⟨((Box.new w _ _).alloc _).alloc _, (by have := (Box.new (w.alloc (.cells #[.bool t1, v1] 25)) #[.bool t2, v2] 25).alloc (.cells #[.bool false, .slice none 0 0] 25); rw [World.size_alloc] at this; exact this),
   (by have := Box.new ((w.alloc (.cells #[.bool t1, v1] 25)).alloc (.cells #[.bool t2, v2] 25)) #[.bool false, .slice none 0 0] 25; rw [World.size_alloc, World.size_alloc] at this; exact this)⟩
theorem Boxes.keep {W W' : World} {g : Nat} {t1 t2 : Bool} {v1 v2 : Value} (h : Boxes W g t1 t2 v1 v2) (hb : Below W.heap.size W W') : Boxes W' g t1 t2 v1 v2 := ⟨h.a.keep hb, h.b.keep hb, h.r.keep hb⟩
theorem Boxes.drew {W : World} {g : Nat} {t1 t2 : Bool} {v1 v2 : Value} (h : Boxes W g t1 t2 v1 v2) : Boxes W.drew g t1 t2 v1 v2 := ⟨h.a, h.b, h.r⟩
theorem Boxes.cells {W : World} {g : Nat} {t1 t2 : Bool} {v1 v2 : Value} (h : Boxes W g t1 t2 v1 v2) :
    W.cell? ⟨g, 0, none⟩ = some (.bool t1) ∧ W.cell? ⟨g, 1, none⟩ = some v1 ∧ W.cell? ⟨g + 1, 0, none⟩ = some (.bool t2) ∧ W.cell? ⟨g + 1, 1, none⟩ = some v2 :=
  ⟨h.a.cell 0, h.a.cell 1, h.b.cell 0, h.b.cell 1⟩

theorem Boxes.cells_after {W : World} {g : Nat} {t1 t2 : Bool} {v1 v2 : Value} (h : Boxes W g t1 t2 v1 v2) (x y : Value) :
    ((W.setCell ⟨g + 1 + 1, 0, none⟩ x).setCell ⟨g + 1 + 1, 1, none⟩ y).cell? ⟨g, 0, none⟩ = some (.bool t1) ∧ ((W.setCell ⟨g + 1 + 1, 0, none⟩ x).setCell ⟨g + 1 + 1, 1, none⟩ y).cell? ⟨g, 1, none⟩ = some v1 ∧ ((W.setCell ⟨g + 1 + 1, 0, none⟩ x).setCell ⟨g + 1 + 1, 1, none⟩ y).cell? ⟨g + 1, 0, none⟩ = some (.bool t2) ∧ ((W.setCell ⟨g + 1 + 1, 0, none⟩ x).setCell ⟨g + 1 + 1, 1, none⟩ y).cell? ⟨g + 1, 1, none⟩ = some v2 := by
  have ha := (h.a.far (p := ⟨g + 1 + 1, 0, none⟩) (by simp; omega) x).far (p := ⟨g + 1 + 1, 1, none⟩) (by simp; omega) y
  have hb := (h.b.far (p := ⟨g + 1 + 1, 0, none⟩) (by simp) x).far (p := ⟨g + 1 + 1, 1, none⟩) (by simp) y
  exact ⟨ha.cell 0, ha.cell 1, hb.cell 0, hb.cell 1⟩
theorem sg_mul {t1 t2 : Bool} {z1 z2 : Int} (h1 : z1 = sg t1 z1.natAbs) (h2 : z2 = sg t2 z2.natAbs) : sg (!(t1 == t2)) (z1.natAbs * z2.natAbs) = z1 * z2 := by
  generalize z1.natAbs = a at *
  generalize z2.natAbs = b at *
  subst h1 h2
  cases t1 <;> cases t2 <;> simp [sg, Int.neg_mul, Int.mul_neg]

set_option maxHeartbeats 1000000 in
theorem imul_any (t1 t2 : Bool) (A1 A2 : Option Addr) (c1 c2 : Nat) (l1 l2 : List Nat) (z1 z2 : Int) (w : World) (h1 : InI w t1 A1 c1 l1 z1) (h2 : InI w t2 A2 c2 l2 z2) (hl : nlen z1.natAbs + nlen z2.natAbs < 1099511627776) :
    Calls Tryz.prog 33 #[.agg #[.bool t1, .slice A1 l1.length c1], .agg #[.bool t2, .slice A2 l2.length c2]] w (RetI w (z1 * z2)) := by
  have hbx := Boxes.new w t1 t2 (.slice A1 l1.length c1) (.slice A2 l2.length c2)
  have hbel : Below w.heap.size w (((w.alloc (.cells #[.bool t1, .slice A1 l1.length c1] 25)).alloc (.cells #[.bool t2, .slice A2 l2.length c2] 25)).alloc (.cells #[.bool false, .slice none 0 0] 25)) := (((Below.refl _ _).alloc (Nat.le_refl _) _).alloc (by simp) _).alloc (by simp; omega) _
  go_enter Tryz.func33, Tryz.ntmps33
  go_wp2
  generalize hW : ((w.alloc (.cells #[.bool t1, .slice A1 l1.length c1] 25)).alloc (.cells #[.bool t2, .slice A2 l2.length c2] 25)).alloc (.cells #[.bool false, .slice none 0 0] 25) = W at *
  clear hW
  obtain ⟨k0, k1, k2, k3⟩ := hbx.cells
  have i1 : In W.drew A1 c1 l1 z1.natAbs := h1.mag.keep hbel.drew
  have i2 : In W.drew A2 c2 l2 z2.natAbs := h2.mag.keep hbel.drew
  have hbd := hbx.drew
  have hbeld := hbel.drew
  have hlm : nlen (z1.natAbs * z2.natAbs) < 1099511627776 := Nat.lt_of_le_of_lt (nlen_mul _ _) hl
  have HM := Lib.hid (sg_mul h1.sgn h2.sgn)
  go_region_held3 (fun w' => w'.cell? ⟨w.heap.size, 0, none⟩ = some (.bool t1) ∧ w'.cell? ⟨w.heap.size, 1, none⟩ = some (.slice A1 l1.length c1) ∧ w'.cell? ⟨w.heap.size + 1, 0, none⟩ = some (.bool t2) ∧ w'.cell? ⟨w.heap.size + 1, 1, none⟩ = some (.slice A2 l2.length c2)) (first | exact hbx.cells | exact hbd.cells | exact (hbd.keep b1).cells | exact ((hbd.keep b1).keep b2).cells | exact ((hbd.keep b1).keep b2).cells_after _ _)
    (first
      | (go_at_call 59; (with_reducible refine (mul_any _ _ _ _ _ _ _ _ _ i1 i2).mono ?_); rintro e w1 ⟨B, d, rfl, o1, b1⟩)
      | (go_at_call 31; (with_reducible refine (make_any _ _ _ _ _ _ (o1.toIn hlm)).mono ?_); rw [HM.out]; rintro e w2 ⟨t', B2, d2, l', rfl, o2, b2⟩; have hb1 := ((hbd.keep b1).keep b2).r; have e0 : w2.cell? ⟨w.heap.size + 1 + 1, 0, none⟩ = some (.bool false) := hb1.cell 0; have e1 : w2.cell? ⟨w.heap.size + 1 + 1, 1, none⟩ = some (.slice none 0 0) := hb1.cell 1; have f0 := hb1.frozen 0; have f1 := hb1.frozen 1))
  go_wp2
  obtain ⟨o3, b3⟩ := o2.stored hb1 rfl rfl
  exact bodyPost_ret (results_int Tryz.results33 rfl b3) rfl ⟨t', B2, d2, l', rfl, o3, Below.box2 ((hbeld.trans (b1.mono hbel.size)).trans (b2.mono (Nat.le_trans hbel.size b1.size))) (by omega) _ _⟩

/-- Go's comparison of integers. -/
def cmpZ (a b : Int) : Int := if a < b then -1 else if b < a then 1 else 0
theorem sgnI_bd (z : Int) : -1 ≤ sgnI z ∧ sgnI z ≤ 1 := by unfold sgnI; split <;> (try split) <;> omega
theorem cmpZ_lt {a b : Int} (h : sgnI a < sgnI b) : cmpZ a b = -1 := by
  unfold sgnI at h; unfold cmpZ; rw [if_pos]; split at h <;> (try split at h) <;> (try split at h) <;> (try split at h) <;> omega
theorem cmpZ_gt {a b : Int} (h : sgnI b < sgnI a) : cmpZ a b = 1 := by
  unfold sgnI at h; unfold cmpZ; rw [if_neg, if_pos] <;> (split at h <;> (try split at h) <;> (try split at h) <;> (try split at h) <;> omega)
theorem cmpZ_eq {a b : Int} (h : sgnI a = sgnI b) : sgnI a * cmpI a.natAbs b.natAbs = cmpZ a b := by
  by_cases h1 : a < 0
  · have h2 : b < 0 := by unfold sgnI at h; rw [if_pos h1] at h; split at h <;> (try split at h) <;> omega
    have : sgnI a = -1 := by unfold sgnI; rw [if_pos h1]
    rw [this]
    unfold cmpI cmpZ
    by_cases h3 : a < b
    · rw [if_neg (by omega), if_pos (by omega), if_pos h3]; rfl
    · rw [if_neg h3]
      by_cases h4 : b < a
      · rw [if_pos (by omega), if_pos h4]; rfl
      · rw [if_neg (by omega), if_neg (by omega), if_neg h4]; rfl
  · by_cases h0 : 0 < a
    · have h2 : 0 < b := by unfold sgnI at h; rw [if_neg h1, if_pos h0] at h; split at h <;> (try split at h) <;> omega
      have : sgnI a = 1 := by unfold sgnI; rw [if_neg h1, if_pos h0]
      rw [this, Int.one_mul]
      unfold cmpI cmpZ
      by_cases h3 : a < b
      · rw [if_pos (by omega), if_pos h3]
      · rw [if_neg (by omega), if_neg h3]
        by_cases h4 : b < a
        · rw [if_pos (by omega), if_pos h4]
        · rw [if_neg (by omega), if_neg h4]
    · have ha : a = 0 := by omega
      subst ha
      have h2 : b = 0 := by unfold sgnI at h; rw [if_neg h1, if_neg h0] at h; split at h <;> (try split at h) <;> omega
      subst h2
      simp [sgnI, cmpZ]

set_option maxHeartbeats 2000000 in
theorem icmp_any (t1 t2 : Bool) (A1 A2 : Option Addr) (c1 c2 : Nat) (l1 l2 : List Nat) (z1 z2 : Int) (w : World) (h1 : InI w t1 A1 c1 l1 z1) (h2 : InI w t2 A2 c2 l2 z2) :
    Calls Tryz.prog 18 #[.agg #[.bool t1, .slice A1 l1.length c1], .agg #[.bool t2, .slice A2 l2.length c2]] w fun e w' => e = .returned (.int .i64 (cmpZ z1 z2)) ∧ Below w.heap.size w w' := by
  have ba : Box ((w.alloc (.cells #[.bool t1, .slice A1 l1.length c1] 25)).alloc (.cells #[.bool t2, .slice A2 l2.length c2] 25)) w.heap.size #[.bool t1, .slice A1 l1.length c1] 25 := (Box.new w _ _).alloc _
  have bb : Box ((w.alloc (.cells #[.bool t1, .slice A1 l1.length c1] 25)).alloc (.cells #[.bool t2, .slice A2 l2.length c2] 25)) (w.heap.size + 1) #[.bool t2, .slice A2 l2.length c2] 25 := by
    have := Box.new (w.alloc (.cells #[.bool t1, .slice A1 l1.length c1] 25)) #[.bool t2, .slice A2 l2.length c2] 25
    rw [World.size_alloc] at this; exact this
  have hbel : Below w.heap.size w ((w.alloc (.cells #[.bool t1, .slice A1 l1.length c1] 25)).alloc (.cells #[.bool t2, .slice A2 l2.length c2] 25)) := ((Below.refl _ _).alloc (Nat.le_refl _) _).alloc (by simp) _
  go_enter Tryz.func18, Tryz.ntmps18
  go_wp2
  generalize hW : (w.alloc (.cells #[.bool t1, .slice A1 l1.length c1] 25)).alloc (.cells #[.bool t2, .slice A2 l2.length c2] 25) = W at *
  clear hW
  have S1 := Lib.hid (fun (W' : World) (hb : Below W.heap.size W W') => sign_any t1 A1 c1 l1 z1 W' ((h1.keep hbel).keep hb))
  have S2 := Lib.hid (fun (W' : World) (hb : Below W.heap.size W W') => sign_any t2 A2 c2 l2 z2 W' ((h2.keep hbel).keep hb))
  have bd : Below W.heap.size W W.drew := (Below.refl _ _).drew
  have KK := Lib.hid (fun (W' : World) (hb : Below W.heap.size W W') => (⟨(ba.keep hb).cell 0, (ba.keep hb).cell 1, (bb.keep hb).cell 0, (bb.keep hb).cell 1⟩ : W'.cell? ⟨w.heap.size, 0, none⟩ = some (.bool t1) ∧ W'.cell? ⟨w.heap.size, 1, none⟩ = some (.slice A1 l1.length c1) ∧ W'.cell? ⟨w.heap.size + 1, 0, none⟩ = some (.bool t2) ∧ W'.cell? ⟨w.heap.size + 1, 1, none⟩ = some (.slice A2 l2.length c2)))
  obtain ⟨k0, k1, k2, k3⟩ := KK.out W (Below.refl _ _)
  go_region_held3 (fun w' => w'.cell? ⟨w.heap.size, 0, none⟩ = some (.bool t1) ∧ w'.cell? ⟨w.heap.size, 1, none⟩ = some (.slice A1 l1.length c1) ∧ w'.cell? ⟨w.heap.size + 1, 0, none⟩ = some (.bool t2) ∧ w'.cell? ⟨w.heap.size + 1, 1, none⟩ = some (.slice A2 l2.length c2)) (first | exact KK.out _ (Below.refl _ _) | exact KK.out _ bd | exact KK.out _ b1' | exact KK.out _ (b1'.trans (b2.mono b1'.size)))
    ((go_at_call 35; (first | ((with_reducible refine (S1.out _ bd).mono ?_); rintro e w1 ⟨rfl, b1⟩; have b1' : Below W.heap.size W w1 := bd.trans b1) | ((with_reducible refine (S2.out _ bd).mono ?_); rintro e w1 ⟨rfl, b1⟩; have b1' : Below W.heap.size W w1 := bd.trans b1) | ((with_reducible refine (S1.out _ b1').mono ?_); rintro e w2 ⟨rfl, b2⟩) | ((with_reducible refine (S2.out _ b1').mono ?_); rintro e w2 ⟨rfl, b2⟩))))
  all_goals
    have b2' : Below W.heap.size W w2 := b1'.trans (b2.mono b1'.size)
    obtain ⟨k0, k1, k2, k3⟩ := KK.out w2 b2'
    have i1 : In w2 A1 c1 l1 z1.natAbs := (h1.mag.keep hbel).keep b2'
    have i2 : In w2 A2 c2 l2 z2.natAbs := (h2.mag.keep hbel).keep b2'
    have hfin : Below w.heap.size w w2 := hbel.trans (b2'.mono hbel.size)
    clear k0 k2
    by_cases hlt : sgnI z1 < sgnI z2
    · have hc := Lib.hid (cmpZ_lt hlt)
      go_wp2
      go_ret
      exact ⟨by rw [hc.out]; rfl, hfin⟩
    by_cases hgt : sgnI z2 < sgnI z1
    · have hc := Lib.hid (cmpZ_gt hgt)
      go_wp2
      go_ret
      exact ⟨by rw [hc.out]; rfl, hfin⟩
    have hc := Lib.hid (cmpZ_eq (show sgnI z1 = sgnI z2 by omega))
    have hbd : -1 ≤ sgnI z1 * cmpI z1.natAbs z2.natAbs ∧ sgnI z1 * cmpI z1.natAbs z2.natAbs ≤ 1 := by
      rw [hc.out]; unfold cmpZ; split <;> (try split) <;> omega
    obtain ⟨d0, d1⟩ := hbd
    go_wp2_with (go_at_call 62; (with_reducible refine (cmp_any _ _ _ _ _ _ _ _ _ i1 i2).mono ?_); rintro e w3 ⟨rfl, m, rfl⟩)
    go_ret
    exact ⟨by rw [← hc.out]; rfl, below_drewN hfin _⟩
end Go.Proofs.YtnifjdhjimjihaaGreatDoor
