/- ratio.Make, Abs. -/
import Derived.Test.YtnifjdhjimjihaaGreatDoorRat2
namespace Go.Proofs.YtnifjdhjimjihaaGreatDoor
open Go.RowKit Lim
attribute [local go_sem ↓] Go.wp_at_zero Go.wp_at_succ

/-- The numerator over a positive denominator. -/
def mz (z1 z2 : Int) : Int := if z2 < 0 then -z1 else z1
theorem mz_abs (z1 z2 : Int) : (mz z1 z2).natAbs = z1.natAbs := by unfold mz; split <;> omega
theorem mz_sgn {t1 t2 : Bool} {z1 z2 : Int} (h1 : z1 = sg t1 z1.natAbs) (h2 : z2 = sg t2 z2.natAbs) (h0 : z2 ≠ 0) : sg (!(t1 == t2)) z1.natAbs = mz z1 z2 := by
  unfold sg at *; unfold mz
  cases t1 <;> cases t2 <;> simp at * <;> (split <;> omega)

/-- What a function that returns a ratio and true leaves. -/
def RetRT (w : World) (z : Int) (d : Nat) (e : Ending) (w' : World) : Prop :=
  ∃ t A c l B f m, e = .returned (.tuple #[.agg #[.bool t, .slice A l.length c, .slice B m.length f], .bool true]) ∧ OutI w' t A c l z ∧ Out w' B f d ∧ m = limbs d ∧ Below w.heap.size w w'
theorem results_ratT {fn : Func} {k k3 : Tmp} (h : fn.results = #[.cell k 27, .tmp k3]) {tmps : Array Value} {g : Nat} (hg : tmps.getD k undef = .pointer (some ⟨g, 0, none⟩)) {v : Value} (hz : tmps.getD k3 undef = v) {W : World} {x y z : Value} (hb : Box W g #[x, y, z] 27) :
    (results fn tmps).run Tryz.prog W = .ok (.tuple #[.agg #[x, y, z], v]) W := by
  have q0 : W.cell? ⟨g, 0, none⟩ = some x := hb.cell 0
  have q1 : W.cell? ⟨g, 1, none⟩ = some y := hb.cell 1
  have q2 : W.cell? ⟨g, 2, none⟩ = some z := hb.cell 2
  have hg' : tmps[k]?.getD undef = .pointer (some ⟨g, 0, none⟩) := by simpa using hg
  have hz' : tmps[k3]?.getD undef = v := by simpa using hz
  simp [results, h, go_sem, hg', hz', q0, q1, q2]
theorem RetRT.stored {w w2 : World} {g : Nat} {t : Bool} {A B : Option Addr} {c f d : Nat} {l m : List Nat} {z : Int} (o1 : OutI w2 t A c l z) (o2 : Out w2 B f d) (hm : m = limbs d) (hb : Box w2 g #[.bool false, .slice none 0 0, .slice none 0 0] 27) (hbe : Below w.heap.size w w2) (hg : w.heap.size ≤ g)
    {fn : Func} {k k3 : Tmp} (hr : fn.results = #[.cell k 27, .tmp k3]) {tmps : Array Value} (hk : tmps.getD k undef = .pointer (some ⟨g, 0, none⟩)) (hz : tmps.getD k3 undef = .bool true) :
    bodyPost Tryz.prog fn (RetRT w z d) .ret ⟨tmps, []⟩ (((w2.setCell ⟨g, 0, none⟩ (.bool t)).setCell ⟨g, 1, none⟩ (.slice A l.length c)).setCell ⟨g, 2, none⟩ (.slice B m.length f)) := by
  obtain ⟨o7, b7⟩ := o1.mag.box3 hb rfl rfl rfl (u := .bool t) (v := .slice A l.length c) (s := .slice B m.length f) rfl rfl
  obtain ⟨o8, _⟩ := o2.box3 hb rfl rfl rfl (u := .bool t) (v := .slice A l.length c) (s := .slice B m.length f) rfl rfl
  exact bodyPost_ret (results_ratT hr hk hz b7) rfl ⟨t, A, c, l, B, f, m, rfl, ⟨o7, o1.sgn, o1.lim⟩, o8, hm, Below.box3 hbe hg _ _ _⟩

/-- Two boxed integers and a result's box for a ratio. -/
structure BoxesR (W : World) (g : Nat) (t1 t2 : Bool) (v1 v2 : Value) : Prop where
  a : Box W g #[.bool t1, v1] 25
  b : Box W (g + 1) #[.bool t2, v2] 25
  r : Box W (g + 1 + 1) #[.bool false, .slice none 0 0, .slice none 0 0] 27
theorem BoxesR.new (w : World) (t1 t2 : Bool) (v1 v2 : Value) : BoxesR (((w.alloc (.cells #[.bool t1, v1] 25)).alloc (.cells #[.bool t2, v2] 25)).alloc (.cells #[.bool false, .slice none 0 0, .slice none 0 0] 27)) w.heap.size t1 t2 v1 v2 :=
  ⟨((Box.new w _ _).alloc _).alloc _, (by have := (Box.new (w.alloc (.cells #[.bool t1, v1] 25)) #[.bool t2, v2] 25).alloc (.cells #[.bool false, .slice none 0 0, .slice none 0 0] 27); rw [World.size_alloc] at this; exact this),
   (by have := Box.new ((w.alloc (.cells #[.bool t1, v1] 25)).alloc (.cells #[.bool t2, v2] 25)) #[.bool false, .slice none 0 0, .slice none 0 0] 27; rw [World.size_alloc, World.size_alloc] at this; exact this)⟩
theorem BoxesR.keep {W W' : World} {g : Nat} {t1 t2 : Bool} {v1 v2 : Value} (h : BoxesR W g t1 t2 v1 v2) (hb : Below W.heap.size W W') : BoxesR W' g t1 t2 v1 v2 := ⟨h.a.keep hb, h.b.keep hb, h.r.keep hb⟩
theorem BoxesR.cells {W : World} {g : Nat} {t1 t2 : Bool} {v1 v2 : Value} (h : BoxesR W g t1 t2 v1 v2) :
    W.cell? ⟨g, 0, none⟩ = some (.bool t1) ∧ W.cell? ⟨g, 1, none⟩ = some v1 ∧ W.cell? ⟨g + 1, 0, none⟩ = some (.bool t2) ∧ W.cell? ⟨g + 1, 1, none⟩ = some v2 :=
  ⟨h.a.cell 0, h.a.cell 1, h.b.cell 0, h.b.cell 1⟩
theorem BoxesR.cells_after {W : World} {g : Nat} {t1 t2 : Bool} {v1 v2 : Value} (h : BoxesR W g t1 t2 v1 v2) (x y z : Value) :
    (((W.setCell ⟨g + 1 + 1, 0, none⟩ x).setCell ⟨g + 1 + 1, 1, none⟩ y).setCell ⟨g + 1 + 1, 2, none⟩ z).cell? ⟨g, 0, none⟩ = some (.bool t1) ∧ (((W.setCell ⟨g + 1 + 1, 0, none⟩ x).setCell ⟨g + 1 + 1, 1, none⟩ y).setCell ⟨g + 1 + 1, 2, none⟩ z).cell? ⟨g, 1, none⟩ = some v1 ∧ (((W.setCell ⟨g + 1 + 1, 0, none⟩ x).setCell ⟨g + 1 + 1, 1, none⟩ y).setCell ⟨g + 1 + 1, 2, none⟩ z).cell? ⟨g + 1, 0, none⟩ = some (.bool t2) ∧ (((W.setCell ⟨g + 1 + 1, 0, none⟩ x).setCell ⟨g + 1 + 1, 1, none⟩ y).setCell ⟨g + 1 + 1, 2, none⟩ z).cell? ⟨g + 1, 1, none⟩ = some v2 := by
  have ha := ((h.a.far (p := ⟨g + 1 + 1, 0, none⟩) (by simp; omega) x).far (p := ⟨g + 1 + 1, 1, none⟩) (by simp; omega) y).far (p := ⟨g + 1 + 1, 2, none⟩) (by simp; omega) z
  have hb := ((h.b.far (p := ⟨g + 1 + 1, 0, none⟩) (by simp) x).far (p := ⟨g + 1 + 1, 1, none⟩) (by simp) y).far (p := ⟨g + 1 + 1, 2, none⟩) (by simp) z
  exact ⟨ha.cell 0, ha.cell 1, hb.cell 0, hb.cell 1⟩

set_option maxHeartbeats 2000000 in
theorem rmake_any (t1 t2 : Bool) (A1 A2 : Option Addr) (c1 c2 : Nat) (l1 l2 : List Nat) (z1 z2 : Int) (w : World) (h1 : InI w t1 A1 c1 l1 z1) (h2 : InI w t2 A2 c2 l2 z2) (h0 : z2 ≠ 0) :
    Calls Tryz.prog 66 #[.agg #[.bool t1, .slice A1 l1.length c1], .agg #[.bool t2, .slice A2 l2.length c2]] w (RetRT w (rn (mz z1 z2) z2.natAbs) (rd (mz z1 z2) z2.natAbs)) := by
  have hbx := BoxesR.new w t1 t2 (.slice A1 l1.length c1) (.slice A2 l2.length c2)
  have hbel : Below w.heap.size w (((w.alloc (.cells #[.bool t1, .slice A1 l1.length c1] 25)).alloc (.cells #[.bool t2, .slice A2 l2.length c2] 25)).alloc (.cells #[.bool false, .slice none 0 0, .slice none 0 0] 27)) := (((Below.refl _ _).alloc (Nat.le_refl _) _).alloc (by simp) _).alloc (by simp; omega) _
  have j2 := h2.keep hbel
  have hs0 : (sgnI z2 == 0) = false := by unfold sgnI; simp; split <;> (try split) <;> omega
  have HM := Lib.hid (mz_sgn h1.sgn h2.sgn h0)
  have hlm : nlen (mz z1 z2).natAbs < 1099511627776 := by rw [mz_abs]; exact h1.mag.nlen
  go_enter Tryz.func66, Tryz.ntmps66
  go_wp2_with fail
  refine (sign_any _ _ _ _ _ _ j2).mono ?_
  rintro e W ⟨rfl, b0⟩
  have hbx1 := hbx.keep b0
  have bw : Below w.heap.size w W := hbel.trans (b0.mono hbel.size)
  clear hbx hbel j2 b0
  obtain ⟨k0, k1, k2, k3⟩ := hbx1.cells
  go_wp2_with fail
  have bd : Below W.heap.size W W.drew := (Below.refl _ _).drew
  have hbd := hbx1.keep bd
  have MK := Lib.hid (make_any (!(t1 == t2)) A1 c1 _ l1 W.drew ((h1.mag.keep bw).keep bd))
  have j2 := h2.mag.keep bw
  go_region_held3 (fun w' => w'.cell? ⟨w.heap.size, 0, none⟩ = some (.bool t1) ∧ w'.cell? ⟨w.heap.size, 1, none⟩ = some (.slice A1 l1.length c1) ∧ w'.cell? ⟨w.heap.size + 1, 0, none⟩ = some (.bool t2) ∧ w'.cell? ⟨w.heap.size + 1, 1, none⟩ = some (.slice A2 l2.length c2)) (with_reducible first | exact hbx1.cells | exact hbd.cells | exact (hbx1.keep q1).cells | exact (hbx1.keep q2).cells | exact (hbx1.keep q2).cells_after _ _ _)
    (first
      | (go_at_call 31; (with_reducible refine MK.out.mono ?_); rw [HM.out]; rintro e v1 ⟨ta, Aa, ca, la, rfl, oa, ba⟩; have q1 : Below W.heap.size W v1 := bd.trans ba)
      | (go_at_call 64; (with_reducible refine (reduce_any _ _ _ _ _ _ _ _ _ _ (oa.toIn hlm) (j2.keep q1) (Int.natAbs_pos.2 h0)).mono ?_); rintro e v2 ⟨tb, Ab, cb, lb, Bb, fb, mb, rfl, ob, oc, hm, bb⟩; have q2 : Below W.heap.size W v2 := q1.trans (bb.mono q1.size); have HL := Lib.hid hm; clear hm; have hb1 := (hbx1.keep q2).r; have e0 : v2.cell? ⟨w.heap.size + 1 + 1, 0, none⟩ = some (.bool false) := hb1.cell 0; have e1 : v2.cell? ⟨w.heap.size + 1 + 1, 1, none⟩ = some (.slice none 0 0) := hb1.cell 1; have e2 : v2.cell? ⟨w.heap.size + 1 + 1, 2, none⟩ = some (.slice none 0 0) := hb1.cell 2; have f0 := hb1.frozen 0; have f1 := hb1.frozen 1; have f2 := hb1.frozen 2))
  go_wp2
  exact RetRT.stored ob oc HL.out hb1 (bw.trans (q2.mono bw.size)) (by omega) Tryz.results66 rfl rfl

set_option maxHeartbeats 1000000 in
theorem rabs_any (t : Bool) (A B : Option Addr) (c f d : Nat) (l m : List Nat) (z : Int) (w : World) (h : InR w t A c l B f m z d) :
    Calls Tryz.prog 25 #[.agg #[.bool t, .slice A l.length c, .slice B m.length f]] w (RetR w (rn ((pz z d).natAbs : Int) (pd d)) (rd ((pz z d).natAbs : Int) (pd d))) := by
  have hbel : Below w.heap.size w ((w.alloc (.cells #[.bool t, .slice A l.length c, .slice B m.length f] 27)).alloc (.cells #[.bool false, .slice none 0 0, .slice none 0 0] 27)) := ((Below.refl _ _).alloc (Nat.le_refl _) _).alloc (by simp) _
  have h' := h.keep hbel
  have br := Box.new (w.alloc (.cells #[.bool t, .slice A l.length c, .slice B m.length f] 27)) #[.bool false, .slice none 0 0, .slice none 0 0] 27
  rw [World.size_alloc] at br
  go_enter Tryz.func25, Tryz.ntmps25
  go_wp2_with fail
  refine (parts_any _ _ _ _ _ _ _ _ _ _ h'.num h'.den).mono ?_
  rintro e w1 ⟨t1, A1, c1, l1, B1, f1, m1, rfl, i1, i2, b1⟩
  have ba : Below w1.heap.size w1 (w1.alloc (.cells #[.bool t1, .slice A1 l1.length c1] 25)) := (Below.refl _ _).alloc (Nat.le_refl _) _
  go_wp2_with fail
  refine (whole_any _ _ _ _ _ (i1.mag.keep ba)).mono ?_
  rintro e w2 ⟨t2, A2, c2, l2, rfl, o1, b2⟩
  have b02 := ba.trans (b2.mono ba.size)
  go_wp2_with fail
  have hl2 : nlen ((pz z d).natAbs : Int).natAbs < 1099511627776 := by rw [Int.natAbs_natCast]; exact i1.mag.nlen
  refine (reduce_any _ _ _ _ _ _ _ _ _ _ (o1.toIn hl2) (i2.keep b02) (pd_pos _)).mono ?_
  rintro e w3 ⟨t3, A3, c3, l3, B3, f3, m3, rfl, o3, o4, hm, b3⟩
  have b03 := (b1.trans (b02.mono b1.size)).trans (b3.mono (Nat.le_trans b1.size b02.size))
  have hb1 := br.keep b03
  have e0 : w3.cell? ⟨w.heap.size + 1, 0, none⟩ = some (.bool false) := hb1.cell 0
  have e1 : w3.cell? ⟨w.heap.size + 1, 1, none⟩ = some (.slice none 0 0) := hb1.cell 1
  have e2 : w3.cell? ⟨w.heap.size + 1, 2, none⟩ = some (.slice none 0 0) := hb1.cell 2
  have g0 := hb1.frozen 0
  have g1 := hb1.frozen 1
  have g2 := hb1.frozen 2
  have HM := Lib.hid hm; clear hm
  go_wp2
  exact RetR.stored o3 o4 HM.out hb1 (hbel.trans (b03.mono hbel.size)) (by omega) Tryz.results25 rfl
end Go.Proofs.YtnifjdhjimjihaaGreatDoor
