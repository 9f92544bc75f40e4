/- integer.DivMod, by a positive divisor. -/
import Derived.Test.YtnifjdhjimjihaaGreatDoorInt3
namespace Go.Proofs.YtnifjdhjimjihaaGreatDoor
open Go.RowKit Lim
attribute [local go_sem ↓] Go.wp_at_zero Go.wp_at_succ

theorem results_div {fn : Func} {k1 k2 k3 : Tmp} (h : fn.results = #[.cell k1 25, .cell k2 25, .tmp k3]) {tmps : Array Value} {g1 g2 : Nat} (hg1 : tmps.getD k1 undef = .pointer (some ⟨g1, 0, none⟩)) (hg2 : tmps.getD k2 undef = .pointer (some ⟨g2, 0, none⟩)) {W : World} {x y u v z : Value} (hz : tmps.getD k3 undef = z) (hb1 : Box W g1 #[x, y] 25) (hb2 : Box W g2 #[u, v] 25) :
    (results fn tmps).run Tryz.prog W = .ok (.tuple #[.agg #[x, y], .agg #[u, v], z]) W := by
  have q0 : W.cell? ⟨g1, 0, none⟩ = some x := hb1.cell 0
  have q1 : W.cell? ⟨g1, 1, none⟩ = some y := hb1.cell 1
  have q2 : W.cell? ⟨g2, 0, none⟩ = some u := hb2.cell 0
  have q3 : W.cell? ⟨g2, 1, none⟩ = some v := hb2.cell 1
  have hg1' : tmps[k1]?.getD undef = .pointer (some ⟨g1, 0, none⟩) := by simpa using hg1
  have hg2' : tmps[k2]?.getD undef = .pointer (some ⟨g2, 0, none⟩) := by simpa using hg2
  have hz' : tmps[k3]?.getD undef = z := by simpa using hz
  simp [results, h, go_sem, hg1', hg2', hz', q0, q1, q2, q3]

theorem OutI.stored_far {w1 : World} {t : Bool} {A : Option Addr} {c : Nat} {l : List Nat} {z : Int} {g : Nat} {x y : Value} (h : OutI w1 t A c l z) (hb : Box w1 g #[x, y] 25) (hx : noLimb x = true) (hy : noLimb y = true) {u : Value} (hu : noLimb u = true) (v : Value) :
    OutI ((w1.setCell ⟨g, 0, none⟩ u).setCell ⟨g, 1, none⟩ v) t A c l z := ⟨(h.mag.box2 hb hx hy hu).1, h.sgn, h.lim⟩

/-- The boxes of DivMod. -/
structure Boxes4 (W : World) (g : Nat) (t1 t2 : Bool) (v1 v2 : Value) : Prop where
  a : Box W g #[.bool t1, v1] 25
  b : Box W (g + 1) #[.bool t2, v2] 25
  q : Box W (g + 1 + 1) #[.bool false, .slice none 0 0] 25
  r : Box W (g + 1 + 1 + 1) #[.bool false, .slice none 0 0] 25
theorem Boxes4.keep {W W' : World} {g : Nat} {t1 t2 : Bool} {v1 v2 : Value} (h : Boxes4 W g t1 t2 v1 v2) (hb : Below W.heap.size W W') : Boxes4 W' g t1 t2 v1 v2 := ⟨h.a.keep hb, h.b.keep hb, h.q.keep hb, h.r.keep hb⟩
theorem Boxes4.new (w : World) (t1 t2 : Bool) (v1 v2 : Value) : Boxes4 ((((w.alloc (.cells #[.bool t1, v1] 25)).alloc (.cells #[.bool t2, v2] 25)).alloc (.cells #[.bool false, .slice none 0 0] 25)).alloc (.cells #[.bool false, .slice none 0 0] 25)) w.heap.size t1 t2 v1 v2 := by
  have h := Boxes.new w t1 t2 v1 v2
  refine ⟨h.a.alloc _, h.b.alloc _, h.r.alloc _, ?_⟩
  have := Box.new (((w.alloc (.cells #[.bool t1, v1] 25)).alloc (.cells #[.bool t2, v2] 25)).alloc (.cells #[.bool false, .slice none 0 0] 25)) #[.bool false, .slice none 0 0] 25
  rw [World.size_alloc, World.size_alloc, World.size_alloc] at this
  exact this
theorem Boxes4.cells {W : World} {g : Nat} {t1 t2 : Bool} {v1 v2 : Value} (h : Boxes4 W g t1 t2 v1 v2) :
    W.cell? ⟨g, 0, none⟩ = some (.bool t1) ∧ W.cell? ⟨g + 1, 0, none⟩ = some (.bool t2) ∧ W.cell? ⟨g + 1, 1, none⟩ = some v2 :=
  ⟨h.a.cell 0, h.b.cell 0, h.b.cell 1⟩

theorem Boxes4.two {W : World} {g : Nat} {t1 t2 : Bool} {v1 v2 : Value} (h : Boxes4 W g t1 t2 v1 v2) : W.cell? ⟨g, 0, none⟩ = some (.bool t1) ∧ W.cell? ⟨g + 1, 0, none⟩ = some (.bool t2) := ⟨h.a.cell 0, h.b.cell 0⟩
theorem Boxes4.two2 {W : World} {g : Nat} {t1 t2 : Bool} {v1 v2 : Value} (h : Boxes4 W g t1 t2 v1 v2) (x y : Value) :
    ((W.setCell ⟨g + 1 + 1, 0, none⟩ x).setCell ⟨g + 1 + 1, 1, none⟩ y).cell? ⟨g, 0, none⟩ = some (.bool t1) ∧ ((W.setCell ⟨g + 1 + 1, 0, none⟩ x).setCell ⟨g + 1 + 1, 1, none⟩ y).cell? ⟨g + 1, 0, none⟩ = some (.bool t2) :=
  ⟨((h.a.far (p := ⟨g + 1 + 1, 0, none⟩) (by simp; omega) x).far (p := ⟨g + 1 + 1, 1, none⟩) (by simp; omega) y).cell 0, ((h.b.far (p := ⟨g + 1 + 1, 0, none⟩) (by simp) x).far (p := ⟨g + 1 + 1, 1, none⟩) (by simp) y).cell 0⟩
theorem Boxes4.two4 {W : World} {g : Nat} {t1 t2 : Bool} {v1 v2 : Value} (h : Boxes4 W g t1 t2 v1 v2) (x y u v : Value) :
    ((((W.setCell ⟨g + 1 + 1, 0, none⟩ x).setCell ⟨g + 1 + 1, 1, none⟩ y).setCell ⟨g + 1 + 1 + 1, 0, none⟩ u).setCell ⟨g + 1 + 1 + 1, 1, none⟩ v).cell? ⟨g, 0, none⟩ = some (.bool t1) ∧ ((((W.setCell ⟨g + 1 + 1, 0, none⟩ x).setCell ⟨g + 1 + 1, 1, none⟩ y).setCell ⟨g + 1 + 1 + 1, 0, none⟩ u).setCell ⟨g + 1 + 1 + 1, 1, none⟩ v).cell? ⟨g + 1, 0, none⟩ = some (.bool t2) :=
  ⟨((((h.a.far (p := ⟨g + 1 + 1, 0, none⟩) (by simp; omega) x).far (p := ⟨g + 1 + 1, 1, none⟩) (by simp; omega) y).far (p := ⟨g + 1 + 1 + 1, 0, none⟩) (by simp; omega) u).far (p := ⟨g + 1 + 1 + 1, 1, none⟩) (by simp; omega) v).cell 0,
   ((((h.b.far (p := ⟨g + 1 + 1, 0, none⟩) (by simp) x).far (p := ⟨g + 1 + 1, 1, none⟩) (by simp) y).far (p := ⟨g + 1 + 1 + 1, 0, none⟩) (by simp <;> omega) u).far (p := ⟨g + 1 + 1 + 1, 1, none⟩) (by simp <;> omega) v).cell 0⟩
/-- What DivMod returns. -/
def RetQR (w : World) (q r : Int) (e : Ending) (w' : World) : Prop :=
  ∃ t1 A1 c1 l1 t2 A2 c2 l2, e = .returned (.tuple #[.agg #[.bool t1, .slice A1 l1.length c1], .agg #[.bool t2, .slice A2 l2.length c2], .bool true]) ∧ OutI w' t1 A1 c1 l1 q ∧ OutI w' t2 A2 c2 l2 r ∧ Below w.heap.size w w'

theorem div_same {n1 n2 : Nat} : sg false (n1 / n2) = (n1 : Int) / (n2 : Int) ∧ sg false (n1 % n2) = (n1 : Int) % (n2 : Int) := by
  simp [sg]
theorem div_neg0 {n1 n2 : Nat} (h : n1 % n2 = 0) (hp : 0 < n2) : sg true (n1 / n2) = -(n1 : Int) / (n2 : Int) ∧ sg true (n1 % n2) = -(n1 : Int) % (n2 : Int) := by
  have e := Nat.div_add_mod n1 n2
  rw [h, Nat.add_zero] at e
  have e' : (n1 : Int) = (n2 : Int) * ((n1 / n2 : Nat) : Int) := by rw [← Int.natCast_mul, e]
  rw [h]
  generalize n1 / n2 = k at *
  have e2 : -(n1 : Int) = (n2 : Int) * (-(k : Int)) := by rw [e', Int.mul_neg]
  rw [e2, Int.mul_ediv_cancel_left _ (by omega), Int.mul_emod_right]
  simp [sg]
theorem div_neg1 {n1 n2 : Nat} (h : n1 % n2 ≠ 0) (hp : 0 < n2) : sg true (n1 / n2 + 1) = -(n1 : Int) / (n2 : Int) ∧ sg false (n2 - n1 % n2) = -(n1 : Int) % (n2 : Int) := by
  have e := Nat.div_add_mod n1 n2
  have hm := Nat.mod_lt n1 hp
  have e' : (n1 : Int) = (n2 : Int) * ((n1 / n2 : Nat) : Int) + ((n1 % n2 : Nat) : Int) := by rw [← Int.natCast_mul, ← Int.natCast_add, e]
  generalize n1 / n2 = k at *
  generalize n1 % n2 = m at *
  have e2 : -(n1 : Int) = ((n2 - m : Nat) : Int) + (n2 : Int) * (-((k : Int) + 1)) := by
    rw [e', Int.natCast_sub (by omega)]; grind
  have hq : (((n2 - m : Nat) : Int) + (n2 : Int) * (-((k : Int) + 1))) / (n2 : Int) = -((k : Int) + 1) := by
    rw [Int.add_mul_ediv_left _ _ (by omega), Int.ediv_eq_zero_of_lt (by omega) (by omega)]; omega
  have hr : (((n2 - m : Nat) : Int) + (n2 : Int) * (-((k : Int) + 1))) % (n2 : Int) = ((n2 - m : Nat) : Int) := by
    rw [Int.add_mul_emod_self_left, Int.emod_eq_of_lt (by omega) (by omega)]
  rw [e2, hq, hr]
  simp [sg]

/-- Both results are stored. -/
theorem RetQR.fin {w w3 : World} {g : Nat} {t1 t2 : Bool} {v1 v2 : Value} {q r : Int} {tq tr : Bool} {Aq Ar : Option Addr} {cq cr : Nat} {lq lr : List Nat} (hbx : Boxes4 w3 g t1 t2 v1 v2) (oq : OutI w3 tq Aq cq lq q) (or : OutI w3 tr Ar cr lr r) (hb : Below w.heap.size w w3) (hg : w.heap.size ≤ g) {tmps : Array Value}
    (hg1 : tmps.getD 4 undef = .pointer (some ⟨g + 1 + 1, 0, none⟩)) (hg2 : tmps.getD 5 undef = .pointer (some ⟨g + 1 + 1 + 1, 0, none⟩)) (hz : tmps.getD 6 undef = .bool true) :
    bodyPost Tryz.prog Tryz.f32 (RetQR w q r) .ret ⟨tmps, []⟩ ((((w3.setCell ⟨g + 1 + 1, 0, none⟩ (.bool tq)).setCell ⟨g + 1 + 1, 1, none⟩ (.slice Aq lq.length cq)).setCell ⟨g + 1 + 1 + 1, 0, none⟩ (.bool tr)).setCell ⟨g + 1 + 1 + 1, 1, none⟩ (.slice Ar lr.length cr)) := by
  obtain ⟨oq1, bq1⟩ := oq.stored hbx.q rfl rfl
  have or1 := or.stored_far hbx.q rfl rfl (u := .bool tq) rfl (.slice Aq lq.length cq)
  have br1 : Box ((w3.setCell ⟨g + 1 + 1, 0, none⟩ (.bool tq)).setCell ⟨g + 1 + 1, 1, none⟩ (.slice Aq lq.length cq)) (g + 1 + 1 + 1) #[.bool false, .slice none 0 0] 25 := (hbx.r.far (p := ⟨g + 1 + 1, 0, none⟩) (by simp) _).far (p := ⟨g + 1 + 1, 1, none⟩) (by simp) _
  obtain ⟨or2, br2⟩ := or1.stored br1 rfl rfl
  have oq2 := oq1.stored_far br1 rfl rfl (u := .bool tr) rfl (.slice Ar lr.length cr)
  have bq2 := (bq1.far (p := ⟨g + 1 + 1 + 1, 0, none⟩) (by simp) (.bool tr)).far (p := ⟨g + 1 + 1 + 1, 1, none⟩) (by simp) (.slice Ar lr.length cr)
  exact bodyPost_ret (results_div Tryz.results32 hg1 hg2 hz bq2 br2) rfl ⟨tq, Aq, cq, lq, tr, Ar, cr, lr, rfl, oq2, or2, Below.box2 (Below.box2 hb (by omega) _ _) (by omega) _ _⟩

set_option maxHeartbeats 2000000 in
theorem idivmod_any (t1 t2 : Bool) (A1 A2 : Option Addr) (c1 c2 : Nat) (l1 l2 : List Nat) (z1 z2 : Int) (w : World) (h1 : InI w t1 A1 c1 l1 z1) (h2 : InI w t2 A2 c2 l2 z2) (hpos : 0 < z2) (hl1 : nlen z1.natAbs + 2 < 1099511627776) :
    Calls Tryz.prog 32 #[.agg #[.bool t1, .slice A1 l1.length c1], .agg #[.bool t2, .slice A2 l2.length c2]] w (RetQR w (z1 / z2) (z1 % z2)) := by
  have hbx := Boxes4.new w t1 t2 (.slice A1 l1.length c1) (.slice A2 l2.length c2)
  have hbel : Below w.heap.size w ((((w.alloc (.cells #[.bool t1, .slice A1 l1.length c1] 25)).alloc (.cells #[.bool t2, .slice A2 l2.length c2] 25)).alloc (.cells #[.bool false, .slice none 0 0] 25)).alloc (.cells #[.bool false, .slice none 0 0] 25)) := ((((Below.refl _ _).alloc (Nat.le_refl _) _).alloc (by simp) _).alloc (by simp; omega) _).alloc (by simp; omega) _
  have s1 := h1.sgn
  have s2 := h2.sgn
  have ht2 : t2 = false := by
    cases t2
    · rfl
    · unfold sg at s2; simp at s2; omega
  subst ht2
  have q1 := h1.mag.nlen
  have q2 := h2.mag.nlen
  have i1 := h1.mag.keep hbel
  have i2 := h2.mag.keep hbel
  obtain ⟨n1, hn1⟩ : ∃ n1, z1.natAbs = n1 := ⟨_, rfl⟩
  obtain ⟨n2, hn2⟩ : ∃ n2, z2.natAbs = n2 := ⟨_, rfl⟩
  rw [hn1] at i1 q1 s1 hl1
  rw [hn2] at i2 q2 s2
  have hz2 : z2 = (n2 : Int) := by unfold sg at s2; simpa using s2
  have hp : 0 < n2 := by omega
  have nq : nlen (n1 / n2) < 1099511627776 := Nat.lt_of_le_of_lt (nlen_mono (Nat.div_le_self _ _)) q1
  have nr : nlen (n1 % n2) < 1099511627776 := Nat.lt_of_le_of_lt (nlen_mono (Nat.mod_le _ _)) q1
  clear h1 h2 s2 hn1 hn2 hpos
  cases t1
  · have hz1 : z1 = (n1 : Int) := by unfold sg at s1; simpa using s1
    obtain ⟨e1, e2⟩ := div_same (n1 := n1) (n2 := n2)
    rw [← hz1, ← hz2] at e1 e2
    have E1 := Lib.hid e1
    have E2 := Lib.hid e2
    clear e1 e2 s1 hz1 hz2
    go_enter Tryz.func32, Tryz.ntmps32
    go_wp2_with fail
    refine (divmod_any _ _ _ _ _ _ _ _ _ i1 i2 hp).mono ?_
    rintro e w1 ⟨B1, d1, B2, d2, rfl, o1, o2, b1⟩
    have hbx1 := hbx.keep b1
    obtain ⟨k0, k2, k3⟩ := hbx1.cells
    have hbel1 := hbel.trans (b1.mono hbel.size)
    have MQ : Hid (∀ W' : World, Below w1.heap.size w1 W' → Calls Tryz.prog 31 #[.bool false, .slice B1 (limbs (n1 / n2)).length d1] W' (RetI W' (z1 / z2))) := Lib.hid (fun W' hb => by rw [← E1.out]; exact make_any false B1 d1 _ _ W' ((o1.toIn nq).keep hb))
    have MR : Hid (∀ W' : World, Below w1.heap.size w1 W' → Calls Tryz.prog 31 #[.bool false, .slice B2 (limbs (n1 % n2)).length d2] W' (RetI W' (z1 % z2))) := Lib.hid (fun W' hb => by rw [← E2.out]; exact make_any false B2 d2 _ _ W' ((o2.toIn nr).keep hb))
    go_wp2_with fail
    have bd : Below w1.heap.size w1 w1.drew := (Below.refl _ _).drew
    have hbx2 := hbx1.keep bd
    clear k3 hbx hbel i1 i2 b1 o1 o2 E1 E2 hl1 q1 q2 nq nr hp
    go_region_held3 (fun w' => w'.cell? ⟨w.heap.size, 0, none⟩ = some (.bool false) ∧ w'.cell? ⟨w.heap.size + 1, 0, none⟩ = some (.bool false)) (with_reducible first | exact hbx1.two | exact hbx2.two | exact (hbx1.keep b2').two | exact (hbx1.keep b3').two | exact (hbx1.keep b3').two2 _ _ | exact (hbx1.keep b3').two4 _ _ _ _)
      ((go_at_call 31; (first
        | ((with_reducible refine (MQ.out _ bd).mono ?_); rintro e w2 ⟨tq, Aq, cq, lq, rfl, oq, b2⟩; have b2' : Below w1.heap.size w1 w2 := bd.trans b2)
        | ((with_reducible refine (MR.out _ bd).mono ?_); rintro e w2 ⟨tr, Ar, cr, lr, rfl, orr, b2⟩; have b2' : Below w1.heap.size w1 w2 := bd.trans b2)
        | ((with_reducible refine (MQ.out _ b2').mono ?_); rintro e w3 ⟨tq, Aq, cq, lq, rfl, oq, b3⟩; have b3' : Below w1.heap.size w1 w3 := b2'.trans (b3.mono b2'.size); have orr := orr.keep b3; have hb1 := (hbx1.keep b3').q; have e0 : w3.cell? ⟨w.heap.size + 1 + 1, 0, none⟩ = some (.bool false) := hb1.cell 0; have e1 : w3.cell? ⟨w.heap.size + 1 + 1, 1, none⟩ = some (.slice none 0 0) := hb1.cell 1; have f0 := hb1.frozen 0; have f1 := hb1.frozen 1; have hb2 := (hbx1.keep b3').r; have e2 : w3.cell? ⟨w.heap.size + 1 + 1 + 1, 0, none⟩ = some (.bool false) := hb2.cell 0; have e3 : w3.cell? ⟨w.heap.size + 1 + 1 + 1, 1, none⟩ = some (.slice none 0 0) := hb2.cell 1; have f2 := hb2.frozen 0; have f3 := hb2.frozen 1)
        | ((with_reducible refine (MR.out _ b2').mono ?_); rintro e w3 ⟨tr, Ar, cr, lr, rfl, orr, b3⟩; have b3' : Below w1.heap.size w1 w3 := b2'.trans (b3.mono b2'.size); have oq := oq.keep b3; have hb1 := (hbx1.keep b3').q; have e0 : w3.cell? ⟨w.heap.size + 1 + 1, 0, none⟩ = some (.bool false) := hb1.cell 0; have e1 : w3.cell? ⟨w.heap.size + 1 + 1, 1, none⟩ = some (.slice none 0 0) := hb1.cell 1; have f0 := hb1.frozen 0; have f1 := hb1.frozen 1; have hb2 := (hbx1.keep b3').r; have e2 : w3.cell? ⟨w.heap.size + 1 + 1 + 1, 0, none⟩ = some (.bool false) := hb2.cell 0; have e3 : w3.cell? ⟨w.heap.size + 1 + 1 + 1, 1, none⟩ = some (.slice none 0 0) := hb2.cell 1; have f2 := hb2.frozen 0; have f3 := hb2.frozen 1))))
    all_goals
      go_wp2
      exact RetQR.fin (hbx1.keep b3') oq orr (hbel1.trans (b3'.mono hbel1.size)) (Nat.le_refl _) rfl rfl rfl
  · have hz1 : z1 = -(n1 : Int) := by unfold sg at s1; simpa using s1
    by_cases h0 : n1 % n2 = 0
    · obtain ⟨e1, e2⟩ := div_neg0 h0 hp
      rw [← hz1, ← hz2] at e1 e2
      have E1 := Lib.hid e1
      have E2 := Lib.hid e2
      have hlen : (((limbs (n1 % n2)).length : Int) == 0) = true := by rw [h0, limbs_zero]; rfl
      clear e1 e2 s1 hz1 hz2 h0
      go_enter Tryz.func32, Tryz.ntmps32
      go_wp2_with fail
      refine (divmod_any _ _ _ _ _ _ _ _ _ i1 i2 hp).mono ?_
      rintro e w1 ⟨B1, d1, B2, d2, rfl, o1, o2, b1⟩
      have hbx1 := hbx.keep b1
      obtain ⟨k0, k2, k3⟩ := hbx1.cells
      have hbel1 := hbel.trans (b1.mono hbel.size)
      have MQ : Hid (∀ W' : World, Below w1.heap.size w1 W' → Calls Tryz.prog 31 #[.bool true, .slice B1 (limbs (n1 / n2)).length d1] W' (RetI W' (z1 / z2))) := Lib.hid (fun W' hb => by rw [← E1.out]; exact make_any true B1 d1 _ _ W' ((o1.toIn nq).keep hb))
      have MR : Hid (∀ W' : World, Below w1.heap.size w1 W' → Calls Tryz.prog 31 #[.bool true, .slice B2 (limbs (n1 % n2)).length d2] W' (RetI W' (z1 % z2))) := Lib.hid (fun W' hb => by rw [← E2.out]; exact make_any true B2 d2 _ _ W' ((o2.toIn nr).keep hb))
      go_wp2_with fail
      have bd : Below w1.heap.size w1 w1.drew := (Below.refl _ _).drew
      have hbx2 := hbx1.keep bd
      clear k3 hbx hbel i1 i2 b1 o1 o2 E1 E2 hl1 q1 q2 nq nr hp
      go_region_held3 (fun w' => w'.cell? ⟨w.heap.size, 0, none⟩ = some (.bool true) ∧ w'.cell? ⟨w.heap.size + 1, 0, none⟩ = some (.bool false)) (with_reducible first | exact hbx1.two | exact hbx2.two | exact (hbx1.keep b2').two | exact (hbx1.keep b3').two | exact (hbx1.keep b3').two2 _ _ | exact (hbx1.keep b3').two4 _ _ _ _)
        ((go_at_call 31; (first
          | ((with_reducible refine (MQ.out _ bd).mono ?_); rintro e w2 ⟨tq, Aq, cq, lq, rfl, oq, b2⟩; have b2' : Below w1.heap.size w1 w2 := bd.trans b2)
          | ((with_reducible refine (MR.out _ bd).mono ?_); rintro e w2 ⟨tr, Ar, cr, lr, rfl, orr, b2⟩; have b2' : Below w1.heap.size w1 w2 := bd.trans b2)
          | ((with_reducible refine (MQ.out _ b2').mono ?_); rintro e w3 ⟨tq, Aq, cq, lq, rfl, oq, b3⟩; have b3' : Below w1.heap.size w1 w3 := b2'.trans (b3.mono b2'.size); have orr := orr.keep b3; have hb1 := (hbx1.keep b3').q; have e0 : w3.cell? ⟨w.heap.size + 1 + 1, 0, none⟩ = some (.bool false) := hb1.cell 0; have e1 : w3.cell? ⟨w.heap.size + 1 + 1, 1, none⟩ = some (.slice none 0 0) := hb1.cell 1; have f0 := hb1.frozen 0; have f1 := hb1.frozen 1; have hb2 := (hbx1.keep b3').r; have e2 : w3.cell? ⟨w.heap.size + 1 + 1 + 1, 0, none⟩ = some (.bool false) := hb2.cell 0; have e3 : w3.cell? ⟨w.heap.size + 1 + 1 + 1, 1, none⟩ = some (.slice none 0 0) := hb2.cell 1; have f2 := hb2.frozen 0; have f3 := hb2.frozen 1)
          | ((with_reducible refine (MR.out _ b2').mono ?_); rintro e w3 ⟨tr, Ar, cr, lr, rfl, orr, b3⟩; have b3' : Below w1.heap.size w1 w3 := b2'.trans (b3.mono b2'.size); have oq := oq.keep b3; have hb1 := (hbx1.keep b3').q; have e0 : w3.cell? ⟨w.heap.size + 1 + 1, 0, none⟩ = some (.bool false) := hb1.cell 0; have e1 : w3.cell? ⟨w.heap.size + 1 + 1, 1, none⟩ = some (.slice none 0 0) := hb1.cell 1; have f0 := hb1.frozen 0; have f1 := hb1.frozen 1; have hb2 := (hbx1.keep b3').r; have e2 : w3.cell? ⟨w.heap.size + 1 + 1 + 1, 0, none⟩ = some (.bool false) := hb2.cell 0; have e3 : w3.cell? ⟨w.heap.size + 1 + 1 + 1, 1, none⟩ = some (.slice none 0 0) := hb2.cell 1; have f2 := hb2.frozen 0; have f3 := hb2.frozen 1))))
      all_goals
        go_wp2
        exact RetQR.fin (hbx1.keep b3') oq orr (hbel1.trans (b3'.mono hbel1.size)) (Nat.le_refl _) rfl rfl rfl
    · obtain ⟨e1, e2⟩ := div_neg1 h0 hp
      rw [← hz1, ← hz2] at e1 e2
      have E1 := Lib.hid e1
      have E2 := Lib.hid e2
      have hlen : (((limbs (n1 % n2)).length : Int) == 0) = false := by
        have := slen_pos (n1 % n2) (by omega)
        simp
        intro h
        rw [h] at this
        simp at this
      have hm := Nat.mod_lt n1 hp
      have nq1 : nlen (n1 / n2 + 1) < 1099511627776 := by
        have a1 := nlen_add (n1 / n2) 1
        rw [nlen_one] at a1
        have a2 := nlen_mono (Nat.div_le_self n1 n2)
        omega
      have nr1 : nlen (n2 - n1 % n2) < 1099511627776 := Nat.lt_of_le_of_lt (nlen_mono (Nat.sub_le _ _)) q2
      clear e1 e2 s1 hz1 hz2 h0
      go_enter Tryz.func32, Tryz.ntmps32
      go_wp2_with fail
      refine (divmod_any _ _ _ _ _ _ _ _ _ i1 i2 hp).mono ?_
      rintro e v1 ⟨B3, d3, B4, d4, rfl, o3, o4, b1⟩
      have hbv1 := hbx.keep b1
      have i2' := i2.keep b1
      obtain ⟨k0, k2, k3⟩ := hbv1.cells
      have hbel0 := hbel.trans (b1.mono hbel.size)
      clear hbx hbel i1 i2 b1
      clear k3
      go_wp2_with fail
      refine (of_any 1 (by omega) _).mono ?_
      rintro e v2 ⟨B5, d5, rfl, o5, b5⟩
      go_wp2_with fail
      refine (add_any _ _ _ _ _ _ _ _ _ ((o3.toIn nq).keep b5) (o5.toIn (by rw [nlen_one]; omega))).mono ?_
      rintro e v3 ⟨B1, d1, rfl, o1', b6⟩
      have b7 : Below v1.heap.size v1 v3 := b5.trans (b6.mono b5.size)
      obtain ⟨k0, k2, k3⟩ := (hbv1.keep b7).cells
      clear k0 k2
      go_wp2_with fail
      refine (sub_yes _ _ _ _ _ _ _ _ _ (i2'.keep b7) ((o4.toIn nr).keep b7) (Nat.le_of_lt hm)).mono ?_
      rintro e w1 ⟨B2, d2, rfl, o2, b8⟩
      have o1 := o1'.keep b8
      have hbx1 := (hbv1.keep b7).keep b8
      obtain ⟨k0, k2, k3⟩ := hbx1.cells
      have hbel1 := (hbel0.trans (b7.mono hbel0.size)).trans (b8.mono (Nat.le_trans hbel0.size b7.size))
      clear nq nr
      have nq := nq1
      have nr := nr1
      have MQ : Hid (∀ W' : World, Below w1.heap.size w1 W' → Calls Tryz.prog 31 #[.bool true, .slice B1 (limbs (n1 / n2 + 1)).length d1] W' (RetI W' (z1 / z2))) := Lib.hid (fun W' hb => by rw [← E1.out]; exact make_any true B1 d1 _ _ W' ((o1.toIn nq).keep hb))
      have MR : Hid (∀ W' : World, Below w1.heap.size w1 W' → Calls Tryz.prog 31 #[.bool false, .slice B2 (limbs (n2 - n1 % n2)).length d2] W' (RetI W' (z1 % z2))) := Lib.hid (fun W' hb => by rw [← E2.out]; exact make_any false B2 d2 _ _ W' ((o2.toIn nr).keep hb))
      go_wp2_with fail
      have bd : Below w1.heap.size w1 w1.drew := (Below.refl _ _).drew
      have hbx2 := hbx1.keep bd
      clear k3 o1 o2 E1 E2 hl1 q1 q2 nq nr nq1 nr1 hp o3 o4 o5 o1' b5 b6 b7 b8 i2' hbv1 hm
      go_region_held3 (fun w' => w'.cell? ⟨w.heap.size, 0, none⟩ = some (.bool true) ∧ w'.cell? ⟨w.heap.size + 1, 0, none⟩ = some (.bool false)) (with_reducible first | exact hbx1.two | exact hbx2.two | exact (hbx1.keep b2').two | exact (hbx1.keep b3').two | exact (hbx1.keep b3').two2 _ _ | exact (hbx1.keep b3').two4 _ _ _ _)
        ((go_at_call 31; (first
          | ((with_reducible refine (MQ.out _ bd).mono ?_); rintro e w2 ⟨tq, Aq, cq, lq, rfl, oq, b2⟩; have b2' : Below w1.heap.size w1 w2 := bd.trans b2)
          | ((with_reducible refine (MR.out _ bd).mono ?_); rintro e w2 ⟨tr, Ar, cr, lr, rfl, orr, b2⟩; have b2' : Below w1.heap.size w1 w2 := bd.trans b2)
          | ((with_reducible refine (MQ.out _ b2').mono ?_); rintro e w3 ⟨tq, Aq, cq, lq, rfl, oq, b3⟩; have b3' : Below w1.heap.size w1 w3 := b2'.trans (b3.mono b2'.size); have orr := orr.keep b3; have hb1 := (hbx1.keep b3').q; have e0 : w3.cell? ⟨w.heap.size + 1 + 1, 0, none⟩ = some (.bool false) := hb1.cell 0; have e1 : w3.cell? ⟨w.heap.size + 1 + 1, 1, none⟩ = some (.slice none 0 0) := hb1.cell 1; have f0 := hb1.frozen 0; have f1 := hb1.frozen 1; have hb2 := (hbx1.keep b3').r; have e2 : w3.cell? ⟨w.heap.size + 1 + 1 + 1, 0, none⟩ = some (.bool false) := hb2.cell 0; have e3 : w3.cell? ⟨w.heap.size + 1 + 1 + 1, 1, none⟩ = some (.slice none 0 0) := hb2.cell 1; have f2 := hb2.frozen 0; have f3 := hb2.frozen 1)
          | ((with_reducible refine (MR.out _ b2').mono ?_); rintro e w3 ⟨tr, Ar, cr, lr, rfl, orr, b3⟩; have b3' : Below w1.heap.size w1 w3 := b2'.trans (b3.mono b2'.size); have oq := oq.keep b3; have hb1 := (hbx1.keep b3').q; have e0 : w3.cell? ⟨w.heap.size + 1 + 1, 0, none⟩ = some (.bool false) := hb1.cell 0; have e1 : w3.cell? ⟨w.heap.size + 1 + 1, 1, none⟩ = some (.slice none 0 0) := hb1.cell 1; have f0 := hb1.frozen 0; have f1 := hb1.frozen 1; have hb2 := (hbx1.keep b3').r; have e2 : w3.cell? ⟨w.heap.size + 1 + 1 + 1, 0, none⟩ = some (.bool false) := hb2.cell 0; have e3 : w3.cell? ⟨w.heap.size + 1 + 1 + 1, 1, none⟩ = some (.slice none 0 0) := hb2.cell 1; have f2 := hb2.frozen 0; have f3 := hb2.frozen 1))))
      all_goals
        go_wp2
        exact RetQR.fin (hbx1.keep b3') oq orr (hbel1.trans (b3'.mono hbel1.size)) (Nat.le_refl _) rfl rfl rfl
end Go.Proofs.YtnifjdhjimjihaaGreatDoor
