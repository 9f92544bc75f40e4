import Derived.Test.YtfchbehmeppckaaGreatQNb
import Derived.RegionTactic
import Derived.Deep.DeepCutAuto
/- ratio.whole, parts, reduce. -/
set_option linter.unusedSimpArgs false
set_option linter.unusedVariables false
namespace Go.Proofs.YtfchbehmeppckaaGreat
open Go.RowKit Lim
attribute [local go_sem ↓] Go.wp_at_zero Go.wp_at_succ

set_option maxHeartbeats 1000000 in
theorem whole_any (A : Option Addr) (c n : Nat) (l : List Nat) (w : World) (h : In w A c l n) :
    Calls Tryz.prog 40 #[.slice A l.length c] w (RetI w (n : Int)) := by
  have h' : In (w.alloc (.cells #[.bool false, .slice none 0 0] 32)) A c l n := h.keep ((Below.refl _ _).alloc (Nat.le_refl _) _)
  have hbx := Box.new w #[.bool false, .slice none 0 0] 32
  have HS := Lib.hid (show sg false n = (n : Int) from rfl)
  go_enter Tryz.func40, Tryz.ntmps40
  go_wp2_with fail
  refine (make_any _ _ _ _ _ _ h').mono ?_
  rw [HS.out]
  rintro e w2 ⟨t', B2, d2, l', rfl, o2, b2⟩
  have hb1 := hbx.keep b2
  have e0 : w2.cell? ⟨w.heap.size, 0, none⟩ = some (.bool false) := hb1.cell 0
  have e1 : w2.cell? ⟨w.heap.size, 1, none⟩ = some (.slice none 0 0) := hb1.cell 1
  have f0 := hb1.frozen 0
  have f1 := hb1.frozen 1
  go_wp2
  obtain ⟨o3, b3⟩ := o2.stored hb1 rfl rfl
  exact bodyPost_ret (results_int Tryz.results40 rfl b3) rfl ⟨t', B2, d2, l', rfl, o3, Below.box2 (((Below.refl w.heap.size w).alloc (Nat.le_refl _) _).trans (b2.mono (by simp))) (Nat.le_refl _) _ _⟩

/-- The numerator and the denominator that a ratio stands for. -/
def pz (z : Int) (d : Nat) : Int := if d = 0 then 0 else z
def pd (d : Nat) : Nat := if d = 0 then 1 else d
theorem pd_pos (d : Nat) : 0 < pd d := by unfold pd; split <;> omega

/-- What parts returns. -/
def RetP (w : World) (z : Int) (d : Nat) (e : Ending) (w' : World) : Prop :=
  ∃ t A c l B f m, e = .returned (.tuple #[.agg #[.bool t, .slice A l.length c], .slice B m.length f]) ∧ InI w' t A c l (pz z d) ∧ In w' B f m (pd d) ∧ Below w.heap.size w w'

theorem results_parts {fn : Func} {k1 k3 : Tmp} (h : fn.results = #[.cell k1 32, .tmp k3]) {tmps : Array Value} {g1 : Nat} (hg1 : tmps.getD k1 undef = .pointer (some ⟨g1, 0, none⟩)) {W : World} {x y z : Value} (hz : tmps.getD k3 undef = z) (hb1 : Box W g1 #[x, y] 32) :
    (results fn tmps).run Tryz.prog W = .ok (.tuple #[.agg #[x, y], z]) W := by
  have q0 : W.cell? ⟨g1, 0, none⟩ = some x := hb1.cell 0
  have q1 : W.cell? ⟨g1, 1, none⟩ = some y := hb1.cell 1
  have hg1' : tmps[k1]?.getD undef = .pointer (some ⟨g1, 0, none⟩) := by simpa using hg1
  have hz' : tmps[k3]?.getD undef = z := by simpa using hz
  simp [results, h, go_sem, hg1', hz', q0, q1]

set_option maxHeartbeats 1000000 in
theorem parts_zero (t : Bool) (A B : Option Addr) (c f : Nat) (l m : List Nat) (z : Int) (w : World) (h1 : InI w t A c l z) (h2 : In w B f m 0) :
    Calls Tryz.prog 37 #[.agg #[.bool t, .slice A l.length c, .slice B m.length f]] w (RetP w z 0) := by
  have hbel : Below w.heap.size w ((w.alloc (.cells #[.bool t, .slice A l.length c, .slice B m.length f] 34)).alloc (.cells #[.bool false, .slice none 0 0] 32)) := ((Below.refl _ _).alloc (Nat.le_refl _) _).alloc (by simp) _
  have i2 := h2.keep hbel
  have hbx := Box.new (w.alloc (.cells #[.bool t, .slice A l.length c, .slice B m.length f] 34)) #[.bool false, .slice none 0 0] 32
  rw [World.size_alloc] at hbx
  have hc0 := cmpI_eq 0
  go_enter Tryz.func37, Tryz.ntmps37
  go_wp2_with fail
  refine (cmp_any _ _ _ _ _ _ _ [] _ i2 (In.zero _)).mono ?_
  rintro e w1 ⟨rfl, k, rfl⟩
  go_wp2_with fail
  refine (of_any 1 (by omega) _).mono ?_
  rintro e w2 ⟨B5, d5, rfl, o5, b5⟩
  have hb1 := (hbx.drewN k).keep b5
  have e0 : w2.cell? ⟨w.heap.size + 1, 0, none⟩ = some (.bool false) := hb1.cell 0
  have e1 : w2.cell? ⟨w.heap.size + 1, 1, none⟩ = some (.slice none 0 0) := hb1.cell 1
  have f0 := hb1.frozen 0
  have f1 := hb1.frozen 1
  go_wp2
  have b3 := Below.box2 ((below_drewN hbel k).trans (b5.mono hbel.size)) (show w.heap.size ≤ w.heap.size + 1 by omega) (.bool false) (.slice none 0 0)
  obtain ⟨o6, b6⟩ := o5.box2 hb1 rfl rfl (u := .bool false) (v := .slice none 0 0) rfl
  refine bodyPost_ret (results_parts Tryz.results37 rfl rfl b6) rfl ⟨false, none, 0, [], B5, d5, limbs 1, rfl, ⟨In.zero _, rfl⟩, o6.toIn (by rw [nlen_one]; omega), b3⟩

set_option maxHeartbeats 1000000 in
theorem parts_pos (t : Bool) (A B : Option Addr) (c f d : Nat) (l m : List Nat) (z : Int) (w : World) (h1 : InI w t A c l z) (h2 : In w B f m d) (hd : 0 < d) :
    Calls Tryz.prog 37 #[.agg #[.bool t, .slice A l.length c, .slice B m.length f]] w (RetP w z d) := by
  have hbel : Below w.heap.size w ((w.alloc (.cells #[.bool t, .slice A l.length c, .slice B m.length f] 34)).alloc (.cells #[.bool false, .slice none 0 0] 32)) := ((Below.refl _ _).alloc (Nat.le_refl _) _).alloc (by simp) _
  have i2 := h2.keep hbel
  have hc0 := cmpI_gt hd
  have hbx := Box.new (w.alloc (.cells #[.bool t, .slice A l.length c, .slice B m.length f] 34)) #[.bool false, .slice none 0 0] 32
  rw [World.size_alloc] at hbx
  have ez := Lib.hid (show pz z d = z by unfold pz; rw [if_neg (by omega)])
  have ed := Lib.hid (show pd d = d by unfold pd; rw [if_neg (by omega)])
  go_enter Tryz.func37, Tryz.ntmps37
  go_wp2_with fail
  refine (cmp_any _ _ _ _ _ _ _ [] _ i2 (In.zero _)).mono ?_
  rintro e w1 ⟨rfl, k, rfl⟩
  go_wp2_with fail
  go_region
  go_wp2
  have hb1 := hbx.drewN (k + 1)
  have i1 : In ((((w.alloc (.cells #[.bool t, .slice A l.length c, .slice B m.length f] 34)).alloc (.cells #[.bool false, .slice none 0 0] 32)).drewN (k + 1))) A c l z.natAbs := h1.mag.keep (below_drewN hbel _)
  have i3 : In ((((w.alloc (.cells #[.bool t, .slice A l.length c, .slice B m.length f] 34)).alloc (.cells #[.bool false, .slice none 0 0] 32)).drewN (k + 1))) B f m d := h2.keep (below_drewN hbel _)
  have b3 := Below.box2 (below_drewN hbel (k + 1)) (show w.heap.size ≤ w.heap.size + 1 by omega) (.bool t) (.slice A l.length c)
  obtain ⟨i4, b4⟩ := i1.box2 hb1 rfl rfl (u := .bool t) (v := .slice A l.length c) rfl
  obtain ⟨i5, _⟩ := i3.box2 hb1 rfl rfl (u := .bool t) (v := .slice A l.length c) rfl
  refine bodyPost_ret (results_parts Tryz.results37 rfl rfl b4) rfl ⟨t, A, c, l, B, f, m, rfl, ⟨by rw [ez.out]; exact i4, by rw [ez.out]; exact h1.sgn⟩, by rw [ed.out]; exact i5, b3⟩

theorem parts_any (t : Bool) (A B : Option Addr) (c f d : Nat) (l m : List Nat) (z : Int) (w : World) (h1 : InI w t A c l z) (h2 : In w B f m d) :
    Calls Tryz.prog 37 #[.agg #[.bool t, .slice A l.length c, .slice B m.length f]] w (RetP w z d) := by
  rcases Nat.eq_zero_or_pos d with h0 | h0
  · subst h0; exact parts_zero t A B c f l m z w h1 h2
  · exact parts_pos t A B c f d l m z w h1 h2 h0

/-- The normal form of z / d. -/
def rn (z : Int) (d : Nat) : Int := sg (decide (z < 0)) (z.natAbs / Nat.gcd z.natAbs d)
def rd (z : Int) (d : Nat) : Nat := d / Nat.gcd z.natAbs d
theorem rn_abs (z : Int) (d : Nat) : (rn z d).natAbs = z.natAbs / Nat.gcd z.natAbs d := sg_abs _ _
theorem rd_pos (z : Int) {d : Nat} (h : 0 < d) : 0 < rd z d := Nat.div_pos (Nat.le_of_dvd h (Nat.gcd_dvd_right _ _)) (Nat.gcd_pos_of_pos_right _ h)
theorem rn_mul_nat (n d : Nat) : n / Nat.gcd n d * d = n * (d / Nat.gcd n d) := by
  obtain ⟨a, ha⟩ := Nat.gcd_dvd_left n d
  obtain ⟨b, hb⟩ := Nat.gcd_dvd_right n d
  rcases Nat.eq_zero_or_pos (Nat.gcd n d) with h0 | h0
  · have := Nat.gcd_eq_zero_iff.1 h0
    rw [this.1, this.2]; simp
  · generalize Nat.gcd n d = g at *
    subst ha hb
    rw [Nat.mul_div_cancel_left _ h0, Nat.mul_div_cancel_left _ h0]
    grind
theorem rn_mul (z : Int) (d : Nat) : rn z d * (d : Int) = z * (rd z d : Int) := by
  have h := rn_mul_nat z.natAbs d
  unfold rn rd sg
  by_cases hz : z < 0
  · simp only [hz, decide_true, if_true]
    have e : z = -(z.natAbs : Int) := by omega
    rw [Int.neg_mul, ← Int.natCast_mul, h, Int.natCast_mul]
    generalize d / Nat.gcd z.natAbs d = k
    have e2 : z * (k : Int) = -(z.natAbs : Int) * (k : Int) := by rw [← e]
    rw [e2, Int.neg_mul]
  · simp only [hz, decide_false, Bool.false_eq_true, if_false]
    have e : z = (z.natAbs : Int) := by omega
    rw [← Int.natCast_mul, h, Int.natCast_mul, ← e]
theorem rn_sgn {t : Bool} {z : Int} (d : Nat) (h : z = sg t z.natAbs) : sg t (z.natAbs / Nat.gcd z.natAbs d) = rn z d := by
  unfold rn
  by_cases h0 : z.natAbs = 0
  · rw [h0]; unfold sg; simp
  · have : t = decide (z < 0) := by
      unfold sg at h
      cases t
      · simp at h ⊢; omega
      · simp at h ⊢; omega
    rw [this]

/-- What a function that returns a ratio in normal form leaves. -/
def RetR (w : World) (z : Int) (d : Nat) (e : Ending) (w' : World) : Prop :=
  ∃ t A c l B f m, e = .returned (.agg #[.bool t, .slice A l.length c, .slice B m.length f]) ∧ OutI w' t A c l z ∧ Out w' B f d ∧ m = limbs d ∧ Below w.heap.size w w'
theorem results_rat {fn : Func} {k : Tmp} (h : fn.results = #[.cell k 34]) {tmps : Array Value} {g : Nat} (hg : tmps.getD k undef = .pointer (some ⟨g, 0, none⟩)) {W : World} {x y z : Value} (hb : Box W g #[x, y, z] 34) :
    (results fn tmps).run Tryz.prog W = .ok (.agg #[x, y, z]) W := by
  have q0 : W.cell? ⟨g, 0, none⟩ = some x := hb.cell 0
  have q1 : W.cell? ⟨g, 1, none⟩ = some y := hb.cell 1
  have q2 : W.cell? ⟨g, 2, none⟩ = some z := hb.cell 2
  have hg' : tmps[k]?.getD undef = .pointer (some ⟨g, 0, none⟩) := by simpa using hg
  simp [results, h, go_sem, hg', q0, q1, q2]

set_option maxHeartbeats 1000000 in
theorem reduce_any (t : Bool) (A B : Option Addr) (c f d : Nat) (l m : List Nat) (z : Int) (w : World) (h1 : InI w t A c l z) (h2 : In w B f m d) (hd : 0 < d) :
    Calls Tryz.prog 99 #[.agg #[.bool t, .slice A l.length c], .slice B m.length f] w (RetR w (rn z d) (rd z d)) := by
  have hbel : Below w.heap.size w ((w.alloc (.cells #[.bool t, .slice A l.length c] 32)).alloc (.cells #[.bool false, .slice none 0 0, .slice none 0 0] 34)) := ((Below.refl _ _).alloc (Nat.le_refl _) _).alloc (by simp) _
  have i1 := h1.mag.keep hbel
  have i2 := h2.keep hbel
  have s1 := rn_sgn d h1.sgn
  have q1 := h1.mag.nlen
  have q2 := h2.nlen
  have ba : Box ((w.alloc (.cells #[.bool t, .slice A l.length c] 32)).alloc (.cells #[.bool false, .slice none 0 0, .slice none 0 0] 34)) w.heap.size #[.bool t, .slice A l.length c] 32 := (Box.new w _ _).alloc _
  have br := Box.new (w.alloc (.cells #[.bool t, .slice A l.length c] 32)) #[.bool false, .slice none 0 0, .slice none 0 0] 34
  rw [World.size_alloc] at br
  obtain ⟨n, hn⟩ : ∃ n, z.natAbs = n := ⟨_, rfl⟩
  have er := Lib.hid (show d / Nat.gcd n d = rd z d by rw [← hn]; rfl)
  rw [hn] at i1 s1 q1
  have HS := Lib.hid s1
  have hg0 : 0 < Nat.gcd n d := Nat.gcd_pos_of_pos_right _ hd
  have ng : nlen (Nat.gcd n d) < 1099511627776 := Nat.lt_of_le_of_lt (nlen_mono (Nat.le_of_dvd hd (Nat.gcd_dvd_right _ _))) q2
  have nn : nlen (n / Nat.gcd n d) < 1099511627776 := Nat.lt_of_le_of_lt (nlen_mono (Nat.div_le_self _ _)) q1
  clear s1 hn
  go_enter Tryz.func99, Tryz.ntmps99
  go_wp2_with fail
  refine (gcd_any _ _ _ _ _ _ _ _ _ i1 i2).mono ?_
  rintro e w1 ⟨B1, d1, rfl, o1, b1⟩
  have k1 : w1.cell? ⟨w.heap.size, 1, none⟩ = some (.slice A l.length c) := (ba.keep b1).cell 1
  go_wp2_with fail
  refine (divmod_any _ _ _ _ _ _ _ _ _ (i1.keep b1) (o1.toIn ng) hg0).mono ?_
  rintro e w2 ⟨B2, d2, B3, d3, rfl, o2, o3, b2⟩
  clear k1
  have b12 := b1.trans (b2.mono b1.size)
  go_wp2_with fail
  refine (divmod_any _ _ _ _ _ _ _ _ _ (i2.keep b12) ((o1.toIn ng).keep b2) hg0).mono ?_
  rintro e w3 ⟨B4, d4, B5, d5, rfl, o4, o5, b3⟩
  have b13 := b12.trans (b3.mono b12.size)
  have k0 : w3.cell? ⟨w.heap.size, 0, none⟩ = some (.bool t) := (ba.keep b13).cell 0
  go_wp2_with fail
  refine (make_any _ _ _ _ _ _ ((o2.toIn nn).keep b3)).mono ?_
  rw [HS.out]
  rintro e w4 ⟨t', B6, d6, l', rfl, o6, b4⟩
  have b14 := b13.trans (b4.mono b13.size)
  have hb1 := br.keep b14
  have e0 : w4.cell? ⟨w.heap.size + 1, 0, none⟩ = some (.bool false) := hb1.cell 0
  have e1 : w4.cell? ⟨w.heap.size + 1, 1, none⟩ = some (.slice none 0 0) := hb1.cell 1
  have e2 : w4.cell? ⟨w.heap.size + 1, 2, none⟩ = some (.slice none 0 0) := hb1.cell 2
  have f0 := hb1.frozen 0
  have f1 := hb1.frozen 1
  have f2 := hb1.frozen 2
  clear k0
  go_wp2
  have o4' := (o4.keep b4)
  rw [er.out] at o4'
  obtain ⟨o7, b7⟩ := o6.mag.box3 hb1 rfl rfl rfl (u := .bool t') (v := .slice B6 l'.length d6) (s := .slice B4 (limbs (d / Nat.gcd n d)).length d4) rfl rfl
  obtain ⟨o8, _⟩ := o4'.box3 hb1 rfl rfl rfl (u := .bool t') (v := .slice B6 l'.length d6) (s := .slice B4 (limbs (d / Nat.gcd n d)).length d4) rfl rfl
  exact bodyPost_ret (results_rat Tryz.results99 rfl b7) rfl ⟨t', B6, d6, l', B4, d4, limbs (d / Nat.gcd n d), rfl, ⟨o7, o6.sgn, o6.lim⟩, o8, by rw [er.out], Below.box3 (hbel.trans (b14.mono hbel.size)) (by omega) _ _ _⟩

/-- A ratio as an argument. -/
structure InR (w : World) (t : Bool) (A : Option Addr) (c : Nat) (l : List Nat) (B : Option Addr) (f : Nat) (m : List Nat) (z : Int) (d : Nat) : Prop where
  num : InI w t A c l z
  den : In w B f m d
theorem InR.keep {w w' : World} {t : Bool} {A B : Option Addr} {c f d : Nat} {l m : List Nat} {z : Int} (h : InR w t A c l B f m z d) (hb : Below w.heap.size w w') : InR w' t A c l B f m z d := ⟨h.num.keep hb, h.den.keep hb⟩

end Go.Proofs.YtfchbehmeppckaaGreat

/- ratio.Neg, Make, Cmp. -/
namespace Go.Proofs.YtfchbehmeppckaaGreat
open Go.RowKit Lim
attribute [local go_sem ↓] Go.wp_at_zero Go.wp_at_succ

/-- A ratio that a callee returned is stored into the result's box. -/
theorem RetR.stored {w w2 : World} {g : Nat} {t : Bool} {A B : Option Addr} {c f d : Nat} {l m : List Nat} {z : Int} (o1 : OutI w2 t A c l z) (o2 : Out w2 B f d) (hm : m = limbs d) (hb : Box w2 g #[.bool false, .slice none 0 0, .slice none 0 0] 34) (hbe : Below w.heap.size w w2) (hg : w.heap.size ≤ g)
    {fn : Func} {k : Tmp} (hr : fn.results = #[.cell k 34]) {tmps : Array Value} (hk : tmps.getD k undef = .pointer (some ⟨g, 0, none⟩)) :
    bodyPost Tryz.prog fn (RetR w z d) .ret ⟨tmps, []⟩ (((w2.setCell ⟨g, 0, none⟩ (.bool t)).setCell ⟨g, 1, none⟩ (.slice A l.length c)).setCell ⟨g, 2, none⟩ (.slice B m.length f)) := by
  obtain ⟨o7, b7⟩ := o1.mag.box3 hb rfl rfl rfl (u := .bool t) (v := .slice A l.length c) (s := .slice B m.length f) rfl rfl
  obtain ⟨o8, _⟩ := o2.box3 hb rfl rfl rfl (u := .bool t) (v := .slice A l.length c) (s := .slice B m.length f) rfl rfl
  exact bodyPost_ret (results_rat hr hk b7) rfl ⟨t, A, c, l, B, f, m, rfl, ⟨o7, o1.sgn, o1.lim⟩, o8, hm, Below.box3 hbe hg _ _ _⟩

theorem nlen_pz (z : Int) (d : Nat) : nlen (pz z d).natAbs ≤ nlen z.natAbs := by unfold pz; split <;> simp [nlen_zero]
theorem nlen_pd (d : Nat) : nlen (pd d) ≤ nlen d + 1 := by unfold pd; split <;> simp [nlen_one]

set_option maxHeartbeats 2000000 in
theorem rcmp_any (t1 t2 : Bool) (A1 B1 A2 B2 : Option Addr) (c1 f1 d1 c2 f2 d2 : Nat) (l1 m1 l2 m2 : List Nat) (z1 z2 : Int) (w : World) (h1 : InR w t1 A1 c1 l1 B1 f1 m1 z1 d1) (h2 : InR w t2 A2 c2 l2 B2 f2 m2 z2 d2)
    (hl1 : nlen z1.natAbs + nlen d2 + 2 < 1099511627776) (hl2 : nlen z2.natAbs + nlen d1 + 2 < 1099511627776) :
    Calls Tryz.prog 19 #[.agg #[.bool t1, .slice A1 l1.length c1, .slice B1 m1.length f1], .agg #[.bool t2, .slice A2 l2.length c2, .slice B2 m2.length f2]] w fun e w' => e = .returned (.int .i64 (cmpZ (pz z1 d1 * (pd d2 : Int)) (pz z2 d2 * (pd d1 : Int)))) ∧ Below w.heap.size w w' := by
  have hbel : Below w.heap.size w ((w.alloc (.cells #[.bool t1, .slice A1 l1.length c1, .slice B1 m1.length f1] 34)).alloc (.cells #[.bool t2, .slice A2 l2.length c2, .slice B2 m2.length f2] 34)) := ((Below.refl _ _).alloc (Nat.le_refl _) _).alloc (by simp) _
  have h1' := h1.keep hbel
  have h2' := h2.keep hbel
  have br := Box.new (w.alloc (.cells #[.bool t1, .slice A1 l1.length c1, .slice B1 m1.length f1] 34)) #[.bool t2, .slice A2 l2.length c2, .slice B2 m2.length f2] 34
  rw [World.size_alloc] at br
  go_enter Tryz.func19, Tryz.ntmps19
  go_wp2_with fail
  refine (parts_any _ _ _ _ _ _ _ _ _ _ h1'.num h1'.den).mono ?_
  rintro e w1 ⟨t3, A3, c3, l3, B3, f3, m3, rfl, i1, i2, b1⟩
  have ba : Below w1.heap.size w1 (w1.alloc (.cells #[.bool t3, .slice A3 l3.length c3] 32)) := (Below.refl _ _).alloc (Nat.le_refl _) _
  have b1a := b1.trans (ba.mono b1.size)
  have hbr := br.keep b1a
  have k0 := hbr.cell 0
  have k1 := hbr.cell 1
  have k2 := hbr.cell 2
  simp at k0 k1 k2
  go_wp2_with fail
  refine (parts_any _ _ _ _ _ _ _ _ _ _ (h2'.keep b1a).num (h2'.keep b1a).den).mono ?_
  rintro e w2 ⟨t4, A4, c4, l4, B4, f4, m4, rfl, i3, i4, b2⟩
  have bb : Below w2.heap.size w2 (w2.alloc (.cells #[.bool t4, .slice A4 l4.length c4] 32)) := (Below.refl _ _).alloc (Nat.le_refl _) _
  have x1 : Box (w2.alloc (.cells #[.bool t4, .slice A4 l4.length c4] 32)) w1.heap.size #[.bool t3, .slice A3 l3.length c3] 32 := ((Box.new w1 _ _).keep b2).keep bb
  have x2 : Box (w2.alloc (.cells #[.bool t4, .slice A4 l4.length c4] 32)) w2.heap.size #[.bool t4, .slice A4 l4.length c4] 32 := Box.new w2 _ _
  have j1 : InI (w2.alloc (.cells #[.bool t4, .slice A4 l4.length c4] 32)) t3 A3 c3 l3 (pz z1 d1) := ((i1.keep ba).keep b2).keep bb
  have j2 : In (w2.alloc (.cells #[.bool t4, .slice A4 l4.length c4] 32)) B3 f3 m3 (pd d1) := ((i2.keep ba).keep b2).keep bb
  have j3 : InI (w2.alloc (.cells #[.bool t4, .slice A4 l4.length c4] 32)) t4 A4 c4 l4 (pz z2 d2) := i3.keep bb
  have j4 : In (w2.alloc (.cells #[.bool t4, .slice A4 l4.length c4] 32)) B4 f4 m4 (pd d2) := i4.keep bb
  have bw : Below w.heap.size w (w2.alloc (.cells #[.bool t4, .slice A4 l4.length c4] 32)) := ((hbel.trans (b1a.mono hbel.size)).trans (b2.mono (Nat.le_trans hbel.size b1a.size))).trans (bb.mono (Nat.le_trans (Nat.le_trans hbel.size b1a.size) b2.size))
  clear k0 k1 k2 hbr br b1a h1' h2' hbel b1 i1 i2 i3 i4 ba
  go_wp2_with fail
  generalize hW : w2.alloc (.cells #[.bool t4, .slice A4 l4.length c4] 32) = W at *
  clear hW bb b2
  generalize w1.heap.size = g1 at *
  generalize w2.heap.size = g2 at *
  have n1 := nlen_pz z1 d1
  have n2 := nlen_pz z2 d2
  have n3 := nlen_pd d1
  have n4 := nlen_pd d2
  have KK := Lib.hid (fun (W' : World) (hb : Below W.heap.size W W') => (⟨(x1.keep hb).cell 0, (x1.keep hb).cell 1, (x2.keep hb).cell 0, (x2.keep hb).cell 1⟩ : W'.cell? ⟨g1, 0, none⟩ = some (.bool t3) ∧ W'.cell? ⟨g1, 1, none⟩ = some (.slice A3 l3.length c3) ∧ W'.cell? ⟨g2, 0, none⟩ = some (.bool t4) ∧ W'.cell? ⟨g2, 1, none⟩ = some (.slice A4 l4.length c4)))
  obtain ⟨k0, k1, k2, k3⟩ := KK.out W (Below.refl _ _)
  have bd : Below W.heap.size W W.drew := (Below.refl _ _).drew
  have p1 : nlen ((pd d2 : Int)).natAbs < 1099511627776 := by rw [Int.natAbs_natCast]; omega
  have p2 : nlen ((pd d1 : Int)).natAbs < 1099511627776 := by rw [Int.natAbs_natCast]; omega
  have p3 : nlen (pz z1 d1).natAbs + nlen ((pd d2 : Int)).natAbs < 1099511627776 := by rw [Int.natAbs_natCast]; omega
  have p4 : nlen (pz z2 d2).natAbs + nlen ((pd d1 : Int)).natAbs < 1099511627776 := by rw [Int.natAbs_natCast]; omega
  have p5 : nlen (pz z1 d1 * (pd d2 : Int)).natAbs < 1099511627776 := by rw [Int.natAbs_mul]; exact Nat.lt_of_le_of_lt (nlen_mul _ _) p3
  have p6 : nlen (pz z2 d2 * (pd d1 : Int)).natAbs < 1099511627776 := by rw [Int.natAbs_mul]; exact Nat.lt_of_le_of_lt (nlen_mul _ _) p4
  have WH1 := Lib.hid (fun (W' : World) (hb : Below W.heap.size W W') => whole_any B4 f4 (pd d2) m4 W' (j4.keep hb))
  have WH2 := Lib.hid (fun (W' : World) (hb : Below W.heap.size W W') => whole_any B3 f3 (pd d1) m3 W' (j2.keep hb))
  clear n1 n2 n3 n4 hl1 hl2 h1 h2 x1 x2 j2 j4
  go_region_held3 (fun w' => w'.cell? ⟨g1, 0, none⟩ = some (.bool t3) ∧ w'.cell? ⟨g1, 1, none⟩ = some (.slice A3 l3.length c3) ∧ w'.cell? ⟨g2, 0, none⟩ = some (.bool t4) ∧ w'.cell? ⟨g2, 1, none⟩ = some (.slice A4 l4.length c4)) (with_reducible first | exact ⟨k0, k1, k2, k3⟩ | exact KK.out _ bd | exact KK.out _ q1 | exact KK.out _ q2 | exact KK.out _ q3 | exact KK.out _ q4 | exact KK.out _ q5)
    (first
      | (go_at_call 40; (with_reducible refine (WH1.out _ bd).mono ?_); rintro e v1 ⟨ta, Aa, ca, la, rfl, oa, ba⟩; have q1 : Below W.heap.size W v1 := bd.trans ba)
      | (go_at_call 39; (with_reducible refine (imul_any _ _ _ _ _ _ _ _ _ _ _ (j1.keep q1) (oa.toIn p1) p3).mono ?_); rintro e v2 ⟨tb, Ab, cb, lb, rfl, ob, bb⟩; have q2 : Below W.heap.size W v2 := q1.trans (bb.mono q1.size))
      | (go_at_call 40; (with_reducible refine (WH2.out _ q2).mono ?_); rintro e v3 ⟨tc, Ac, cc, lc, rfl, oc, bc⟩; have q3 : Below W.heap.size W v3 := q2.trans (bc.mono q2.size))
      | (go_at_call 39; (with_reducible refine (imul_any _ _ _ _ _ _ _ _ _ _ _ (j3.keep q3) (oc.toIn p2) p4).mono ?_); rintro e v4 ⟨te, Ae, ce, le, rfl, oe, be⟩; have q4 : Below W.heap.size W v4 := q3.trans (be.mono q3.size))
      | (go_at_call 38; (with_reducible refine (icmp_any _ _ _ _ _ _ _ _ _ _ _ (((ob.toIn p5).keep bc).keep be) (oe.toIn p6)).mono ?_); rintro e v5 ⟨rfl, b5⟩; have q5 : Below W.heap.size W v5 := q4.trans (b5.mono q4.size)))
  go_wp2
  go_ret
  exact ⟨rfl, bw.trans (q5.mono bw.size)⟩
end Go.Proofs.YtfchbehmeppckaaGreat

/- ratio.Make, Abs. -/
namespace Go.Proofs.YtfchbehmeppckaaGreat
open Go.RowKit Lim
attribute [local go_sem ↓] Go.wp_at_zero Go.wp_at_succ

/-- The numerator over a positive denominator. -/
def mz (z1 z2 : Int) : Int := if z2 < 0 then -z1 else z1
theorem mz_abs (z1 z2 : Int) : (mz z1 z2).natAbs = z1.natAbs := by unfold mz; split <;> omega
theorem mz_sgn {t1 t2 : Bool} {z1 z2 : Int} (h1 : z1 = sg t1 z1.natAbs) (h2 : z2 = sg t2 z2.natAbs) (h0 : z2 ≠ 0) : sg (!(t1 == t2)) z1.natAbs = mz z1 z2 := by
  unfold sg at *; unfold mz
  cases t1 <;> cases t2 <;> simp at * <;> (split <;> omega)

/-- What a function that returns a ratio and true leaves. -/
def RetRT (w : World) (z : Int) (d : Nat) (e : Ending) (w' : World) : Prop :=
  ∃ t A c l B f m, e = .returned (.tuple #[.agg #[.bool t, .slice A l.length c, .slice B m.length f], .bool true]) ∧ OutI w' t A c l z ∧ Out w' B f d ∧ m = limbs d ∧ Below w.heap.size w w'
theorem results_ratT {fn : Func} {k k3 : Tmp} (h : fn.results = #[.cell k 34, .tmp k3]) {tmps : Array Value} {g : Nat} (hg : tmps.getD k undef = .pointer (some ⟨g, 0, none⟩)) {v : Value} (hz : tmps.getD k3 undef = v) {W : World} {x y z : Value} (hb : Box W g #[x, y, z] 34) :
    (results fn tmps).run Tryz.prog W = .ok (.tuple #[.agg #[x, y, z], v]) W := by
  have q0 : W.cell? ⟨g, 0, none⟩ = some x := hb.cell 0
  have q1 : W.cell? ⟨g, 1, none⟩ = some y := hb.cell 1
  have q2 : W.cell? ⟨g, 2, none⟩ = some z := hb.cell 2
  have hg' : tmps[k]?.getD undef = .pointer (some ⟨g, 0, none⟩) := by simpa using hg
  have hz' : tmps[k3]?.getD undef = v := by simpa using hz
  simp [results, h, go_sem, hg', hz', q0, q1, q2]
theorem RetRT.stored {w w2 : World} {g : Nat} {t : Bool} {A B : Option Addr} {c f d : Nat} {l m : List Nat} {z : Int} (o1 : OutI w2 t A c l z) (o2 : Out w2 B f d) (hm : m = limbs d) (hb : Box w2 g #[.bool false, .slice none 0 0, .slice none 0 0] 34) (hbe : Below w.heap.size w w2) (hg : w.heap.size ≤ g)
    {fn : Func} {k k3 : Tmp} (hr : fn.results = #[.cell k 34, .tmp k3]) {tmps : Array Value} (hk : tmps.getD k undef = .pointer (some ⟨g, 0, none⟩)) (hz : tmps.getD k3 undef = .bool true) :
    bodyPost Tryz.prog fn (RetRT w z d) .ret ⟨tmps, []⟩ (((w2.setCell ⟨g, 0, none⟩ (.bool t)).setCell ⟨g, 1, none⟩ (.slice A l.length c)).setCell ⟨g, 2, none⟩ (.slice B m.length f)) := by
  obtain ⟨o7, b7⟩ := o1.mag.box3 hb rfl rfl rfl (u := .bool t) (v := .slice A l.length c) (s := .slice B m.length f) rfl rfl
  obtain ⟨o8, _⟩ := o2.box3 hb rfl rfl rfl (u := .bool t) (v := .slice A l.length c) (s := .slice B m.length f) rfl rfl
  exact bodyPost_ret (results_ratT hr hk hz b7) rfl ⟨t, A, c, l, B, f, m, rfl, ⟨o7, o1.sgn, o1.lim⟩, o8, hm, Below.box3 hbe hg _ _ _⟩

/-- Two boxed integers and a result's box for a ratio. -/
structure BoxesR (W : World) (g : Nat) (t1 t2 : Bool) (v1 v2 : Value) : Prop where
  a : Box W g #[.bool t1, v1] 32
  b : Box W (g + 1) #[.bool t2, v2] 32
  r : Box W (g + 1 + 1) #[.bool false, .slice none 0 0, .slice none 0 0] 34
theorem BoxesR.new (w : World) (t1 t2 : Bool) (v1 v2 : Value) : BoxesR (((w.alloc (.cells #[.bool t1, v1] 32)).alloc (.cells #[.bool t2, v2] 32)).alloc (.cells #[.bool false, .slice none 0 0, .slice none 0 0] 34)) w.heap.size t1 t2 v1 v2 :=
  ⟨((Box.new w _ _).alloc _).alloc _, (by have := (Box.new (w.alloc (.cells #[.bool t1, v1] 32)) #[.bool t2, v2] 32).alloc (.cells #[.bool false, .slice none 0 0, .slice none 0 0] 34); rw [World.size_alloc] at this; exact this),
   (by have := Box.new ((w.alloc (.cells #[.bool t1, v1] 32)).alloc (.cells #[.bool t2, v2] 32)) #[.bool false, .slice none 0 0, .slice none 0 0] 34; rw [World.size_alloc, World.size_alloc] at this; exact this)⟩
theorem BoxesR.keep {W W' : World} {g : Nat} {t1 t2 : Bool} {v1 v2 : Value} (h : BoxesR W g t1 t2 v1 v2) (hb : Below W.heap.size W W') : BoxesR W' g t1 t2 v1 v2 := ⟨h.a.keep hb, h.b.keep hb, h.r.keep hb⟩
theorem BoxesR.cells {W : World} {g : Nat} {t1 t2 : Bool} {v1 v2 : Value} (h : BoxesR W g t1 t2 v1 v2) :
    W.cell? ⟨g, 0, none⟩ = some (.bool t1) ∧ W.cell? ⟨g, 1, none⟩ = some v1 ∧ W.cell? ⟨g + 1, 0, none⟩ = some (.bool t2) ∧ W.cell? ⟨g + 1, 1, none⟩ = some v2 :=
  ⟨h.a.cell 0, h.a.cell 1, h.b.cell 0, h.b.cell 1⟩
theorem BoxesR.cells_after {W : World} {g : Nat} {t1 t2 : Bool} {v1 v2 : Value} (h : BoxesR W g t1 t2 v1 v2) (x y z : Value) :
    (((W.setCell ⟨g + 1 + 1, 0, none⟩ x).setCell ⟨g + 1 + 1, 1, none⟩ y).setCell ⟨g + 1 + 1, 2, none⟩ z).cell? ⟨g, 0, none⟩ = some (.bool t1) ∧ (((W.setCell ⟨g + 1 + 1, 0, none⟩ x).setCell ⟨g + 1 + 1, 1, none⟩ y).setCell ⟨g + 1 + 1, 2, none⟩ z).cell? ⟨g, 1, none⟩ = some v1 ∧ (((W.setCell ⟨g + 1 + 1, 0, none⟩ x).setCell ⟨g + 1 + 1, 1, none⟩ y).setCell ⟨g + 1 + 1, 2, none⟩ z).cell? ⟨g + 1, 0, none⟩ = some (.bool t2) ∧ (((W.setCell ⟨g + 1 + 1, 0, none⟩ x).setCell ⟨g + 1 + 1, 1, none⟩ y).setCell ⟨g + 1 + 1, 2, none⟩ z).cell? ⟨g + 1, 1, none⟩ = some v2 := by
  have ha := ((h.a.far (p := ⟨g + 1 + 1, 0, none⟩) (by simp; omega) x).far (p := ⟨g + 1 + 1, 1, none⟩) (by simp; omega) y).far (p := ⟨g + 1 + 1, 2, none⟩) (by simp; omega) z
  have hb := ((h.b.far (p := ⟨g + 1 + 1, 0, none⟩) (by simp) x).far (p := ⟨g + 1 + 1, 1, none⟩) (by simp) y).far (p := ⟨g + 1 + 1, 2, none⟩) (by simp) z
  exact ⟨ha.cell 0, ha.cell 1, hb.cell 0, hb.cell 1⟩

set_option maxHeartbeats 2000000 in
theorem rmake_any (t1 t2 : Bool) (A1 A2 : Option Addr) (c1 c2 : Nat) (l1 l2 : List Nat) (z1 z2 : Int) (w : World) (h1 : InI w t1 A1 c1 l1 z1) (h2 : InI w t2 A2 c2 l2 z2) (h0 : z2 ≠ 0) :
    Calls Tryz.prog 70 #[.agg #[.bool t1, .slice A1 l1.length c1], .agg #[.bool t2, .slice A2 l2.length c2]] w (RetRT w (rn (mz z1 z2) z2.natAbs) (rd (mz z1 z2) z2.natAbs)) := by
  have hbx := BoxesR.new w t1 t2 (.slice A1 l1.length c1) (.slice A2 l2.length c2)
  have hbel : Below w.heap.size w (((w.alloc (.cells #[.bool t1, .slice A1 l1.length c1] 32)).alloc (.cells #[.bool t2, .slice A2 l2.length c2] 32)).alloc (.cells #[.bool false, .slice none 0 0, .slice none 0 0] 34)) := (((Below.refl _ _).alloc (Nat.le_refl _) _).alloc (by simp) _).alloc (by simp; omega) _
  have j2 := h2.keep hbel
  have hs0 : (sgnI z2 == 0) = false := by unfold sgnI; simp; split <;> (try split) <;> omega
  have HM := Lib.hid (mz_sgn h1.sgn h2.sgn h0)
  have hlm : nlen (mz z1 z2).natAbs < 1099511627776 := by rw [mz_abs]; exact h1.mag.nlen
  go_enter Tryz.func70, Tryz.ntmps70
  go_wp2_with fail
  refine (sign_any _ _ _ _ _ _ j2).mono ?_
  rintro e W ⟨rfl, b0⟩
  have hbx1 := hbx.keep b0
  have bw : Below w.heap.size w W := hbel.trans (b0.mono hbel.size)
  clear hbx hbel j2 b0
  obtain ⟨k0, k1, k2, k3⟩ := hbx1.cells
  go_wp2_with fail
  have bd : Below W.heap.size W W.drew := (Below.refl _ _).drew
  have hbd := hbx1.keep bd
  have MK := Lib.hid (make_any (!(t1 == t2)) A1 c1 _ l1 W.drew ((h1.mag.keep bw).keep bd))
  have j2 := h2.mag.keep bw
  go_region_held3 (fun w' => w'.cell? ⟨w.heap.size, 0, none⟩ = some (.bool t1) ∧ w'.cell? ⟨w.heap.size, 1, none⟩ = some (.slice A1 l1.length c1) ∧ w'.cell? ⟨w.heap.size + 1, 0, none⟩ = some (.bool t2) ∧ w'.cell? ⟨w.heap.size + 1, 1, none⟩ = some (.slice A2 l2.length c2)) (with_reducible first | exact hbx1.cells | exact hbd.cells | exact (hbx1.keep q1).cells | exact (hbx1.keep q2).cells | exact (hbx1.keep q2).cells_after _ _ _)
    (first
      | (go_at_call 61; (with_reducible refine MK.out.mono ?_); rw [HM.out]; rintro e v1 ⟨ta, Aa, ca, la, rfl, oa, ba⟩; have q1 : Below W.heap.size W v1 := bd.trans ba)
      | (go_at_call 99; (with_reducible refine (reduce_any _ _ _ _ _ _ _ _ _ _ (oa.toIn hlm) (j2.keep q1) (Int.natAbs_pos.2 h0)).mono ?_); rintro e v2 ⟨tb, Ab, cb, lb, Bb, fb, mb, rfl, ob, oc, hm, bb⟩; have q2 : Below W.heap.size W v2 := q1.trans (bb.mono q1.size); have HL := Lib.hid hm; clear hm; have hb1 := (hbx1.keep q2).r; have e0 : v2.cell? ⟨w.heap.size + 1 + 1, 0, none⟩ = some (.bool false) := hb1.cell 0; have e1 : v2.cell? ⟨w.heap.size + 1 + 1, 1, none⟩ = some (.slice none 0 0) := hb1.cell 1; have e2 : v2.cell? ⟨w.heap.size + 1 + 1, 2, none⟩ = some (.slice none 0 0) := hb1.cell 2; have f0 := hb1.frozen 0; have f1 := hb1.frozen 1; have f2 := hb1.frozen 2))
  go_wp2
  exact RetRT.stored ob oc HL.out hb1 (bw.trans (q2.mono bw.size)) (by omega) Tryz.results70 rfl rfl

end Go.Proofs.YtfchbehmeppckaaGreat

/- decimal.power, validPlaces, validMode, higher. -/
namespace Go.Proofs.YtfchbehmeppckaaGreat
open Go.RowKit Lim
attribute [local go_sem ↓] Go.wp_at_zero Go.wp_at_succ

end Go.Proofs.YtfchbehmeppckaaGreat

/- decimal.Value. -/
namespace Go.Proofs.YtfchbehmeppckaaGreat
open Go.RowKit Lim
attribute [local go_sem ↓] Go.wp_at_zero Go.wp_at_succ

theorem below_alloc {W w : World} (h : Below W.heap.size W w) (o : Obj) : Below W.heap.size W (w.alloc o) := h.alloc h.size o
theorem below_step {W X v : World} (h : Below W.heap.size W X) (hb : Below X.heap.size X v) : Below W.heap.size W v := h.trans (hb.mono h.size)
theorem Box.new1 (w : World) (o : Obj) (cs : Array Value) (t : TypeId) : Box ((w.alloc o).alloc (.cells cs t)) (w.heap.size + 1) cs t := by
  have := Box.new (w.alloc o) cs t
  rw [World.size_alloc] at this
  exact this
theorem Box.c0 {w : World} {g : Nat} {a b c : Value} {t : TypeId} (h : Box w g #[a, b, c] t) : w.cell? ⟨g, 0, none⟩ = some a := h.cell 0
theorem Box.c1 {w : World} {g : Nat} {a b c : Value} {t : TypeId} (h : Box w g #[a, b, c] t) : w.cell? ⟨g, 1, none⟩ = some b := h.cell 1
theorem Box.c2 {w : World} {g : Nat} {a b c : Value} {t : TypeId} (h : Box w g #[a, b, c] t) : w.cell? ⟨g, 2, none⟩ = some c := h.cell 2
theorem Box.drew {w : World} {g : Nat} {cs : Array Value} {t : TypeId} (h : Box w g cs t) : Box w.drew g cs t := h
theorem OutI.drew {w : World} {t : Bool} {A : Option Addr} {c : Nat} {l : List Nat} {z : Int} (h : OutI w t A c l z) : OutI w.drew t A c l z := h.keep (Below.refl _ _).drew
theorem Out.alloc {w : World} {A : Option Addr} {c n : Nat} (h : Out w A c n) (o : Obj) : Out (w.alloc o) A c n := h.keep ((Below.refl _ _).alloc (Nat.le_refl _) _)
theorem OutI.alloc {w : World} {t : Bool} {A : Option Addr} {c : Nat} {l : List Nat} {z : Int} (h : OutI w t A c l z) (o : Obj) : OutI (w.alloc o) t A c l z := h.keep ((Below.refl _ _).alloc (Nat.le_refl _) _)

/-- A ratio and a second result. -/
def RetRX (w : World) (v : Value) (z : Int) (d : Nat) (e : Ending) (w' : World) : Prop :=
  ∃ t A c l B f m, e = .returned (.tuple #[.agg #[.bool t, .slice A l.length c, .slice B m.length f], v]) ∧ OutI w' t A c l z ∧ Out w' B f d ∧ m = limbs d ∧ Below w.heap.size w w'
theorem RetRX.stored {w w2 : World} {g : Nat} {t : Bool} {A B : Option Addr} {c f d : Nat} {l m : List Nat} {z : Int} (o1 : OutI w2 t A c l z) (o2 : Out w2 B f d) (hm : m = limbs d) (hb : Box w2 g #[.bool false, .slice none 0 0, .slice none 0 0] 34) (hbe : Below w.heap.size w w2) (hg : w.heap.size ≤ g)
    {fn : Func} {k k3 : Tmp} (hr : fn.results = #[.cell k 34, .tmp k3]) {tmps : Array Value} (hk : tmps.getD k undef = .pointer (some ⟨g, 0, none⟩)) {v : Value} (hz : tmps.getD k3 undef = v) :
    bodyPost Tryz.prog fn (RetRX w v z d) .ret ⟨tmps, []⟩ (((w2.setCell ⟨g, 0, none⟩ (.bool t)).setCell ⟨g, 1, none⟩ (.slice A l.length c)).setCell ⟨g, 2, none⟩ (.slice B m.length f)) := by
  obtain ⟨o7, b7⟩ := o1.mag.box3 hb rfl rfl rfl (u := .bool t) (v := .slice A l.length c) (s := .slice B m.length f) rfl rfl
  obtain ⟨o8, _⟩ := o2.box3 hb rfl rfl rfl (u := .bool t) (v := .slice A l.length c) (s := .slice B m.length f) rfl rfl
  exact bodyPost_ret (results_ratT hr hk hz b7) rfl ⟨t, A, c, l, B, f, m, rfl, ⟨o7, o1.sgn, o1.lim⟩, o8, hm, Below.box3 hbe hg _ _ _⟩

/-- What a region that keeps a ratio in a new variable leaves. -/
def RatCut (W : World) (z : Int) (d : Nat) (s4 : Value) (wx : World) : Prop := ∃ (g : Nat) (t : Bool) (A B : Option Addr) (c f : Nat) (l m : List Nat), s4 = .pointer (some ⟨g, 0, none⟩) ∧ Box wx g #[.bool t, .slice A l.length c, .slice B m.length f] 34 ∧ OutI wx t A c l z ∧ Out wx B f d ∧ m = limbs d ∧ Below W.heap.size W wx ∧ W.heap.size ≤ g
theorem RatCut.new {W v : World} {z : Int} {d : Nat} {t : Bool} {A B : Option Addr} {c f : Nat} {l m : List Nat} (o1 : OutI v t A c l z) (o2 : Out v B f d) (hm : m = limbs d) (hq : Below W.heap.size W v) (hg : W.heap.size ≤ v.heap.size) :
    RatCut W z d (.pointer (some ⟨v.heap.size, 0, none⟩)) (v.alloc (.cells #[.bool t, .slice A l.length c, .slice B m.length f] 34)) :=
  ⟨v.heap.size, t, A, B, c, f, l, m, rfl, Box.new v _ _, o1.alloc _, o2.alloc _, hm, below_alloc hq _, hg⟩
theorem RatCut.put {W v : World} {z : Int} {d g : Nat} {t : Bool} {A B : Option Addr} {c f : Nat} {l m : List Nat} (o1 : OutI v t A c l z) (o2 : Out v B f d) (hm : m = limbs d) (hb : Box v g #[.bool false, .slice none 0 0, .slice none 0 0] 34) (hq : Below W.heap.size W v) (hg : W.heap.size ≤ g) :
    RatCut W z d (.pointer (some ⟨g, 0, none⟩)) (((v.setCell ⟨g, 0, none⟩ (.bool t)).setCell ⟨g, 1, none⟩ (.slice A l.length c)).setCell ⟨g, 2, none⟩ (.slice B m.length f)) := by
  obtain ⟨o7, b7⟩ := o1.mag.box3 hb rfl rfl rfl (u := .bool t) (v := .slice A l.length c) (s := .slice B m.length f) rfl rfl
  obtain ⟨o8, _⟩ := o2.box3 hb rfl rfl rfl (u := .bool t) (v := .slice A l.length c) (s := .slice B m.length f) rfl rfl
  exact ⟨g, t, A, B, c, f, l, m, rfl, b7, ⟨o7, o1.sgn, o1.lim⟩, o8, hm, Below.box3 hq hg _ _ _, hg⟩

end Go.Proofs.YtfchbehmeppckaaGreat

/- decimal.Round. -/
namespace Go.Proofs.YtfchbehmeppckaaGreat
open Go.RowKit Lim
attribute [local go_sem ↓] Go.wp_at_zero Go.wp_at_succ

theorem Box.i0 {w : World} {g : Nat} {a b : Value} {t : TypeId} (h : Box w g #[a, b] t) : w.cell? ⟨g, 0, none⟩ = some a := h.cell 0
theorem Box.i1 {w : World} {g : Nat} {a b : Value} {t : TypeId} (h : Box w g #[a, b] t) : w.cell? ⟨g, 1, none⟩ = some b := h.cell 1
/-- Two integers in two variables of the region's own. -/
def IntCut (W : World) (uu rr : Int) (s9 s10 : Value) (wx : World) : Prop := ∃ (gq gr : Nat) (tq tr : Bool) (Aq Ar : Option Addr) (cq cr : Nat) (lq lr : List Nat), s9 = .pointer (some ⟨gq, 0, none⟩) ∧ s10 = .pointer (some ⟨gr, 0, none⟩) ∧ Box wx gq #[.bool tq, .slice Aq lq.length cq] 32 ∧ Box wx gr #[.bool tr, .slice Ar lr.length cr] 32 ∧ OutI wx tq Aq cq lq uu ∧ OutI wx tr Ar cr lr rr ∧ Below W.heap.size W wx ∧ W.heap.size ≤ gq ∧ W.heap.size ≤ gr ∧ gq ≠ gr
theorem IntCut.oo {W v : World} {uu rr : Int} {gq gr : Nat} {tq tr : Bool} {Aq Ar : Option Addr} {cq cr : Nat} {lq lr : List Nat} (oq : OutI v tq Aq cq lq uu) (orr : OutI v tr Ar cr lr rr) (q : Below W.heap.size W v) (bq : Box v gq #[.bool false, .slice none 0 0] 32) (br : Box v gr #[.bool false, .slice none 0 0] 32) (h1 : W.heap.size ≤ gq) (h2 : W.heap.size ≤ gr) (h3 : gq ≠ gr) :
    IntCut W uu rr (.pointer (some ⟨gq, 0, none⟩)) (.pointer (some ⟨gr, 0, none⟩)) ((((v.setCell ⟨gq, 0, none⟩ (.bool tq)).setCell ⟨gq, 1, none⟩ (.slice Aq lq.length cq)).setCell ⟨gr, 0, none⟩ (.bool tr)).setCell ⟨gr, 1, none⟩ (.slice Ar lr.length cr)) := by
  obtain ⟨oq1, bq1⟩ := oq.stored bq rfl rfl
  have or1 := orr.stored_far bq rfl rfl (u := .bool tq) rfl (.slice Aq lq.length cq)
  have br1 := (br.far (p := ⟨gq, 0, none⟩) (Ne.symm h3) (.bool tq)).far (p := ⟨gq, 1, none⟩) (Ne.symm h3) (.slice Aq lq.length cq)
  obtain ⟨or2, br2⟩ := or1.stored br1 rfl rfl
  have oq2 := oq1.stored_far br1 rfl rfl (u := .bool tr) rfl (.slice Ar lr.length cr)
  have bq2 := (bq1.far (p := ⟨gr, 0, none⟩) h3 (.bool tr)).far (p := ⟨gr, 1, none⟩) h3 (.slice Ar lr.length cr)
  exact ⟨gq, gr, tq, tr, Aq, Ar, cq, cr, lq, lr, rfl, rfl, bq2, br2, oq2, or2, Below.box2 (Below.box2 q h1 _ _) h2 _ _, h1, h2, h3⟩
theorem IntCut.on {W v : World} {uu rr : Int} {gq : Nat} {tq tr : Bool} {Aq Ar : Option Addr} {cq cr : Nat} {lq lr : List Nat} (oq : OutI v tq Aq cq lq uu) (orr : OutI v tr Ar cr lr rr) (q : Below W.heap.size W v) (bq : Box v gq #[.bool false, .slice none 0 0] 32) (h1 : W.heap.size ≤ gq) :
    IntCut W uu rr (.pointer (some ⟨gq, 0, none⟩)) (.pointer (some ⟨v.heap.size, 0, none⟩)) (((((v.alloc (.cells #[.bool false, .slice none 0 0] 32)).setCell ⟨gq, 0, none⟩ (.bool tq)).setCell ⟨gq, 1, none⟩ (.slice Aq lq.length cq)).setCell ⟨v.heap.size, 0, none⟩ (.bool tr)).setCell ⟨v.heap.size, 1, none⟩ (.slice Ar lr.length cr)) :=
  IntCut.oo (oq.alloc _) (orr.alloc _) (below_alloc q _) (bq.alloc _) (Box.new _ _ _) h1 q.size (Nat.ne_of_lt bq.lt)
theorem IntCut.no {W v : World} {uu rr : Int} {gr : Nat} {tq tr : Bool} {Aq Ar : Option Addr} {cq cr : Nat} {lq lr : List Nat} (oq : OutI v tq Aq cq lq uu) (orr : OutI v tr Ar cr lr rr) (q : Below W.heap.size W v) (br : Box v gr #[.bool false, .slice none 0 0] 32) (h2 : W.heap.size ≤ gr) :
    IntCut W uu rr (.pointer (some ⟨v.heap.size, 0, none⟩)) (.pointer (some ⟨gr, 0, none⟩)) (((v.alloc (.cells #[.bool tq, .slice Aq lq.length cq] 32)).setCell ⟨gr, 0, none⟩ (.bool tr)).setCell ⟨gr, 1, none⟩ (.slice Ar lr.length cr)) := by
  have h3 : v.heap.size ≠ gr := Nat.ne_of_gt br.lt
  have br1 := br.alloc (.cells #[.bool tq, .slice Aq lq.length cq] 32)
  obtain ⟨or2, br2⟩ := (orr.alloc _).stored br1 rfl rfl
  have oq2 := (oq.alloc _).stored_far br1 rfl rfl (u := .bool tr) rfl (.slice Ar lr.length cr)
  have bq2 := ((Box.new v #[.bool tq, .slice Aq lq.length cq] 32).far (p := ⟨gr, 0, none⟩) h3 (.bool tr)).far (p := ⟨gr, 1, none⟩) h3 (.slice Ar lr.length cr)
  exact ⟨v.heap.size, gr, tq, tr, Aq, Ar, cq, cr, lq, lr, rfl, rfl, bq2, br2, oq2, or2, Below.box2 (below_alloc q _) h2 _ _, q.size, h2, h3⟩
theorem IntCut.nn {W v : World} {uu rr : Int} {tq tr : Bool} {Aq Ar : Option Addr} {cq cr : Nat} {lq lr : List Nat} (oq : OutI v tq Aq cq lq uu) (orr : OutI v tr Ar cr lr rr) (q : Below W.heap.size W v) :
    IntCut W uu rr (.pointer (some ⟨v.heap.size, 0, none⟩)) (.pointer (some ⟨v.heap.size + 1, 0, none⟩)) ((v.alloc (.cells #[.bool tq, .slice Aq lq.length cq] 32)).alloc (.cells #[.bool tr, .slice Ar lr.length cr] 32)) :=
  ⟨v.heap.size, v.heap.size + 1, tq, tr, Aq, Ar, cq, cr, lq, lr, rfl, rfl, (Box.new _ _ _).alloc _, Box.new1 _ _ _ _, (oq.alloc _).alloc _, (orr.alloc _).alloc _, below_alloc (below_alloc q _) _, q.size, Nat.le_trans q.size (Nat.le_succ _), by omega⟩
theorem IntCut.mm {W v : World} {uu rr : Int} {tq tr : Bool} {Aq Ar : Option Addr} {cq cr : Nat} {lq lr : List Nat} (oq : OutI v tq Aq cq lq uu) (orr : OutI v tr Ar cr lr rr) (q : Below W.heap.size W v) :
    IntCut W uu rr (.pointer (some ⟨v.heap.size + 1, 0, none⟩)) (.pointer (some ⟨v.heap.size, 0, none⟩)) ((v.alloc (.cells #[.bool tr, .slice Ar lr.length cr] 32)).alloc (.cells #[.bool tq, .slice Aq lq.length cq] 32)) :=
  ⟨v.heap.size + 1, v.heap.size, tq, tr, Aq, Ar, cq, cr, lq, lr, rfl, rfl, Box.new1 _ _ _ _, (Box.new _ _ _).alloc _, (oq.alloc _).alloc _, (orr.alloc _).alloc _, below_alloc (below_alloc q _) _, Nat.le_trans q.size (Nat.le_succ _), q.size, by omega⟩
end Go.Proofs.YtfchbehmeppckaaGreat

/- decimal.Round and Value where they refuse; Integer. -/
namespace Go.Proofs.YtfchbehmeppckaaGreat
open Go.RowKit Lim
attribute [local go_sem ↓] Go.wp_at_zero Go.wp_at_succ

end Go.Proofs.YtfchbehmeppckaaGreat
