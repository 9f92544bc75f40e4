import Derived.Test.YtcggnmddcbhchaaGreatDoorSNb
import Derived.RegionTactic
import Derived.Deep.DeepCutAuto
/- Text Nc. -/
set_option linter.unusedSimpArgs false
set_option linter.unusedVariables false
namespace Go.Proofs.YtcggnmddcbhchaaGreatDoor
open Go.RowKit Lim
attribute [local go_sem ↓] Go.wp_at_zero Go.wp_at_succ
def pz (z : Int) (d : Nat) : Int := if d = 0 then 0 else z
def pd (d : Nat) : Nat := if d = 0 then 1 else d
theorem pd_pos (d : Nat) : 0 < pd d := by unfold pd; split <;> omega
def RetP (w : World) (z : Int) (d : Nat) (e : Ending) (w' : World) : Prop :=
 ∃ t A c l B f m, e = .returned (.tuple #[.agg #[.bool t, .slice A l.length c], .slice B m.length f]) ∧ InI w' t A c l (pz z d) ∧ In w' B f m (pd d) ∧ Below w.heap.size w w'
theorem results_parts {fn : Func} {k1 k3 : Tmp} (h : fn.results = #[.cell k1 25, .tmp k3]) {tmps : Array Value} {g1 : Nat} (hg1 : tmps.getD k1 undef = .pointer (some ⟨g1, 0, none⟩)) {W : World} {x y z : Value} (hz : tmps.getD k3 undef = z) (hb1 : Box W g1 #[x, y] 25) :
  (results fn tmps).run Tryz.prog W = .ok (.tuple #[.agg #[x, y], z]) W := by
 have q0 : W.cell? ⟨g1, 0, none⟩ = some x := hb1.cell 0
 have q1 : W.cell? ⟨g1, 1, none⟩ = some y := hb1.cell 1
 have hg1' : tmps[k1]?.getD undef = .pointer (some ⟨g1, 0, none⟩) := by simpa using hg1
 have hz' : tmps[k3]?.getD undef = z := by simpa using hz
 simp [results, h, go_sem, hg1', hz', q0, q1]
set_option maxHeartbeats 1000000 in
theorem parts_zero (t : Bool) (A B : Option Addr) (c f : Nat) (l m : List Nat) (z : Int) (w : World) (h1 : InI w t A c l z) (h2 : In w B f m 0) :
  Calls Tryz.prog 73 #[.agg #[.bool t, .slice A l.length c, .slice B m.length f]] w (RetP w z 0) := by
 have hbel : Below w.heap.size w ((w.alloc (.cells #[.bool t, .slice A l.length c, .slice B m.length f] 27)).alloc (.cells #[.bool false, .slice none 0 0] 25)) := ((Below.refl _ _).alloc (Nat.le_refl _) _).alloc (by simp) _
 have i2 := h2.keep hbel
 have hbx := Box.new (w.alloc (.cells #[.bool t, .slice A l.length c, .slice B m.length f] 27)) #[.bool false, .slice none 0 0] 25
 rw [World.size_alloc] at hbx
 have hc0 := cmpI_eq 0
 go_enter Tryz.func73, Tryz.ntmps73
 go_wp2_with fail
 refine (cmp_any _ _ _ _ _ _ _ [] _ i2 (In.zero _)).mono ?_
 rintro e w1 ⟨rfl, k, rfl⟩
 go_wp2_with fail
 refine (of_any 1 (by omega) _).mono ?_
 rintro e w2 ⟨B5, d5, rfl, o5, b5⟩
 have hb1 := (hbx.drewN k).keep b5
 have e0 : w2.cell? ⟨w.heap.size + 1, 0, none⟩ = some (.bool false) := hb1.cell 0
 have e1 : w2.cell? ⟨w.heap.size + 1, 1, none⟩ = some (.slice none 0 0) := hb1.cell 1
 have f0 := hb1.frozen 0
 have f1 := hb1.frozen 1
 go_wp2
 have b3 := Below.box2 ((below_drewN hbel k).trans (b5.mono hbel.size)) (show w.heap.size ≤ w.heap.size + 1 by omega) (.bool false) (.slice none 0 0)
 obtain ⟨o6, b6⟩ := o5.box2 hb1 rfl rfl (u := .bool false) (v := .slice none 0 0) rfl
 refine bodyPost_ret (results_parts Tryz.results73 rfl rfl b6) rfl ⟨false, none, 0, [], B5, d5, limbs 1, rfl, ⟨In.zero _, rfl⟩, o6.toIn (by rw [nlen_one]; omega), b3⟩
set_option maxHeartbeats 1000000 in
theorem parts_pos (t : Bool) (A B : Option Addr) (c f d : Nat) (l m : List Nat) (z : Int) (w : World) (h1 : InI w t A c l z) (h2 : In w B f m d) (hd : 0 < d) :
  Calls Tryz.prog 73 #[.agg #[.bool t, .slice A l.length c, .slice B m.length f]] w (RetP w z d) := by
 have hbel : Below w.heap.size w ((w.alloc (.cells #[.bool t, .slice A l.length c, .slice B m.length f] 27)).alloc (.cells #[.bool false, .slice none 0 0] 25)) := ((Below.refl _ _).alloc (Nat.le_refl _) _).alloc (by simp) _
 have i2 := h2.keep hbel
 have hc0 := cmpI_gt hd
 have hbx := Box.new (w.alloc (.cells #[.bool t, .slice A l.length c, .slice B m.length f] 27)) #[.bool false, .slice none 0 0] 25
 rw [World.size_alloc] at hbx
 have ez := Lib.hid (show pz z d = z by unfold pz; rw [if_neg (by omega)])
 have ed := Lib.hid (show pd d = d by unfold pd; rw [if_neg (by omega)])
 go_enter Tryz.func73, Tryz.ntmps73
 go_wp2_with fail
 refine (cmp_any _ _ _ _ _ _ _ [] _ i2 (In.zero _)).mono ?_
 rintro e w1 ⟨rfl, k, rfl⟩
 go_wp2_with fail
 go_region
 go_wp2
 have hb1 := hbx.drewN (k + 1)
 have i1 : In ((((w.alloc (.cells #[.bool t, .slice A l.length c, .slice B m.length f] 27)).alloc (.cells #[.bool false, .slice none 0 0] 25)).drewN (k + 1))) A c l z.natAbs := h1.mag.keep (below_drewN hbel _)
 have i3 : In ((((w.alloc (.cells #[.bool t, .slice A l.length c, .slice B m.length f] 27)).alloc (.cells #[.bool false, .slice none 0 0] 25)).drewN (k + 1))) B f m d := h2.keep (below_drewN hbel _)
 have b3 := Below.box2 (below_drewN hbel (k + 1)) (show w.heap.size ≤ w.heap.size + 1 by omega) (.bool t) (.slice A l.length c)
 obtain ⟨i4, b4⟩ := i1.box2 hb1 rfl rfl (u := .bool t) (v := .slice A l.length c) rfl
 obtain ⟨i5, _⟩ := i3.box2 hb1 rfl rfl (u := .bool t) (v := .slice A l.length c) rfl
 refine bodyPost_ret (results_parts Tryz.results73 rfl rfl b4) rfl ⟨t, A, c, l, B, f, m, rfl, ⟨by rw [ez.out]; exact i4, by rw [ez.out]; exact h1.sgn⟩, by rw [ed.out]; exact i5, b3⟩
theorem parts_any (t : Bool) (A B : Option Addr) (c f d : Nat) (l m : List Nat) (z : Int) (w : World) (h1 : InI w t A c l z) (h2 : In w B f m d) :
  Calls Tryz.prog 73 #[.agg #[.bool t, .slice A l.length c, .slice B m.length f]] w (RetP w z d) := by
 rcases Nat.eq_zero_or_pos d with h0 | h0
 ·subst h0; exact parts_zero t A B c f l m z w h1 h2
 ·exact parts_pos t A B c f d l m z w h1 h2 h0
def rn (z : Int) (d : Nat) : Int := sg (decide (z < 0)) (z.natAbs / Nat.gcd z.natAbs d)
def rd (z : Int) (d : Nat) : Nat := d / Nat.gcd z.natAbs d
theorem rn_abs (z : Int) (d : Nat) : (rn z d).natAbs = z.natAbs / Nat.gcd z.natAbs d := sg_abs _ _
theorem rd_pos (z : Int) {d : Nat} (h : 0 < d) : 0 < rd z d := Nat.div_pos (Nat.le_of_dvd h (Nat.gcd_dvd_right _ _)) (Nat.gcd_pos_of_pos_right _ h)
theorem rn_sgn {t : Bool} {z : Int} (d : Nat) (h : z = sg t z.natAbs) : sg t (z.natAbs / Nat.gcd z.natAbs d) = rn z d := by
 unfold rn
 by_cases h0 : z.natAbs = 0
 ·rw [h0]; unfold sg; simp
 ·have : t = decide (z < 0) := by
   unfold sg at h
   cases t
   ·simp at h ⊢; omega
   ·simp at h ⊢; omega
  rw [this]
def RetR (w : World) (z : Int) (d : Nat) (e : Ending) (w' : World) : Prop :=
 ∃ t A c l B f m, e = .returned (.agg #[.bool t, .slice A l.length c, .slice B m.length f]) ∧ OutI w' t A c l z ∧ Out w' B f d ∧ m = limbs d ∧ Below w.heap.size w w'
theorem results_rat {fn : Func} {k : Tmp} (h : fn.results = #[.cell k 27]) {tmps : Array Value} {g : Nat} (hg : tmps.getD k undef = .pointer (some ⟨g, 0, none⟩)) {W : World} {x y z : Value} (hb : Box W g #[x, y, z] 27) :
  (results fn tmps).run Tryz.prog W = .ok (.agg #[x, y, z]) W := by
 have q0 : W.cell? ⟨g, 0, none⟩ = some x := hb.cell 0
 have q1 : W.cell? ⟨g, 1, none⟩ = some y := hb.cell 1
 have q2 : W.cell? ⟨g, 2, none⟩ = some z := hb.cell 2
 have hg' : tmps[k]?.getD undef = .pointer (some ⟨g, 0, none⟩) := by simpa using hg
 simp [results, h, go_sem, hg', q0, q1, q2]
set_option maxHeartbeats 1000000 in
theorem reduce_any (t : Bool) (A B : Option Addr) (c f d : Nat) (l m : List Nat) (z : Int) (w : World) (h1 : InI w t A c l z) (h2 : In w B f m d) (hd : 0 < d) :
  Calls Tryz.prog 123 #[.agg #[.bool t, .slice A l.length c], .slice B m.length f] w (RetR w (rn z d) (rd z d)) := by
 have hbel : Below w.heap.size w ((w.alloc (.cells #[.bool t, .slice A l.length c] 25)).alloc (.cells #[.bool false, .slice none 0 0, .slice none 0 0] 27)) := ((Below.refl _ _).alloc (Nat.le_refl _) _).alloc (by simp) _
 have i1 := h1.mag.keep hbel
 have i2 := h2.keep hbel
 have s1 := rn_sgn d h1.sgn
 have q1 := h1.mag.nlen
 have q2 := h2.nlen
 have ba : Box ((w.alloc (.cells #[.bool t, .slice A l.length c] 25)).alloc (.cells #[.bool false, .slice none 0 0, .slice none 0 0] 27)) w.heap.size #[.bool t, .slice A l.length c] 25 := (Box.new w _ _).alloc _
 have br := Box.new (w.alloc (.cells #[.bool t, .slice A l.length c] 25)) #[.bool false, .slice none 0 0, .slice none 0 0] 27
 rw [World.size_alloc] at br
 obtain ⟨n, hn⟩ : ∃ n, z.natAbs = n := ⟨_, rfl⟩
 have er := Lib.hid (show d / Nat.gcd n d = rd z d by rw [← hn]; rfl)
 rw [hn] at i1 s1 q1
 have HS := Lib.hid s1
 have hg0 : 0 < Nat.gcd n d := Nat.gcd_pos_of_pos_right _ hd
 have ng : nlen (Nat.gcd n d) < 1099511627776 := Nat.lt_of_le_of_lt (nlen_mono (Nat.le_of_dvd hd (Nat.gcd_dvd_right _ _))) q2
 have nn : nlen (n / Nat.gcd n d) < 1099511627776 := Nat.lt_of_le_of_lt (nlen_mono (Nat.div_le_self _ _)) q1
 clear s1 hn
 go_enter Tryz.func123, Tryz.ntmps123
 go_wp2_with fail
 refine (gcd_any _ _ _ _ _ _ _ _ _ i1 i2).mono ?_
 rintro e w1 ⟨B1, d1, rfl, o1, b1⟩
 have k1 : w1.cell? ⟨w.heap.size, 1, none⟩ = some (.slice A l.length c) := (ba.keep b1).cell 1
 go_wp2_with fail
 refine (divmod_any _ _ _ _ _ _ _ _ _ (i1.keep b1) (o1.toIn ng) hg0).mono ?_
 rintro e w2 ⟨B2, d2, B3, d3, rfl, o2, o3, b2⟩
 clear k1
 have b12 := b1.trans (b2.mono b1.size)
 go_wp2_with fail
 refine (divmod_any _ _ _ _ _ _ _ _ _ (i2.keep b12) ((o1.toIn ng).keep b2) hg0).mono ?_
 rintro e w3 ⟨B4, d4, B5, d5, rfl, o4, o5, b3⟩
 have b13 := b12.trans (b3.mono b12.size)
 have k0 : w3.cell? ⟨w.heap.size, 0, none⟩ = some (.bool t) := (ba.keep b13).cell 0
 go_wp2_with fail
 refine (make_any _ _ _ _ _ _ ((o2.toIn nn).keep b3)).mono ?_
 rw [HS.out]
 rintro e w4 ⟨t', B6, d6, l', rfl, o6, b4⟩
 have b14 := b13.trans (b4.mono b13.size)
 have hb1 := br.keep b14
 have e0 : w4.cell? ⟨w.heap.size + 1, 0, none⟩ = some (.bool false) := hb1.cell 0
 have e1 : w4.cell? ⟨w.heap.size + 1, 1, none⟩ = some (.slice none 0 0) := hb1.cell 1
 have e2 : w4.cell? ⟨w.heap.size + 1, 2, none⟩ = some (.slice none 0 0) := hb1.cell 2
 have f0 := hb1.frozen 0
 have f1 := hb1.frozen 1
 have f2 := hb1.frozen 2
 clear k0
 go_wp2
 have o4' := (o4.keep b4)
 rw [er.out] at o4'
 obtain ⟨o7, b7⟩ := o6.mag.box3 hb1 rfl rfl rfl (u := .bool t') (v := .slice B6 l'.length d6) (s := .slice B4 (limbs (d / Nat.gcd n d)).length d4) rfl rfl
 obtain ⟨o8, _⟩ := o4'.box3 hb1 rfl rfl rfl (u := .bool t') (v := .slice B6 l'.length d6) (s := .slice B4 (limbs (d / Nat.gcd n d)).length d4) rfl rfl
 exact bodyPost_ret (results_rat Tryz.results123 rfl b7) rfl ⟨t', B6, d6, l', B4, d4, limbs (d / Nat.gcd n d), rfl, ⟨o7, o6.sgn, o6.lim⟩, o8, by rw [er.out], Below.box3 (hbel.trans (b14.mono hbel.size)) (by omega) _ _ _⟩
structure InR (w : World) (t : Bool) (A : Option Addr) (c : Nat) (l : List Nat) (B : Option Addr) (f : Nat) (m : List Nat) (z : Int) (d : Nat) : Prop where
 num : InI w t A c l z
 den : In w B f m d
theorem InR.keep {w w' : World} {t : Bool} {A B : Option Addr} {c f d : Nat} {l m : List Nat} {z : Int} (h : InR w t A c l B f m z d) (hb : Below w.heap.size w w') : InR w' t A c l B f m z d := ⟨h.num.keep hb, h.den.keep hb⟩
set_option maxHeartbeats 1000000 in
theorem rnorm_any (t : Bool) (A B : Option Addr) (c f d : Nat) (l m : List Nat) (z : Int) (w : World) (h : InR w t A c l B f m z d) :
  Calls Tryz.prog 56 #[.agg #[.bool t, .slice A l.length c, .slice B m.length f]] w (RetR w (rn (pz z d) (pd d)) (rd (pz z d) (pd d))) := by
 have hbel : Below w.heap.size w ((w.alloc (.cells #[.bool t, .slice A l.length c, .slice B m.length f] 27)).alloc (.cells #[.bool false, .slice none 0 0, .slice none 0 0] 27)) := ((Below.refl _ _).alloc (Nat.le_refl _) _).alloc (by simp) _
 have h' := h.keep hbel
 have br := Box.new (w.alloc (.cells #[.bool t, .slice A l.length c, .slice B m.length f] 27)) #[.bool false, .slice none 0 0, .slice none 0 0] 27
 rw [World.size_alloc] at br
 go_enter Tryz.func56, Tryz.ntmps56
 go_wp2_with fail
 refine (parts_any _ _ _ _ _ _ _ _ _ _ h'.num h'.den).mono ?_
 rintro e w1 ⟨t1, A1, c1, l1, B1, f1, m1, rfl, i1, i2, b1⟩
 go_wp2_with fail
 refine (reduce_any _ _ _ _ _ _ _ _ _ _ i1 i2 (pd_pos _)).mono ?_
 rintro e w2 ⟨t2, A2, c2, l2, B2, f2, m2, rfl, o1, o2, hm, b2⟩
 have b12 := b1.trans (b2.mono b1.size)
 have hb1 := br.keep b12
 have e0 : w2.cell? ⟨w.heap.size + 1, 0, none⟩ = some (.bool false) := hb1.cell 0
 have e1 : w2.cell? ⟨w.heap.size + 1, 1, none⟩ = some (.slice none 0 0) := hb1.cell 1
 have e2 : w2.cell? ⟨w.heap.size + 1, 2, none⟩ = some (.slice none 0 0) := hb1.cell 2
 have g0 := hb1.frozen 0
 have g1 := hb1.frozen 1
 have g2 := hb1.frozen 2
 have HM := Lib.hid hm; clear hm
 go_wp2
 obtain ⟨o7, b7⟩ := o1.mag.box3 hb1 rfl rfl rfl (u := .bool t2) (v := .slice A2 l2.length c2) (s := .slice B2 m2.length f2) rfl rfl
 obtain ⟨o8, _⟩ := o2.box3 hb1 rfl rfl rfl (u := .bool t2) (v := .slice A2 l2.length c2) (s := .slice B2 m2.length f2) rfl rfl
 exact bodyPost_ret (results_rat Tryz.results56 rfl b7) rfl ⟨t2, A2, c2, l2, B2, f2, m2, rfl, ⟨o7, o1.sgn, o1.lim⟩, o8, HM.out, Below.box3 (hbel.trans (b12.mono hbel.size)) (by omega) _ _ _⟩
end Go.Proofs.YtcggnmddcbhchaaGreatDoor
namespace Go.Proofs.YtcggnmddcbhchaaGreatDoor
open Go.RowKit Lim
attribute [local go_sem ↓] Go.wp_at_zero Go.wp_at_succ
theorem nlen_pz (z : Int) (d : Nat) : nlen (pz z d).natAbs ≤ nlen z.natAbs := by unfold pz; split <;> simp [nlen_zero]
theorem nlen_pd (d : Nat) : nlen (pd d) ≤ nlen d + 1 := by unfold pd; split <;> simp [nlen_one]
end Go.Proofs.YtcggnmddcbhchaaGreatDoor
namespace Go.Proofs.YtcggnmddcbhchaaGreatDoor
open Go.RowKit Lim
attribute [local go_sem ↓] Go.wp_at_zero Go.wp_at_succ
structure BoxesR (W : World) (g : Nat) (t1 t2 : Bool) (v1 v2 : Value) : Prop where
 a : Box W g #[.bool t1, v1] 25
 b : Box W (g + 1) #[.bool t2, v2] 25
 r : Box W (g + 1 + 1) #[.bool false, .slice none 0 0, .slice none 0 0] 27
end Go.Proofs.YtcggnmddcbhchaaGreatDoor
namespace Go.Proofs.YtcggnmddcbhchaaGreatDoor
open Go.RowKit Lim
attribute [local go_sem ↓] Go.wp_at_zero Go.wp_at_succ
end Go.Proofs.YtcggnmddcbhchaaGreatDoor
namespace Go.Proofs.YtcggnmddcbhchaaGreatDoor
open Go.RowKit Lim
attribute [local go_sem ↓] Go.wp_at_zero Go.wp_at_succ
theorem below_alloc {W w : World} (h : Below W.heap.size W w) (o : Obj) : Below W.heap.size W (w.alloc o) := h.alloc h.size o
theorem below_step {W X v : World} (h : Below W.heap.size W X) (hb : Below X.heap.size X v) : Below W.heap.size W v := h.trans (hb.mono h.size)
theorem Box.c0 {w : World} {g : Nat} {a b c : Value} {t : TypeId} (h : Box w g #[a, b, c] t) : w.cell? ⟨g, 0, none⟩ = some a := h.cell 0
theorem Box.c1 {w : World} {g : Nat} {a b c : Value} {t : TypeId} (h : Box w g #[a, b, c] t) : w.cell? ⟨g, 1, none⟩ = some b := h.cell 1
theorem Box.c2 {w : World} {g : Nat} {a b c : Value} {t : TypeId} (h : Box w g #[a, b, c] t) : w.cell? ⟨g, 2, none⟩ = some c := h.cell 2
theorem Out.alloc {w : World} {A : Option Addr} {c n : Nat} (h : Out w A c n) (o : Obj) : Out (w.alloc o) A c n := h.keep ((Below.refl _ _).alloc (Nat.le_refl _) _)
end Go.Proofs.YtcggnmddcbhchaaGreatDoor
namespace Go.Proofs.YtcggnmddcbhchaaGreatDoor
open Go.RowKit Lim
attribute [local go_sem ↓] Go.wp_at_zero Go.wp_at_succ
theorem Box.i1 {w : World} {g : Nat} {a b : Value} {t : TypeId} (h : Box w g #[a, b] t) : w.cell? ⟨g, 1, none⟩ = some b := h.cell 1
structure RBx (X : World) (g3 gd gq gr g6 : Nat) (n0 n1 n2 d0 d1 q0 q1 r0 r1 : Value) : Prop where
 a : Box X g3 #[n0, n1, n2] 27
 b : Box X gd #[d0, d1] 25
 c : Box X gq #[q0, q1] 25
 d : Box X gr #[r0, r1] 25
 e : Box X g6 #[.bool false, .slice none 0 0, .int .i64 0] 87
end Go.Proofs.YtcggnmddcbhchaaGreatDoor
namespace Go.Proofs.YtcggnmddcbhchaaGreatDoor
open Go.RowKit Lim
attribute [local go_sem ↓] Go.wp_at_zero Go.wp_at_succ
end Go.Proofs.YtcggnmddcbhchaaGreatDoor
