/- ratio.Neg, Make, Cmp. -/
import Derived.Test.YtnifjdhjimjihaaGreatDoorRat
namespace Go.Proofs.YtnifjdhjimjihaaGreatDoor
open Go.RowKit Lim
attribute [local go_sem ↓] Go.wp_at_zero Go.wp_at_succ

/-- A ratio that a callee returned is stored into the result's box. -/
theorem RetR.stored {w w2 : World} {g : Nat} {t : Bool} {A B : Option Addr} {c f d : Nat} {l m : List Nat} {z : Int} (o1 : OutI w2 t A c l z) (o2 : Out w2 B f d) (hm : m = limbs d) (hb : Box w2 g #[.bool false, .slice none 0 0, .slice none 0 0] 27) (hbe : Below w.heap.size w w2) (hg : w.heap.size ≤ g)
    {fn : Func} {k : Tmp} (hr : fn.results = #[.cell k 27]) {tmps : Array Value} (hk : tmps.getD k undef = .pointer (some ⟨g, 0, none⟩)) :
    bodyPost Tryz.prog fn (RetR w z d) .ret ⟨tmps, []⟩ (((w2.setCell ⟨g, 0, none⟩ (.bool t)).setCell ⟨g, 1, none⟩ (.slice A l.length c)).setCell ⟨g, 2, none⟩ (.slice B m.length f)) := by
  obtain ⟨o7, b7⟩ := o1.mag.box3 hb rfl rfl rfl (u := .bool t) (v := .slice A l.length c) (s := .slice B m.length f) rfl rfl
  obtain ⟨o8, _⟩ := o2.box3 hb rfl rfl rfl (u := .bool t) (v := .slice A l.length c) (s := .slice B m.length f) rfl rfl
  exact bodyPost_ret (results_rat hr hk b7) rfl ⟨t, A, c, l, B, f, m, rfl, ⟨o7, o1.sgn, o1.lim⟩, o8, hm, Below.box3 hbe hg _ _ _⟩

set_option maxHeartbeats 1000000 in
theorem rneg_any (t : Bool) (A B : Option Addr) (c f d : Nat) (l m : List Nat) (z : Int) (w : World) (h : InR w t A c l B f m z d) :
    Calls Tryz.prog 20 #[.agg #[.bool t, .slice A l.length c, .slice B m.length f]] w (RetR w (rn (-pz z d) (pd d)) (rd (-pz z d) (pd d))) := by
  have hbel : Below w.heap.size w ((w.alloc (.cells #[.bool t, .slice A l.length c, .slice B m.length f] 27)).alloc (.cells #[.bool false, .slice none 0 0, .slice none 0 0] 27)) := ((Below.refl _ _).alloc (Nat.le_refl _) _).alloc (by simp) _
  have h' := h.keep hbel
  have br := Box.new (w.alloc (.cells #[.bool t, .slice A l.length c, .slice B m.length f] 27)) #[.bool false, .slice none 0 0, .slice none 0 0] 27
  rw [World.size_alloc] at br
  go_enter Tryz.func20, Tryz.ntmps20
  go_wp2_with fail
  refine (parts_any _ _ _ _ _ _ _ _ _ _ h'.num h'.den).mono ?_
  rintro e w1 ⟨t1, A1, c1, l1, B1, f1, m1, rfl, i1, i2, b1⟩
  have ba : Below w1.heap.size w1 (w1.alloc (.cells #[.bool t1, .slice A1 l1.length c1] 25)) := (Below.refl _ _).alloc (Nat.le_refl _) _
  go_wp2_with fail
  refine (ineg_any _ _ _ _ _ _ (i1.keep ba)).mono ?_
  rintro e w2 ⟨t2, A2, c2, l2, rfl, o1, b2⟩
  have b02 := ba.trans (b2.mono ba.size)
  go_wp2_with fail
  have hl2 : nlen (-pz z d).natAbs < 1099511627776 := by rw [Int.natAbs_neg]; exact i1.mag.nlen
  refine (reduce_any _ _ _ _ _ _ _ _ _ _ (o1.toIn hl2) (i2.keep b02) (pd_pos _)).mono ?_
  rintro e w3 ⟨t3, A3, c3, l3, B3, f3, m3, rfl, o3, o4, hm, b3⟩
  have b03 := (b1.trans (b02.mono b1.size)).trans (b3.mono (Nat.le_trans b1.size b02.size))
  have hb1 := br.keep b03
  have e0 : w3.cell? ⟨w.heap.size + 1, 0, none⟩ = some (.bool false) := hb1.cell 0
  have e1 : w3.cell? ⟨w.heap.size + 1, 1, none⟩ = some (.slice none 0 0) := hb1.cell 1
  have e2 : w3.cell? ⟨w.heap.size + 1, 2, none⟩ = some (.slice none 0 0) := hb1.cell 2
  have g0 := hb1.frozen 0
  have g1 := hb1.frozen 1
  have g2 := hb1.frozen 2
  have HM := Lib.hid hm; clear hm
  go_wp2
  exact RetR.stored o3 o4 HM.out hb1 (hbel.trans (b03.mono hbel.size)) (by omega) Tryz.results20 rfl

theorem nlen_pz (z : Int) (d : Nat) : nlen (pz z d).natAbs ≤ nlen z.natAbs := by unfold pz; split <;> simp [nlen_zero]
theorem nlen_pd (d : Nat) : nlen (pd d) ≤ nlen d + 1 := by unfold pd; split <;> simp [nlen_one]

set_option maxHeartbeats 2000000 in
theorem rcmp_any (t1 t2 : Bool) (A1 B1 A2 B2 : Option Addr) (c1 f1 d1 c2 f2 d2 : Nat) (l1 m1 l2 m2 : List Nat) (z1 z2 : Int) (w : World) (h1 : InR w t1 A1 c1 l1 B1 f1 m1 z1 d1) (h2 : InR w t2 A2 c2 l2 B2 f2 m2 z2 d2)
    (hl1 : nlen z1.natAbs + nlen d2 + 2 < 1099511627776) (hl2 : nlen z2.natAbs + nlen d1 + 2 < 1099511627776) :
    Calls Tryz.prog 22 #[.agg #[.bool t1, .slice A1 l1.length c1, .slice B1 m1.length f1], .agg #[.bool t2, .slice A2 l2.length c2, .slice B2 m2.length f2]] w fun e w' => e = .returned (.int .i64 (cmpZ (pz z1 d1 * (pd d2 : Int)) (pz z2 d2 * (pd d1 : Int)))) ∧ Below w.heap.size w w' := by
  have hbel : Below w.heap.size w ((w.alloc (.cells #[.bool t1, .slice A1 l1.length c1, .slice B1 m1.length f1] 27)).alloc (.cells #[.bool t2, .slice A2 l2.length c2, .slice B2 m2.length f2] 27)) := ((Below.refl _ _).alloc (Nat.le_refl _) _).alloc (by simp) _
  have h1' := h1.keep hbel
  have h2' := h2.keep hbel
  have br := Box.new (w.alloc (.cells #[.bool t1, .slice A1 l1.length c1, .slice B1 m1.length f1] 27)) #[.bool t2, .slice A2 l2.length c2, .slice B2 m2.length f2] 27
  rw [World.size_alloc] at br
  go_enter Tryz.func22, Tryz.ntmps22
  go_wp2_with fail
  refine (parts_any _ _ _ _ _ _ _ _ _ _ h1'.num h1'.den).mono ?_
  rintro e w1 ⟨t3, A3, c3, l3, B3, f3, m3, rfl, i1, i2, b1⟩
  have ba : Below w1.heap.size w1 (w1.alloc (.cells #[.bool t3, .slice A3 l3.length c3] 25)) := (Below.refl _ _).alloc (Nat.le_refl _) _
  have b1a := b1.trans (ba.mono b1.size)
  have hbr := br.keep b1a
  have k0 := hbr.cell 0
  have k1 := hbr.cell 1
  have k2 := hbr.cell 2
  simp at k0 k1 k2
  go_wp2_with fail
  refine (parts_any _ _ _ _ _ _ _ _ _ _ (h2'.keep b1a).num (h2'.keep b1a).den).mono ?_
  rintro e w2 ⟨t4, A4, c4, l4, B4, f4, m4, rfl, i3, i4, b2⟩
  have bb : Below w2.heap.size w2 (w2.alloc (.cells #[.bool t4, .slice A4 l4.length c4] 25)) := (Below.refl _ _).alloc (Nat.le_refl _) _
  have x1 : Box (w2.alloc (.cells #[.bool t4, .slice A4 l4.length c4] 25)) w1.heap.size #[.bool t3, .slice A3 l3.length c3] 25 := ((Box.new w1 _ _).keep b2).keep bb
  have x2 : Box (w2.alloc (.cells #[.bool t4, .slice A4 l4.length c4] 25)) w2.heap.size #[.bool t4, .slice A4 l4.length c4] 25 := Box.new w2 _ _
  have j1 : InI (w2.alloc (.cells #[.bool t4, .slice A4 l4.length c4] 25)) t3 A3 c3 l3 (pz z1 d1) := ((i1.keep ba).keep b2).keep bb
  have j2 : In (w2.alloc (.cells #[.bool t4, .slice A4 l4.length c4] 25)) B3 f3 m3 (pd d1) := ((i2.keep ba).keep b2).keep bb
  have j3 : InI (w2.alloc (.cells #[.bool t4, .slice A4 l4.length c4] 25)) t4 A4 c4 l4 (pz z2 d2) := i3.keep bb
  have j4 : In (w2.alloc (.cells #[.bool t4, .slice A4 l4.length c4] 25)) B4 f4 m4 (pd d2) := i4.keep bb
  have bw : Below w.heap.size w (w2.alloc (.cells #[.bool t4, .slice A4 l4.length c4] 25)) := ((hbel.trans (b1a.mono hbel.size)).trans (b2.mono (Nat.le_trans hbel.size b1a.size))).trans (bb.mono (Nat.le_trans (Nat.le_trans hbel.size b1a.size) b2.size))
  clear k0 k1 k2 hbr br b1a h1' h2' hbel b1 i1 i2 i3 i4 ba
  go_wp2_with fail
  generalize hW : w2.alloc (.cells #[.bool t4, .slice A4 l4.length c4] 25) = W at *
  clear hW bb b2
  generalize w1.heap.size = g1 at *
  generalize w2.heap.size = g2 at *
  have n1 := nlen_pz z1 d1
  have n2 := nlen_pz z2 d2
  have n3 := nlen_pd d1
  have n4 := nlen_pd d2
  have KK := Lib.hid (fun (W' : World) (hb : Below W.heap.size W W') => (⟨(x1.keep hb).cell 0, (x1.keep hb).cell 1, (x2.keep hb).cell 0, (x2.keep hb).cell 1⟩ : W'.cell? ⟨g1, 0, none⟩ = some (.bool t3) ∧ W'.cell? ⟨g1, 1, none⟩ = some (.slice A3 l3.length c3) ∧ W'.cell? ⟨g2, 0, none⟩ = some (.bool t4) ∧ W'.cell? ⟨g2, 1, none⟩ = some (.slice A4 l4.length c4)))
  obtain ⟨k0, k1, k2, k3⟩ := KK.out W (Below.refl _ _)
  have bd : Below W.heap.size W W.drew := (Below.refl _ _).drew
  have p1 : nlen ((pd d2 : Int)).natAbs < 1099511627776 := by rw [Int.natAbs_natCast]; omega
  have p2 : nlen ((pd d1 : Int)).natAbs < 1099511627776 := by rw [Int.natAbs_natCast]; omega
  have p3 : nlen (pz z1 d1).natAbs + nlen ((pd d2 : Int)).natAbs < 1099511627776 := by rw [Int.natAbs_natCast]; omega
  have p4 : nlen (pz z2 d2).natAbs + nlen ((pd d1 : Int)).natAbs < 1099511627776 := by rw [Int.natAbs_natCast]; omega
  have p5 : nlen (pz z1 d1 * (pd d2 : Int)).natAbs < 1099511627776 := by rw [Int.natAbs_mul]; exact Nat.lt_of_le_of_lt (nlen_mul _ _) p3
  have p6 : nlen (pz z2 d2 * (pd d1 : Int)).natAbs < 1099511627776 := by rw [Int.natAbs_mul]; exact Nat.lt_of_le_of_lt (nlen_mul _ _) p4
  have WH1 := Lib.hid (fun (W' : World) (hb : Below W.heap.size W W') => whole_any B4 f4 (pd d2) m4 W' (j4.keep hb))
  have WH2 := Lib.hid (fun (W' : World) (hb : Below W.heap.size W W') => whole_any B3 f3 (pd d1) m3 W' (j2.keep hb))
  clear n1 n2 n3 n4 hl1 hl2 h1 h2 x1 x2 j2 j4
  go_region_held3 (fun w' => w'.cell? ⟨g1, 0, none⟩ = some (.bool t3) ∧ w'.cell? ⟨g1, 1, none⟩ = some (.slice A3 l3.length c3) ∧ w'.cell? ⟨g2, 0, none⟩ = some (.bool t4) ∧ w'.cell? ⟨g2, 1, none⟩ = some (.slice A4 l4.length c4)) (with_reducible first | exact ⟨k0, k1, k2, k3⟩ | exact KK.out _ bd | exact KK.out _ q1 | exact KK.out _ q2 | exact KK.out _ q3 | exact KK.out _ q4 | exact KK.out _ q5)
    (first
      | (go_at_call 65; (with_reducible refine (WH1.out _ bd).mono ?_); rintro e v1 ⟨ta, Aa, ca, la, rfl, oa, ba⟩; have q1 : Below W.heap.size W v1 := bd.trans ba)
      | (go_at_call 33; (with_reducible refine (imul_any _ _ _ _ _ _ _ _ _ _ _ (j1.keep q1) (oa.toIn p1) p3).mono ?_); rintro e v2 ⟨tb, Ab, cb, lb, rfl, ob, bb⟩; have q2 : Below W.heap.size W v2 := q1.trans (bb.mono q1.size))
      | (go_at_call 65; (with_reducible refine (WH2.out _ q2).mono ?_); rintro e v3 ⟨tc, Ac, cc, lc, rfl, oc, bc⟩; have q3 : Below W.heap.size W v3 := q2.trans (bc.mono q2.size))
      | (go_at_call 33; (with_reducible refine (imul_any _ _ _ _ _ _ _ _ _ _ _ (j3.keep q3) (oc.toIn p2) p4).mono ?_); rintro e v4 ⟨te, Ae, ce, le, rfl, oe, be⟩; have q4 : Below W.heap.size W v4 := q3.trans (be.mono q3.size))
      | (go_at_call 18; (with_reducible refine (icmp_any _ _ _ _ _ _ _ _ _ _ _ (((ob.toIn p5).keep bc).keep be) (oe.toIn p6)).mono ?_); rintro e v5 ⟨rfl, b5⟩; have q5 : Below W.heap.size W v5 := q4.trans (b5.mono q4.size)))
  go_wp2
  go_ret
  exact ⟨rfl, bw.trans (q5.mono bw.size)⟩
end Go.Proofs.YtnifjdhjimjihaaGreatDoor
