/- decimal.Value. -/
import Derived.Test.YtnifjdhjimjihaaGreatDoorDec
import Derived.Deep.DeepCutAuto
namespace Go.Proofs.YtnifjdhjimjihaaGreatDoor
open Go.RowKit Lim
attribute [local go_sem ↓] Go.wp_at_zero Go.wp_at_succ

theorem cut_ {P G : Prop} (h : P) (k : P → G) : G := k h
theorem below_alloc {W w : World} (h : Below W.heap.size W w) (o : Obj) : Below W.heap.size W (w.alloc o) := h.alloc h.size o
theorem below_step {W X v : World} (h : Below W.heap.size W X) (hb : Below X.heap.size X v) : Below W.heap.size W v := h.trans (hb.mono h.size)
theorem Box.new1 (w : World) (o : Obj) (cs : Array Value) (t : TypeId) : Box ((w.alloc o).alloc (.cells cs t)) (w.heap.size + 1) cs t := by
  have := Box.new (w.alloc o) cs t
  rw [World.size_alloc] at this
  exact this
theorem box_after {X v : World} {cs : Array Value} {t : TypeId} (h : Below (X.alloc (.cells cs t)).heap.size (X.alloc (.cells cs t)) v) : Box v X.heap.size cs t := (Box.new X cs t).keep h
theorem box_after' {X v : World} {cs : Array Value} {t : TypeId} (h : Below (X.alloc (.cells cs t)).drew.heap.size (X.alloc (.cells cs t)).drew v) : Box v X.heap.size cs t := Box.keep (w := (X.alloc (.cells cs t)).drew) (Box.new X cs t) h
theorem Box.c0 {w : World} {g : Nat} {a b c : Value} {t : TypeId} (h : Box w g #[a, b, c] t) : w.cell? ⟨g, 0, none⟩ = some a := h.cell 0
theorem Box.c1 {w : World} {g : Nat} {a b c : Value} {t : TypeId} (h : Box w g #[a, b, c] t) : w.cell? ⟨g, 1, none⟩ = some b := h.cell 1
theorem Box.c2 {w : World} {g : Nat} {a b c : Value} {t : TypeId} (h : Box w g #[a, b, c] t) : w.cell? ⟨g, 2, none⟩ = some c := h.cell 2
/-- The three cells of a box are written. -/
theorem Box.set3 {w : World} {g : Nat} {a b c : Value} {t : TypeId} (h : Box w g #[a, b, c] t) (x y z : Value) : Box (((w.setCell ⟨g, 0, none⟩ x).setCell ⟨g, 1, none⟩ y).setCell ⟨g, 2, none⟩ z) g #[x, y, z] t := ((h.set 0 x).set 1 y).set 2 z
theorem Box.drew {w : World} {g : Nat} {cs : Array Value} {t : TypeId} (h : Box w g cs t) : Box w.drew g cs t := h
theorem OutI.drew {w : World} {t : Bool} {A : Option Addr} {c : Nat} {l : List Nat} {z : Int} (h : OutI w t A c l z) : OutI w.drew t A c l z := h.keep (Below.refl _ _).drew
theorem Out.alloc {w : World} {A : Option Addr} {c n : Nat} (h : Out w A c n) (o : Obj) : Out (w.alloc o) A c n := h.keep ((Below.refl _ _).alloc (Nat.le_refl _) _)
theorem OutI.alloc {w : World} {t : Bool} {A : Option Addr} {c : Nat} {l : List Nat} {z : Int} (h : OutI w t A c l z) (o : Obj) : OutI (w.alloc o) t A c l z := h.keep ((Below.refl _ _).alloc (Nat.le_refl _) _)

/-- A ratio and a second result. -/
def RetRX (w : World) (v : Value) (z : Int) (d : Nat) (e : Ending) (w' : World) : Prop :=
  ∃ t A c l B f m, e = .returned (.tuple #[.agg #[.bool t, .slice A l.length c, .slice B m.length f], v]) ∧ OutI w' t A c l z ∧ Out w' B f d ∧ m = limbs d ∧ Below w.heap.size w w'
theorem RetRX.stored {w w2 : World} {g : Nat} {t : Bool} {A B : Option Addr} {c f d : Nat} {l m : List Nat} {z : Int} (o1 : OutI w2 t A c l z) (o2 : Out w2 B f d) (hm : m = limbs d) (hb : Box w2 g #[.bool false, .slice none 0 0, .slice none 0 0] 27) (hbe : Below w.heap.size w w2) (hg : w.heap.size ≤ g)
    {fn : Func} {k k3 : Tmp} (hr : fn.results = #[.cell k 27, .tmp k3]) {tmps : Array Value} (hk : tmps.getD k undef = .pointer (some ⟨g, 0, none⟩)) {v : Value} (hz : tmps.getD k3 undef = v) :
    bodyPost Tryz.prog fn (RetRX w v z d) .ret ⟨tmps, []⟩ (((w2.setCell ⟨g, 0, none⟩ (.bool t)).setCell ⟨g, 1, none⟩ (.slice A l.length c)).setCell ⟨g, 2, none⟩ (.slice B m.length f)) := by
  obtain ⟨o7, b7⟩ := o1.mag.box3 hb rfl rfl rfl (u := .bool t) (v := .slice A l.length c) (s := .slice B m.length f) rfl rfl
  obtain ⟨o8, _⟩ := o2.box3 hb rfl rfl rfl (u := .bool t) (v := .slice A l.length c) (s := .slice B m.length f) rfl rfl
  exact bodyPost_ret (results_ratT hr hk hz b7) rfl ⟨t, A, c, l, B, f, m, rfl, ⟨o7, o1.sgn, o1.lim⟩, o8, hm, Below.box3 hbe hg _ _ _⟩

/-- What a region that keeps a ratio in a new variable leaves. -/
def RatCut (W : World) (z : Int) (d : Nat) (s4 : Value) (wx : World) : Prop := ∃ (g : Nat) (t : Bool) (A B : Option Addr) (c f : Nat) (l m : List Nat), s4 = .pointer (some ⟨g, 0, none⟩) ∧ Box wx g #[.bool t, .slice A l.length c, .slice B m.length f] 27 ∧ OutI wx t A c l z ∧ Out wx B f d ∧ m = limbs d ∧ Below W.heap.size W wx ∧ W.heap.size ≤ g
theorem RatCut.new {W v : World} {z : Int} {d : Nat} {t : Bool} {A B : Option Addr} {c f : Nat} {l m : List Nat} (o1 : OutI v t A c l z) (o2 : Out v B f d) (hm : m = limbs d) (hq : Below W.heap.size W v) (hg : W.heap.size ≤ v.heap.size) :
    RatCut W z d (.pointer (some ⟨v.heap.size, 0, none⟩)) (v.alloc (.cells #[.bool t, .slice A l.length c, .slice B m.length f] 27)) :=
  ⟨v.heap.size, t, A, B, c, f, l, m, rfl, Box.new v _ _, o1.alloc _, o2.alloc _, hm, below_alloc hq _, hg⟩
theorem RatCut.put {W v : World} {z : Int} {d g : Nat} {t : Bool} {A B : Option Addr} {c f : Nat} {l m : List Nat} (o1 : OutI v t A c l z) (o2 : Out v B f d) (hm : m = limbs d) (hb : Box v g #[.bool false, .slice none 0 0, .slice none 0 0] 27) (hq : Below W.heap.size W v) (hg : W.heap.size ≤ g) :
    RatCut W z d (.pointer (some ⟨g, 0, none⟩)) (((v.setCell ⟨g, 0, none⟩ (.bool t)).setCell ⟨g, 1, none⟩ (.slice A l.length c)).setCell ⟨g, 2, none⟩ (.slice B m.length f)) := by
  obtain ⟨o7, b7⟩ := o1.mag.box3 hb rfl rfl rfl (u := .bool t) (v := .slice A l.length c) (s := .slice B m.length f) rfl rfl
  obtain ⟨o8, _⟩ := o2.box3 hb rfl rfl rfl (u := .bool t) (v := .slice A l.length c) (s := .slice B m.length f) rfl rfl
  exact ⟨g, t, A, B, c, f, l, m, rfl, b7, ⟨o7, o1.sgn, o1.lim⟩, o8, hm, Below.box3 hq hg _ _ _, hg⟩

set_option maxHeartbeats 2000000 in
theorem value_any (t : Bool) (A : Option Addr) (c p : Nat) (l : List Nat) (z : Int) (w : World) (h : InI w t A c l z) (hp : p ≤ 9) :
    Calls Tryz.prog 23 #[.agg #[.bool t, .slice A l.length c, .int .i64 (p : Int)]] w (RetRX w (.int .i64 0) (rn z (10 ^ p)) (rd z (10 ^ p))) := by
  have hbel : Below w.heap.size w ((w.alloc (.cells #[.bool t, .slice A l.length c, .int .i64 (p : Int)] 29)).alloc (.cells #[.bool false, .slice none 0 0, .slice none 0 0] 27)) := ((Below.refl _ _).alloc (Nat.le_refl _) _).alloc (by simp) _
  have h' := h.keep hbel
  have ba : Box ((w.alloc (.cells #[.bool t, .slice A l.length c, .int .i64 (p : Int)] 29)).alloc (.cells #[.bool false, .slice none 0 0, .slice none 0 0] 27)) w.heap.size #[.bool t, .slice A l.length c, .int .i64 (p : Int)] 29 := (Box.new w _ _).alloc _
  have br := Box.new (w.alloc (.cells #[.bool t, .slice A l.length c, .int .i64 (p : Int)] 29)) #[.bool false, .slice none 0 0, .slice none 0 0] 27
  rw [World.size_alloc] at br
  have hz10 : ((10 ^ p : Nat) : Int) ≠ 0 := by have := Nat.pos_of_ne_zero (show 10 ^ p ≠ 0 by simp); exact Int.natCast_ne_zero.2 (by simp)
  have np := nlen_pow10 hp
  have p1 : nlen (((10 ^ p : Nat) : Int)).natAbs < 1099511627776 := by rw [Int.natAbs_natCast]; omega
  have hmz : mz z ((10 ^ p : Nat) : Int) = z := by unfold mz; rw [if_neg (Int.not_lt.2 (Int.natCast_nonneg _))]
  have HMZ := Lib.hid hmz; clear hmz
  have HAB := Lib.hid (show (((10 ^ p : Nat) : Int)).natAbs = 10 ^ p from Int.natAbs_natCast _)
  go_enter Tryz.func23, Tryz.ntmps23
  go_wp2_with fail
  refine (validPlaces_yes _ (by omega) (by omega) _).mono ?_
  rintro e w' ⟨rfl, rfl⟩
  go_upto_region 3 with fail
  generalize hW : (w.alloc (.cells #[.bool t, .slice A l.length c, .int .i64 (p : Int)] 29)).alloc (.cells #[.bool false, .slice none 0 0, .slice none 0 0] 27) = W at *
  clear hW
  have KK := Lib.hid (fun (W' : World) (hb : Below W.heap.size W W') => (⟨(ba.keep hb).cell 0, (ba.keep hb).cell 1, (ba.keep hb).cell 2⟩ : W'.cell? ⟨w.heap.size, 0, none⟩ = some (.bool t) ∧ W'.cell? ⟨w.heap.size, 1, none⟩ = some (.slice A l.length c) ∧ W'.cell? ⟨w.heap.size, 2, none⟩ = some (.int .i64 (p : Int))))
  obtain ⟨k0, k1, k2⟩ := KK.out W (Below.refl _ _)
  have bd : Below W.heap.size W W.drew := (Below.refl _ _).drew
  have PW := Lib.hid (fun X => power_any p hp X)
  go_cut [4, 5] (fun s4 _ wx => RatCut W (rn z (10 ^ p)) (rd z (10 ^ p)) s4 wx)
  case first =>
    have MK : Hid (∀ (X : World) (ta : Bool) (Aa : Option Addr) (ca : Nat) (la : List Nat), Below W.heap.size W X → OutI X ta Aa ca la ((10 ^ p : Nat) : Int) → Calls Tryz.prog 66 #[.agg #[.bool t, .slice A l.length c], .agg #[.bool ta, .slice Aa la.length ca]] X (RetRT X (rn z (10 ^ p)) (rd z (10 ^ p)))) := Lib.hid (fun X ta Aa ca la hX ho => by
      have := rmake_any _ _ _ _ _ _ _ _ _ _ X (h'.keep hX) (ho.toIn p1) hz10
      rw [HMZ.out, HAB.out] at this
      exact this)
    clear ba br h' h hbel
    go_region_held3 (fun w' => w'.cell? ⟨w.heap.size, 0, none⟩ = some (.bool t) ∧ w'.cell? ⟨w.heap.size, 1, none⟩ = some (.slice A l.length c) ∧ w'.cell? ⟨w.heap.size, 2, none⟩ = some (.int .i64 (p : Int))) (with_reducible first | exact ⟨k0, k1, k2⟩ | (refine KK.out _ ?_; repeat' (first | exact Below.refl _ _ | exact q2 | exact q1 | refine Below.drew ?_ | refine below_alloc ?_ _ | refine Below.setCell ?_ ?_ _ | exact Nat.le_refl _ | (show _ ≤ _; omega))))
      (first
        | (go_at_call 34; (with_reducible refine (PW.out _).mono ?_); rintro e v1 ⟨ta, Aa, ca, la, rfl, oa, ba1⟩; have q1 : Below W.heap.size W v1 := below_step (by with_reducible repeat' (first | exact Below.refl _ _ | exact q2 | exact q1 | refine Below.drew ?_ | refine below_alloc ?_ _)) ba1; have z1 := ba1.size; (try simp at z1); (try (have hx : Box v1 W.heap.size _ _ := box_after' ba1)))
        | (go_at_call 66; (with_reducible refine (MK.out _ _ _ _ _ (by with_reducible repeat' (first | exact Below.refl _ _ | exact q2 | exact q1 | refine Below.drew ?_ | refine below_alloc ?_ _)) (by with_reducible repeat' (first | exact oa | refine OutI.alloc ?_ _))).mono ?_); rintro e v2 ⟨tb, Ab, cb, lb, Bb, fb, mb, rfl, ob, oc, hm, bb⟩; have HM := Lib.hid hm; clear hm; have q2 : Below W.heap.size W v2 := below_step (by with_reducible repeat' (first | exact Below.refl _ _ | exact q2 | exact q1 | refine Below.drew ?_ | refine below_alloc ?_ _)) bb; have z2 := bb.size; (try simp at z2); (try (have hy := hx.keep bb; have e0 := hy.c0; have e1 := hy.c1; have e2 := hy.c2; have f0 := hy.frozen 0; have f1 := hy.frozen 1; have f2 := hy.frozen 2)); (try (have hy : Box v2 v1.heap.size _ _ := box_after bb; have e0 := hy.c0; have e1 := hy.c1; have e2 := hy.c2; have f0 := hy.frozen 0; have f1 := hy.frozen 1; have f2 := hy.frozen 2)))
        | fail)
    all_goals (go_wp2_with fail; go_meet)
    all_goals first
      | (exact RatCut.new ob oc HM.out q2 q2.size)
      | (exact RatCut.put ob oc HM.out hy q2 (by omega))
  case rest =>
    obtain ⟨g, t2, A2, B2, c2, f2, l2, m2, rfl, hb, o1, o2, hm, q, hg⟩ := hcut
    have HM := Lib.hid hm
    clear hm KK PW k0 k1 k2 bd ba h'
    have e0 := hb.c0
    have e1 := hb.c1
    have e2 := hb.c2
    have br1 := br.keep q
    have r0 := br1.c0
    have r1 := br1.c1
    have r2 := br1.c2
    have s0 := br1.frozen 0
    have s1 := br1.frozen 1
    have s2 := br1.frozen 2
    go_wp2_with fail
    exact RetRX.stored o1 o2 HM.out br1 (below_step hbel q) (by omega) Tryz.results23 rfl rfl
end Go.Proofs.YtnifjdhjimjihaaGreatDoor
