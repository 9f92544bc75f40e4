import Derived.Test.YtkmicjpoekbhfaaGreatDoorQNb
import Derived.RegionTactic
import Derived.Deep.DeepCutAuto
/- ratio.whole, parts, reduce. -/
set_option linter.unusedSimpArgs false
set_option linter.unusedVariables false
namespace Go.Proofs.YtkmicjpoekbhfaaGreatDoor
open Go.RowKit Lim
attribute [local go_sem ↓] Go.wp_at_zero Go.wp_at_succ

/-- The normal form of z / d. -/
def rn (z : Int) (d : Nat) : Int := sg (decide (z < 0)) (z.natAbs / Nat.gcd z.natAbs d)
def rd (z : Int) (d : Nat) : Nat := d / Nat.gcd z.natAbs d
theorem rd_pos (z : Int) {d : Nat} (h : 0 < d) : 0 < rd z d := Nat.div_pos (Nat.le_of_dvd h (Nat.gcd_dvd_right _ _)) (Nat.gcd_pos_of_pos_right _ h)
theorem rn_mul_nat (n d : Nat) : n / Nat.gcd n d * d = n * (d / Nat.gcd n d) := by
  obtain ⟨a, ha⟩ := Nat.gcd_dvd_left n d
  obtain ⟨b, hb⟩ := Nat.gcd_dvd_right n d
  rcases Nat.eq_zero_or_pos (Nat.gcd n d) with h0 | h0
  · have := Nat.gcd_eq_zero_iff.1 h0
    rw [this.1, this.2]; simp
  · generalize Nat.gcd n d = g at *
    subst ha hb
    rw [Nat.mul_div_cancel_left _ h0, Nat.mul_div_cancel_left _ h0]
    grind
theorem rn_mul (z : Int) (d : Nat) : rn z d * (d : Int) = z * (rd z d : Int) := by
  have h := rn_mul_nat z.natAbs d
  unfold rn rd sg
  by_cases hz : z < 0
  · simp only [hz, decide_true, if_true]
    have e : z = -(z.natAbs : Int) := by omega
    rw [Int.neg_mul, ← Int.natCast_mul, h, Int.natCast_mul]
    generalize d / Nat.gcd z.natAbs d = k
    have e2 : z * (k : Int) = -(z.natAbs : Int) * (k : Int) := by rw [← e]
    rw [e2, Int.neg_mul]
  · simp only [hz, decide_false, Bool.false_eq_true, if_false]
    have e : z = (z.natAbs : Int) := by omega
    rw [← Int.natCast_mul, h, Int.natCast_mul, ← e]
/-- A ratio as an argument. -/
structure InR (w : World) (t : Bool) (A : Option Addr) (c : Nat) (l : List Nat) (B : Option Addr) (f : Nat) (m : List Nat) (z : Int) (d : Nat) : Prop where
  num : InI w t A c l z
  den : In w B f m d
theorem InR.keep {w w' : World} {t : Bool} {A B : Option Addr} {c f d : Nat} {l m : List Nat} {z : Int} (h : InR w t A c l B f m z d) (hb : Below w.heap.size w w') : InR w' t A c l B f m z d := ⟨h.num.keep hb, h.den.keep hb⟩

end Go.Proofs.YtkmicjpoekbhfaaGreatDoor

/- ratio.Neg, Make, Cmp. -/
namespace Go.Proofs.YtkmicjpoekbhfaaGreatDoor
open Go.RowKit Lim
attribute [local go_sem ↓] Go.wp_at_zero Go.wp_at_succ

end Go.Proofs.YtkmicjpoekbhfaaGreatDoor

/- ratio.Make, Abs. -/
namespace Go.Proofs.YtkmicjpoekbhfaaGreatDoor
open Go.RowKit Lim
attribute [local go_sem ↓] Go.wp_at_zero Go.wp_at_succ

end Go.Proofs.YtkmicjpoekbhfaaGreatDoor

/- decimal.power, validPlaces, validMode, higher. -/
namespace Go.Proofs.YtkmicjpoekbhfaaGreatDoor
open Go.RowKit Lim
attribute [local go_sem ↓] Go.wp_at_zero Go.wp_at_succ

theorem nlen_pow10 {p : Nat} (hp : p ≤ 9) : nlen (10 ^ p) ≤ 1 := by
  apply nlen_le
  have h : 10 ^ p ≤ 10 ^ 9 := Nat.pow_le_pow_right (by omega) hp
  have : pw 1 = 4294967296 := by decide
  omega
theorem nlen_ten : nlen 10 ≤ 1 := nlen_pow10 (p := 1) (by omega)

theorem validPlaces_yes (p : Int) (h0 : 0 ≤ p) (h9 : p ≤ 9) (w : World) : Calls Tryz.prog 69 #[.int .i64 p] w fun e w' => e = .returned (.bool true) ∧ w = w' := by
  go_enter Tryz.func69, Tryz.ntmps69
  go_wp2
  go_ret
  exact ⟨rfl, rfl⟩
end Go.Proofs.YtkmicjpoekbhfaaGreatDoor

/- decimal.Value. -/
namespace Go.Proofs.YtkmicjpoekbhfaaGreatDoor
open Go.RowKit Lim
attribute [local go_sem ↓] Go.wp_at_zero Go.wp_at_succ

theorem below_alloc {W w : World} (h : Below W.heap.size W w) (o : Obj) : Below W.heap.size W (w.alloc o) := h.alloc h.size o
theorem below_step {W X v : World} (h : Below W.heap.size W X) (hb : Below X.heap.size X v) : Below W.heap.size W v := h.trans (hb.mono h.size)
theorem Box.new1 (w : World) (o : Obj) (cs : Array Value) (t : TypeId) : Box ((w.alloc o).alloc (.cells cs t)) (w.heap.size + 1) cs t := by
  have := Box.new (w.alloc o) cs t
  rw [World.size_alloc] at this
  exact this
theorem Box.c0 {w : World} {g : Nat} {a b c : Value} {t : TypeId} (h : Box w g #[a, b, c] t) : w.cell? ⟨g, 0, none⟩ = some a := h.cell 0
theorem Box.c1 {w : World} {g : Nat} {a b c : Value} {t : TypeId} (h : Box w g #[a, b, c] t) : w.cell? ⟨g, 1, none⟩ = some b := h.cell 1
theorem Box.c2 {w : World} {g : Nat} {a b c : Value} {t : TypeId} (h : Box w g #[a, b, c] t) : w.cell? ⟨g, 2, none⟩ = some c := h.cell 2
theorem Box.drew {w : World} {g : Nat} {cs : Array Value} {t : TypeId} (h : Box w g cs t) : Box w.drew g cs t := h
theorem OutI.drew {w : World} {t : Bool} {A : Option Addr} {c : Nat} {l : List Nat} {z : Int} (h : OutI w t A c l z) : OutI w.drew t A c l z := h.keep (Below.refl _ _).drew
theorem Out.alloc {w : World} {A : Option Addr} {c n : Nat} (h : Out w A c n) (o : Obj) : Out (w.alloc o) A c n := h.keep ((Below.refl _ _).alloc (Nat.le_refl _) _)
theorem OutI.alloc {w : World} {t : Bool} {A : Option Addr} {c : Nat} {l : List Nat} {z : Int} (h : OutI w t A c l z) (o : Obj) : OutI (w.alloc o) t A c l z := h.keep ((Below.refl _ _).alloc (Nat.le_refl _) _)

end Go.Proofs.YtkmicjpoekbhfaaGreatDoor

/- decimal.Round. -/
namespace Go.Proofs.YtkmicjpoekbhfaaGreatDoor
open Go.RowKit Lim
attribute [local go_sem ↓] Go.wp_at_zero Go.wp_at_succ

theorem Box.i0 {w : World} {g : Nat} {a b : Value} {t : TypeId} (h : Box w g #[a, b] t) : w.cell? ⟨g, 0, none⟩ = some a := h.cell 0
theorem Box.i1 {w : World} {g : Nat} {a b : Value} {t : TypeId} (h : Box w g #[a, b] t) : w.cell? ⟨g, 1, none⟩ = some b := h.cell 1
/-- Two integers in two variables of the region's own. -/
def IntCut (W : World) (uu rr : Int) (s9 s10 : Value) (wx : World) : Prop := ∃ (gq gr : Nat) (tq tr : Bool) (Aq Ar : Option Addr) (cq cr : Nat) (lq lr : List Nat), s9 = .pointer (some ⟨gq, 0, none⟩) ∧ s10 = .pointer (some ⟨gr, 0, none⟩) ∧ Box wx gq #[.bool tq, .slice Aq lq.length cq] 65 ∧ Box wx gr #[.bool tr, .slice Ar lr.length cr] 65 ∧ OutI wx tq Aq cq lq uu ∧ OutI wx tr Ar cr lr rr ∧ Below W.heap.size W wx ∧ W.heap.size ≤ gq ∧ W.heap.size ≤ gr ∧ gq ≠ gr
theorem IntCut.oo {W v : World} {uu rr : Int} {gq gr : Nat} {tq tr : Bool} {Aq Ar : Option Addr} {cq cr : Nat} {lq lr : List Nat} (oq : OutI v tq Aq cq lq uu) (orr : OutI v tr Ar cr lr rr) (q : Below W.heap.size W v) (bq : Box v gq #[.bool false, .slice none 0 0] 65) (br : Box v gr #[.bool false, .slice none 0 0] 65) (h1 : W.heap.size ≤ gq) (h2 : W.heap.size ≤ gr) (h3 : gq ≠ gr) :
    IntCut W uu rr (.pointer (some ⟨gq, 0, none⟩)) (.pointer (some ⟨gr, 0, none⟩)) ((((v.setCell ⟨gq, 0, none⟩ (.bool tq)).setCell ⟨gq, 1, none⟩ (.slice Aq lq.length cq)).setCell ⟨gr, 0, none⟩ (.bool tr)).setCell ⟨gr, 1, none⟩ (.slice Ar lr.length cr)) := by
  obtain ⟨oq1, bq1⟩ := oq.stored bq rfl rfl
  have or1 := orr.stored_far bq rfl rfl (u := .bool tq) rfl (.slice Aq lq.length cq)
  have br1 := (br.far (p := ⟨gq, 0, none⟩) (Ne.symm h3) (.bool tq)).far (p := ⟨gq, 1, none⟩) (Ne.symm h3) (.slice Aq lq.length cq)
  obtain ⟨or2, br2⟩ := or1.stored br1 rfl rfl
  have oq2 := oq1.stored_far br1 rfl rfl (u := .bool tr) rfl (.slice Ar lr.length cr)
  have bq2 := (bq1.far (p := ⟨gr, 0, none⟩) h3 (.bool tr)).far (p := ⟨gr, 1, none⟩) h3 (.slice Ar lr.length cr)
  exact ⟨gq, gr, tq, tr, Aq, Ar, cq, cr, lq, lr, rfl, rfl, bq2, br2, oq2, or2, Below.box2 (Below.box2 q h1 _ _) h2 _ _, h1, h2, h3⟩
theorem IntCut.on {W v : World} {uu rr : Int} {gq : Nat} {tq tr : Bool} {Aq Ar : Option Addr} {cq cr : Nat} {lq lr : List Nat} (oq : OutI v tq Aq cq lq uu) (orr : OutI v tr Ar cr lr rr) (q : Below W.heap.size W v) (bq : Box v gq #[.bool false, .slice none 0 0] 65) (h1 : W.heap.size ≤ gq) :
    IntCut W uu rr (.pointer (some ⟨gq, 0, none⟩)) (.pointer (some ⟨v.heap.size, 0, none⟩)) (((((v.alloc (.cells #[.bool false, .slice none 0 0] 65)).setCell ⟨gq, 0, none⟩ (.bool tq)).setCell ⟨gq, 1, none⟩ (.slice Aq lq.length cq)).setCell ⟨v.heap.size, 0, none⟩ (.bool tr)).setCell ⟨v.heap.size, 1, none⟩ (.slice Ar lr.length cr)) :=
  IntCut.oo (oq.alloc _) (orr.alloc _) (below_alloc q _) (bq.alloc _) (Box.new _ _ _) h1 q.size (Nat.ne_of_lt bq.lt)
theorem IntCut.nn {W v : World} {uu rr : Int} {tq tr : Bool} {Aq Ar : Option Addr} {cq cr : Nat} {lq lr : List Nat} (oq : OutI v tq Aq cq lq uu) (orr : OutI v tr Ar cr lr rr) (q : Below W.heap.size W v) :
    IntCut W uu rr (.pointer (some ⟨v.heap.size, 0, none⟩)) (.pointer (some ⟨v.heap.size + 1, 0, none⟩)) ((v.alloc (.cells #[.bool tq, .slice Aq lq.length cq] 65)).alloc (.cells #[.bool tr, .slice Ar lr.length cr] 65)) :=
  ⟨v.heap.size, v.heap.size + 1, tq, tr, Aq, Ar, cq, cr, lq, lr, rfl, rfl, (Box.new _ _ _).alloc _, Box.new1 _ _ _ _, (oq.alloc _).alloc _, (orr.alloc _).alloc _, below_alloc (below_alloc q _) _, q.size, Nat.le_trans q.size (Nat.le_succ _), by omega⟩
theorem IntCut.mm {W v : World} {uu rr : Int} {tq tr : Bool} {Aq Ar : Option Addr} {cq cr : Nat} {lq lr : List Nat} (oq : OutI v tq Aq cq lq uu) (orr : OutI v tr Ar cr lr rr) (q : Below W.heap.size W v) :
    IntCut W uu rr (.pointer (some ⟨v.heap.size + 1, 0, none⟩)) (.pointer (some ⟨v.heap.size, 0, none⟩)) ((v.alloc (.cells #[.bool tr, .slice Ar lr.length cr] 65)).alloc (.cells #[.bool tq, .slice Aq lq.length cq] 65)) :=
  ⟨v.heap.size + 1, v.heap.size, tq, tr, Aq, Ar, cq, cr, lq, lr, rfl, rfl, Box.new1 _ _ _ _, (Box.new _ _ _).alloc _, (oq.alloc _).alloc _, (orr.alloc _).alloc _, below_alloc (below_alloc q _) _, Nat.le_trans q.size (Nat.le_succ _), q.size, by omega⟩
/-- What Round returns. -/
def RetD (w : World) (u : Int) (p : Nat) (e : Ending) (w' : World) : Prop :=
  ∃ t A c l, e = .returned (.tuple #[.agg #[.bool t, .slice A l.length c, .int .i64 (p : Int)], .int .i64 0]) ∧ OutI w' t A c l u ∧ Below w.heap.size w w'

theorem results_dec {fn : Func} {k k3 : Tmp} (h : fn.results = #[.cell k 68, .tmp k3]) {tmps : Array Value} {g : Nat} (hg : tmps.getD k undef = .pointer (some ⟨g, 0, none⟩)) {v : Value} (hz : tmps.getD k3 undef = v) {W : World} {x y z : Value} (hb : Box W g #[x, y, z] 68) :
    (results fn tmps).run Tryz.prog W = .ok (.tuple #[.agg #[x, y, z], v]) W := by
  have q0 : W.cell? ⟨g, 0, none⟩ = some x := hb.cell 0
  have q1 : W.cell? ⟨g, 1, none⟩ = some y := hb.cell 1
  have q2 : W.cell? ⟨g, 2, none⟩ = some z := hb.cell 2
  have hg' : tmps[k]?.getD undef = .pointer (some ⟨g, 0, none⟩) := by simpa using hg
  have hz' : tmps[k3]?.getD undef = v := by simpa using hz
  simp [results, h, go_sem, hg', hz', q0, q1, q2]

theorem RetD.stored {w w2 : World} {g p : Nat} {t : Bool} {A : Option Addr} {c : Nat} {l : List Nat} {u : Int} (o1 : OutI w2 t A c l u) (hb : Box w2 g #[.bool false, .slice none 0 0, .int .i64 0] 68) (hbe : Below w.heap.size w w2) (hg : w.heap.size ≤ g)
    {fn : Func} {k k3 : Tmp} (hr : fn.results = #[.cell k 68, .tmp k3]) {tmps : Array Value} (hk : tmps.getD k undef = .pointer (some ⟨g, 0, none⟩)) (hz : tmps.getD k3 undef = .int .i64 0) :
    bodyPost Tryz.prog fn (RetD w u p) .ret ⟨tmps, []⟩ (((w2.setCell ⟨g, 0, none⟩ (.bool t)).setCell ⟨g, 1, none⟩ (.slice A l.length c)).setCell ⟨g, 2, none⟩ (.int .i64 (p : Int))) := by
  obtain ⟨o7, b7⟩ := o1.mag.box3 hb rfl rfl rfl (u := .bool t) (v := .slice A l.length c) (s := .int .i64 (p : Int)) rfl rfl
  exact bodyPost_ret (results_dec hr hk hz b7) rfl ⟨t, A, c, l, rfl, ⟨o7, o1.sgn, o1.lim⟩, Below.box3 hbe hg _ _ _⟩

end Go.Proofs.YtkmicjpoekbhfaaGreatDoor

/- decimal.Round and Value where they refuse; Integer. -/
namespace Go.Proofs.YtkmicjpoekbhfaaGreatDoor
open Go.RowKit Lim
attribute [local go_sem ↓] Go.wp_at_zero Go.wp_at_succ

end Go.Proofs.YtkmicjpoekbhfaaGreatDoor
