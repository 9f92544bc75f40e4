import Derived.Test.YtkmicjpoekbhfaaGreatDoorQNa
import Derived.Test.YtkmicjpoekbhfaaGreatDoorQShelf
import Derived.Deep.LoopGhost
import Derived.Deep.RegionHeld3
import Derived.Deep.DrawnRows
/- nat.divLong. -/
set_option linter.unusedSimpArgs false
set_option linter.unusedVariables false
namespace Go.Proofs.YtkmicjpoekbhfaaGreatDoor
open Go.RowKit Lim

/-- The loop's state. -/
def DlgRel (w wr : World) (gD gR gQ n1 n2 s la m k : Nat) (V : List Nat) : Prop :=
  ∃ R q : List Nat, R.length = la + 1 ∧ q.length + k = la - (m + 1) ∧ Dv (n1 * s) (n2 * s) R q k ∧ Blk wr gR R ∧ Blk wr gQ (List.replicate k 0 ++ q) ∧ Rd wr (some ⟨gD, 0, none⟩) V ∧ Below w.heap.size w wr

theorem zeros_set (j d : Nat) (q : List Nat) : (List.replicate (j + 1) 0 ++ q).set j d = List.replicate j 0 ++ d :: q := by
  rw [List.replicate_succ', List.append_assoc, List.set_append_right _ _ (by simp)]
  simp
theorem DlgRel.store {w wr : World} {gD gR gQ n1 n2 s la m j d : Nat} {V R q : List Nat} (lR : R.length = la + 1) (lq : q.length + (j + 1) = la - (m + 1)) (hdv : Dv (n1 * s) (n2 * s) R (d :: q) j) (hbR : Blk wr gR R) (hbQ : Blk wr gQ (List.replicate (j + 1) 0 ++ q)) (hrV : Rd wr (some ⟨gD, 0, none⟩) V) (hbe : Below w.heap.size w wr)
    (h1 : gR ≠ gQ) (h2 : gD ≠ gQ) (h3 : w.heap.size ≤ gQ) {u : Int} (hu : u = (d : Int)) : DlgRel w (wr.setCell ⟨gQ, j, none⟩ (.int .u32 u)) gD gR gQ n1 n2 s la m j V := by
  refine ⟨R, d :: q, lR, by simp; omega, hdv, hbR.far h1 _, ?_, hrV.only ((Only.refl gQ wr).setCell _ _) h2, hbe.setCell h3 _⟩
  have := hbQ.set j d hu
  rw [zeros_set] at this
  exact this
end Go.Proofs.YtkmicjpoekbhfaaGreatDoor

/- nat.DivMod, nat.Gcd, nat.Pow. -/
namespace Go.Proofs.YtkmicjpoekbhfaaGreatDoor
open Go.RowKit Lim

theorem In.limbs {w : World} {A : Option Addr} {c n : Nat} {l : List Nat} (h : In w A c l n) : In w A c (limbs n) n := h.trim.toIn h.nlen

theorem slen_pos (n : Nat) (h : 0 < n) : 0 < (limbs n).length := by
  have h0 : nlen n ≠ 0 := fun e => by have := nlen_eq_zero.1 e; omega
  unfold nlen at h0
  omega

end Go.Proofs.YtkmicjpoekbhfaaGreatDoor

/- integer.Make, Sign, Neg, Of. -/
namespace Go.Proofs.YtkmicjpoekbhfaaGreatDoor
open Go.RowKit Lim

/-- The integer of a sign and a magnitude. -/
def sg (t : Bool) (n : Nat) : Int := if t then -(n : Int) else (n : Int)
theorem sg_abs (t : Bool) (n : Nat) : (sg t n).natAbs = n := by unfold sg; split <;> omega

/-- An argument: an integer in any form. -/
structure InI (w : World) (t : Bool) (A : Option Addr) (c : Nat) (l : List Nat) (z : Int) : Prop where
  mag : In w A c l z.natAbs
  sgn : z = sg t z.natAbs
/-- A result: an integer in normal form. -/
structure OutI (w : World) (t : Bool) (A : Option Addr) (c : Nat) (l : List Nat) (z : Int) : Prop where
  mag : Out w A c z.natAbs
  sgn : t = decide (z < 0)
  lim : l = limbs z.natAbs
theorem InI.keep {w w' : World} {t : Bool} {A : Option Addr} {c : Nat} {l : List Nat} {z : Int} (h : InI w t A c l z) (hb : Below w.heap.size w w') : InI w' t A c l z := ⟨h.mag.keep hb, h.sgn⟩
theorem OutI.keep {w w' : World} {t : Bool} {A : Option Addr} {c : Nat} {l : List Nat} {z : Int} (h : OutI w t A c l z) (hb : Below w.heap.size w w') : OutI w' t A c l z := ⟨h.mag.keep hb, h.sgn, h.lim⟩
theorem OutI.toIn {w : World} {t : Bool} {A : Option Addr} {c : Nat} {l : List Nat} {z : Int} (h : OutI w t A c l z) (hl : nlen z.natAbs < 1099511627776) : InI w t A c l z :=
  ⟨by rw [h.lim]; exact h.mag.toIn hl, by rw [h.sgn]; unfold sg; by_cases hz : z < 0 <;> simp [hz] <;> omega⟩
theorem InI.of {w : World} {t : Bool} {A : Option Addr} {c : Nat} {l : List Nat} {n : Nat} (h : In w A c l n) : InI w t A c l (sg t n) := ⟨by rw [sg_abs]; exact h, by rw [sg_abs]⟩

/-- What a function that returns an integer leaves. -/
def RetI (w : World) (z : Int) (e : Ending) (w' : World) : Prop :=
  ∃ t A c l, e = .returned (.agg #[.bool t, .slice A l.length c]) ∧ OutI w' t A c l z ∧ Below w.heap.size w w'

/-- A block of the call's own (a boxed struct, a struct result). -/
def Box (w : World) (g : Nat) (cs : Array Value) (t : TypeId) : Prop := w.heap[g]? = some (.cells cs t (0, 0))
theorem Box.lt {w : World} {g : Nat} {cs : Array Value} {t : TypeId} (h : Box w g cs t) : g < w.heap.size := by
  rcases Nat.lt_or_ge g w.heap.size with hlt | hge
  · exact hlt
  · unfold Box at h; rw [Array.getElem?_eq_none hge] at h; cases h
theorem Box.cell {w : World} {g : Nat} {cs : Array Value} {t : TypeId} (h : Box w g cs t) (i : Nat) : w.cell? ⟨g, i, none⟩ = cs[i]? := cell_of_row w g i cs t (0, 0) h
theorem Box.frozen {w : World} {g : Nat} {cs : Array Value} {t : TypeId} (h : Box w g cs t) (i : Nat) : w.frozen? ⟨g, i, none⟩ = false := by
  unfold Box at h
  simp [World.frozen?, h]
theorem Box.new (w : World) (cs : Array Value) (t : TypeId) : Box (w.alloc (.cells cs t)) w.heap.size cs t := heap_alloc_new w _
theorem Box.alloc {w : World} {g : Nat} {cs : Array Value} {t : TypeId} (h : Box w g cs t) (o : Obj) : Box (w.alloc o) g cs t := (Below.heap_alloc w o g h.lt).trans h
theorem Box.keep {w w' : World} {g : Nat} {cs : Array Value} {t : TypeId} (h : Box w g cs t) (hb : Below w.heap.size w w') : Box w' g cs t := (hb.block g h.lt).trans h
theorem Box.below {w w' : World} {g B : Nat} {cs : Array Value} {t : TypeId} (h : Box w g cs t) (hb : Below B w w') (hg : g < B) : Box w' g cs t := (hb.block g hg).trans h
theorem Box.drewN {w : World} {g : Nat} {cs : Array Value} {t : TypeId} (h : Box w g cs t) (n : Nat) : Box (w.drewN n) g cs t := h

theorem Box.set {w : World} {g : Nat} {cs : Array Value} {t : TypeId} (h : Box w g cs t) (i : Nat) (u : Value) : Box (w.setCell ⟨g, i, none⟩ u) g (cs.setIfInBounds i u) t := by
  unfold Box at h ⊢
  simp [World.setCell, Array.getElem?_modify, h]
theorem Box.far {w : World} {g : Nat} {cs : Array Value} {t : TypeId} (h : Box w g cs t) {p : Addr} (hp : g ≠ p.block) (u : Value) : Box (w.setCell p u) g cs t := (Below.heap_setCell w p u g hp).trans h
/-- No limb. -/
def noLimb : Value → Bool | .int .u32 _ => false | _ => true
/-- A row of limbs doesn't lie in a block that holds no limbs. -/
theorem Rd.box {w : World} {A : Option Addr} {l : List Nat} {g : Nat} {cs : Array Value} {t : TypeId} (h : Rd w A l) (hb : Box w g cs t) (hn : cs.all noLimb = true) (i : Nat) (u : Value) : Rd (w.setCell ⟨g, i, none⟩ u) A l :=
  ⟨h.1, fun hl => by
    obtain ⟨b, off, e, hlt, hc⟩ := h.2 hl
    have hne : b ≠ g := by
      rintro rfl
      have h0 := hc 0 hl
      rw [hb.cell] at h0
      have := Array.all_eq_true'.1 hn _ (Array.mem_of_getElem? h0)
      simp [noLimb] at this
    refine ⟨b, off, e, by simpa [World.setCell] using hlt, fun j hj => ?_⟩
    rw [← hc j hj]
    exact World.cell?_of_block (w := w) (a := ⟨b, off + j, none⟩) (Below.heap_setCell w ⟨g, i, none⟩ u b hne)⟩
theorem Out.box {w : World} {A : Option Addr} {c n : Nat} {g : Nat} {cs : Array Value} {t : TypeId} (h : Out w A c n) (hb : Box w g cs t) (hn : cs.all noLimb = true) (i : Nat) (u : Value) : Out (w.setCell ⟨g, i, none⟩ u) A c n := ⟨h.rd.box hb hn i u, h.cap⟩
theorem In.box {w : World} {A : Option Addr} {c n : Nat} {l : List Nat} {g : Nat} {cs : Array Value} {t : TypeId} (h : In w A c l n) (hb : Box w g cs t) (hn : cs.all noLimb = true) (i : Nat) (u : Value) : In (w.setCell ⟨g, i, none⟩ u) A c l n := ⟨h.rd.box hb hn i u, h.cap, h.lim, h.val⟩
/-- Both cells of a box are written. -/
theorem Out.box2 {w : World} {A : Option Addr} {c n : Nat} {g : Nat} {x y : Value} {t : TypeId} (h : Out w A c n) (hb : Box w g #[x, y] t) (hx : noLimb x = true) (hy : noLimb y = true) {u v : Value} (hu : noLimb u = true) :
    Out ((w.setCell ⟨g, 0, none⟩ u).setCell ⟨g, 1, none⟩ v) A c n ∧ Box ((w.setCell ⟨g, 0, none⟩ u).setCell ⟨g, 1, none⟩ v) g #[u, v] t := by
  have h1 := h.box hb (by simp [hx, hy]) 0 u
  have b1 := hb.set 0 u
  exact ⟨h1.box b1 (by show (#[u, y] : Array Value).all noLimb = true; simp [hu, hy]) 1 v, b1.set 1 v⟩
theorem In.box2 {w : World} {A : Option Addr} {c n : Nat} {l : List Nat} {g : Nat} {x y : Value} {t : TypeId} (h : In w A c l n) (hb : Box w g #[x, y] t) (hx : noLimb x = true) (hy : noLimb y = true) {u v : Value} (hu : noLimb u = true) :
    In ((w.setCell ⟨g, 0, none⟩ u).setCell ⟨g, 1, none⟩ v) A c l n ∧ Box ((w.setCell ⟨g, 0, none⟩ u).setCell ⟨g, 1, none⟩ v) g #[u, v] t := by
  have h1 := h.box hb (by simp [hx, hy]) 0 u
  have b1 := hb.set 0 u
  exact ⟨h1.box b1 (by show (#[u, y] : Array Value).all noLimb = true; simp [hu, hy]) 1 v, b1.set 1 v⟩
theorem Out.box3 {w : World} {A : Option Addr} {c n : Nat} {g : Nat} {x y z : Value} {t : TypeId} (h : Out w A c n) (hb : Box w g #[x, y, z] t) (hx : noLimb x = true) (hy : noLimb y = true) (hz : noLimb z = true) {u v s : Value} (hu : noLimb u = true) (hv : noLimb v = true) :
    Out (((w.setCell ⟨g, 0, none⟩ u).setCell ⟨g, 1, none⟩ v).setCell ⟨g, 2, none⟩ s) A c n ∧ Box (((w.setCell ⟨g, 0, none⟩ u).setCell ⟨g, 1, none⟩ v).setCell ⟨g, 2, none⟩ s) g #[u, v, s] t := by
  have h1 := h.box hb (by simp [hx, hy, hz]) 0 u
  have b1 := hb.set 0 u
  have h2 := h1.box b1 (by show (#[u, y, z] : Array Value).all noLimb = true; simp [hu, hy, hz]) 1 v
  have b2 := b1.set 1 v
  exact ⟨h2.box b2 (by show (#[u, v, z] : Array Value).all noLimb = true; simp [hu, hv, hz]) 2 s, b2.set 2 s⟩
theorem Below.box3 {B g : Nat} {a w : World} (h : Below B a w) (hg : B ≤ g) (u v s : Value) : Below B a (((w.setCell ⟨g, 0, none⟩ u).setCell ⟨g, 1, none⟩ v).setCell ⟨g, 2, none⟩ s) := ((h.setCell hg u).setCell hg v).setCell hg s
theorem Below.box2 {B g : Nat} {a w : World} (h : Below B a w) (hg : B ≤ g) (u v : Value) : Below B a ((w.setCell ⟨g, 0, none⟩ u).setCell ⟨g, 1, none⟩ v) := (h.setCell hg u).setCell hg v

/-- A struct of two cells, returned out of its box. -/
theorem results_int {fn : Func} {k : Tmp} (h : fn.results = #[.cell k 65]) {tmps : Array Value} {g : Nat} (hg : tmps.getD k undef = .pointer (some ⟨g, 0, none⟩)) {W : World} {x y : Value} (hb : Box W g #[x, y] 65) :
    (results fn tmps).run Tryz.prog W = .ok (.agg #[x, y]) W := by
  have q0 : W.cell? ⟨g, 0, none⟩ = some x := hb.cell 0
  have q1 : W.cell? ⟨g, 1, none⟩ = some y := hb.cell 1
  have hg' : tmps[k]?.getD undef = .pointer (some ⟨g, 0, none⟩) := by simpa using hg
  simp [results, h, go_sem, hg', q0, q1]

set_option maxHeartbeats 1000000 in
theorem make_any (t : Bool) (A : Option Addr) (c n : Nat) (l : List Nat) (w : World) (h : In w A c l n) :
    Calls Tryz.prog 73 #[.bool t, .slice A l.length c] w (RetI w (sg t n)) := by
  have h' : In (w.alloc (.cells #[.bool false, .slice none 0 0] 65)) A c l n := h.keep ((Below.refl _ _).alloc (Nat.le_refl _) _)
  have hbx := Box.new w #[.bool false, .slice none 0 0] 65
  obtain ⟨t', ht'⟩ : ∃ t', t' = decide (sg t n < 0) := ⟨_, rfl⟩
  have hg : (t = false → t' = false) ∧ (t = true → t' = decide (0 < (limbs n).length)) := by
    subst ht'
    constructor
    · rintro rfl; simp [sg]
    · rintro rfl
      have : (0 < (limbs n).length) ↔ 0 < n := by
        constructor
        · intro h; rcases Nat.eq_zero_or_pos n with h0 | h0
          · rw [h0, limbs_zero] at h; simp at h
          · exact h0
        · exact slen_pos n
      rw [Bool.eq_iff_iff]
      simp [sg]
      omega
  have HT := Lib.hid ht'; clear ht'
  cases t
  · obtain rfl := hg.1 rfl
    clear hg
    go_enter Tryz.func73, Tryz.ntmps73
    go_wp2_with fail
    refine (norm_any _ _ _ _ _ h').mono ?_
    rintro e w1 ⟨B, d, rfl, o1, b1⟩
    have hb1 := hbx.keep b1
    have e0 : w1.cell? ⟨w.heap.size, 0, none⟩ = some (.bool false) := hb1.cell 0
    have e1 : w1.cell? ⟨w.heap.size, 1, none⟩ = some (.slice none 0 0) := hb1.cell 1
    have f0 := hb1.frozen 0
    have f1 := hb1.frozen 1
    go_wp2
    obtain ⟨o2, b2⟩ := o1.box2 hb1 rfl rfl (u := .bool false) (v := .slice B (limbs n).length d) rfl
    have b3 := Below.box2 (((Below.refl w.heap.size w).alloc (Nat.le_refl _) (.cells #[.bool false, .slice none 0 0] 65)).trans (b1.mono (by simp))) (Nat.le_refl _) (.bool false) (.slice B (limbs n).length d)
    exact bodyPost_ret (results_int Tryz.results73 rfl b2) rfl ⟨false, B, d, limbs n, rfl, ⟨by rw [sg_abs]; exact o2, HT.out, by rw [sg_abs]⟩, b3⟩
  · have ht := hg.2 rfl
    have ht2 := ht.symm
    clear hg ht
    go_enter Tryz.func73, Tryz.ntmps73
    go_wp2_with fail
    refine (norm_any _ _ _ _ _ h').mono ?_
    rintro e w1 ⟨B, d, rfl, o1, b1⟩
    have hb1 := hbx.keep b1
    have e0 : w1.cell? ⟨w.heap.size, 0, none⟩ = some (.bool false) := hb1.cell 0
    have e1 : w1.cell? ⟨w.heap.size, 1, none⟩ = some (.slice none 0 0) := hb1.cell 1
    have f0 := hb1.frozen 0
    have f1 := hb1.frozen 1
    go_wp2
    obtain ⟨o2, b2⟩ := o1.box2 hb1 rfl rfl (u := .bool t') (v := .slice B (limbs n).length d) rfl
    have b3 := Below.box2 (((Below.refl w.heap.size w).alloc (Nat.le_refl _) (.cells #[.bool false, .slice none 0 0] 65)).trans (b1.mono (by simp))) (Nat.le_refl _) (.bool t') (.slice B (limbs n).length d)
    exact bodyPost_ret (results_int Tryz.results73 rfl b2) rfl ⟨t', B, d, limbs n, rfl, ⟨by rw [sg_abs]; exact o2, HT.out, by rw [sg_abs]⟩, b3⟩

/-- An integer that a callee returned is stored into the result's box. -/
theorem OutI.stored {w1 : World} {t : Bool} {A : Option Addr} {c : Nat} {l : List Nat} {z : Int} {g : Nat} {x y : Value} (h : OutI w1 t A c l z) (hb : Box w1 g #[x, y] 65) (hx : noLimb x = true) (hy : noLimb y = true) :
    OutI ((w1.setCell ⟨g, 0, none⟩ (.bool t)).setCell ⟨g, 1, none⟩ (.slice A l.length c)) t A c l z ∧ Box ((w1.setCell ⟨g, 0, none⟩ (.bool t)).setCell ⟨g, 1, none⟩ (.slice A l.length c)) g #[.bool t, .slice A l.length c] 65 := by
  obtain ⟨o2, b2⟩ := h.mag.box2 hb hx hy (u := .bool t) (v := .slice A l.length c) rfl
  exact ⟨⟨o2, h.sgn, h.lim⟩, b2⟩
/-- The sign of an integer, as Go has it. -/
def sgnI (z : Int) : Int := if z < 0 then -1 else if 0 < z then 1 else 0
theorem sgn_of {t : Bool} {z : Int} (h : z = sg t z.natAbs) : sgnI z = if t then -(cmpI z.natAbs 0) else cmpI z.natAbs 0 := by
  unfold sg at h
  unfold sgnI cmpI
  cases t
  · simp at h ⊢; omega
  · simp at h ⊢; omega

set_option maxHeartbeats 1000000 in
theorem sign_any (t : Bool) (A : Option Addr) (c : Nat) (l : List Nat) (z : Int) (w : World) (h : InI w t A c l z) :
    Calls Tryz.prog 72 #[.agg #[.bool t, .slice A l.length c]] w fun e w' => e = .returned (.int .i64 (sgnI z)) ∧ Below w.heap.size w w' := by
  have hs := sgn_of h.sgn
  obtain ⟨k0, k1⟩ := cmpI_bd z.natAbs 0
  have h' : In (w.alloc (.cells #[.bool t, .slice A l.length c] 65)) A c l z.natAbs := h.mag.keep ((Below.refl _ _).alloc (Nat.le_refl _) _)
  cases t
  all_goals
    simp only [if_true, Bool.false_eq_true, if_false] at hs
    have HS := Lib.hid hs; clear hs
    go_enter Tryz.func72, Tryz.ntmps72
    go_wp2_with fail
    refine (cmp_any _ _ _ _ _ _ _ [] _ h' (In.zero _)).mono ?_
    rintro e w1 ⟨rfl, m, rfl⟩
    go_wp2
    go_ret
    exact ⟨by rw [HS.out]; rfl, below_drewN ((Below.refl _ _).alloc (Nat.le_refl _) _) _⟩

set_option maxHeartbeats 1000000 in
theorem iof_any (z : Int) (hz1 : -9223372036854775808 ≤ z) (hz2 : z ≤ 9223372036854775807) (w : World) :
    Calls Tryz.prog 46 #[.int .i64 z] w (RetI w z) := by
  have hbx := Box.new w #[.bool false, .slice none 0 0] 65
  have hlim : nlen z.natAbs < 1099511627776 := by
    have h1 : z.natAbs < pw 2 := by
      have : pw 2 = 18446744073709551616 := by decide
      omega
    have := nlen_le h1
    omega
  by_cases hneg : z < 0
  · obtain ⟨n, hn⟩ : ∃ n : Nat, z = -(n : Int) := ⟨z.natAbs, by omega⟩
    have hb : n < 18446744073709551616 := by omega
    have hw : IntKind.u64.wrap (-IntKind.u64.wrap z) = (n : Int) := by rw [IntKind.wrap_u64, IntKind.wrap_u64]; omega
    have hsg : sg true n = z := by unfold sg; simp [hn]
    have hlim' : nlen n < 1099511627776 := by have : z.natAbs = n := by omega
                                              rw [← this]; exact hlim
    have HS := Lib.hid hsg; clear hsg hlim
    have HN := Lib.hid hn; clear hn
    go_enter Tryz.func46, Tryz.ntmps46
    go_wp2_with fail
    refine (of_any n hb _).mono ?_
    rintro e w1 ⟨B, d, rfl, o1, b1⟩
    go_wp2_with fail
    refine (make_any _ _ _ _ _ _ (o1.toIn hlim')).mono ?_
    rw [HS.out]
    rintro e w2 ⟨t', B2, d2, l', rfl, o2, b2⟩
    have hb1 := (hbx.keep b1).keep b2
    have e0 : w2.cell? ⟨w.heap.size, 0, none⟩ = some (.bool false) := hb1.cell 0
    have e1 : w2.cell? ⟨w.heap.size, 1, none⟩ = some (.slice none 0 0) := hb1.cell 1
    have f0 := hb1.frozen 0
    have f1 := hb1.frozen 1
    go_wp2
    obtain ⟨o3, b3⟩ := o2.stored hb1 rfl rfl
    exact bodyPost_ret (results_int Tryz.results46 rfl b3) rfl ⟨t', B2, d2, l', rfl, o3, Below.box2 ((((Below.refl w.heap.size w).alloc (Nat.le_refl _) _).trans (b1.mono (by simp))).trans (b2.mono (Nat.le_trans (by simp) b1.size))) (Nat.le_refl _) _ _⟩
  · obtain ⟨n, rfl⟩ : ∃ n : Nat, z = (n : Int) := ⟨z.natAbs, by omega⟩
    have hb : n < 18446744073709551616 := by omega
    have HS := Lib.hid (show sg false n = (n : Int) from rfl)
    have hlim' : nlen n < 1099511627776 := hlim
    clear hlim
    go_enter Tryz.func46, Tryz.ntmps46
    go_wp2_with fail
    refine (of_any n hb _).mono ?_
    rintro e w1 ⟨B, d, rfl, o1, b1⟩
    go_wp2_with fail
    refine (make_any _ _ _ _ _ _ (o1.toIn hlim')).mono ?_
    rw [HS.out]
    rintro e w2 ⟨t', B2, d2, l', rfl, o2, b2⟩
    have hb1 := (hbx.keep b1).keep b2
    have e0 : w2.cell? ⟨w.heap.size, 0, none⟩ = some (.bool false) := hb1.cell 0
    have e1 : w2.cell? ⟨w.heap.size, 1, none⟩ = some (.slice none 0 0) := hb1.cell 1
    have f0 := hb1.frozen 0
    have f1 := hb1.frozen 1
    go_wp2
    obtain ⟨o3, b3⟩ := o2.stored hb1 rfl rfl
    exact bodyPost_ret (results_int Tryz.results46 rfl b3) rfl ⟨t', B2, d2, l', rfl, o3, Below.box2 ((((Below.refl w.heap.size w).alloc (Nat.le_refl _) _).trans (b1.mono (by simp))).trans (b2.mono (Nat.le_trans (by simp) b1.size))) (Nat.le_refl _) _ _⟩
end Go.Proofs.YtkmicjpoekbhfaaGreatDoor

/- integer.Cmp, Add, Sub, Mul, DivMod. -/
namespace Go.Proofs.YtkmicjpoekbhfaaGreatDoor
open Go.RowKit Lim
attribute [local go_sem ↓] Go.wp_at_zero Go.wp_at_succ

/-- Two integers in their boxes, and the result's box. -/
structure Boxes (W : World) (g : Nat) (t1 t2 : Bool) (v1 v2 : Value) : Prop where
  a : Box W g #[.bool t1, v1] 65
  b : Box W (g + 1) #[.bool t2, v2] 65
  r : Box W (g + 2) #[.bool false, .slice none 0 0] 65
theorem Boxes.new (w : World) (t1 t2 : Bool) (v1 v2 : Value) : Boxes (((w.alloc (.cells #[.bool t1, v1] 65)).alloc (.cells #[.bool t2, v2] 65)).alloc (.cells #[.bool false, .slice none 0 0] 65)) w.heap.size t1 t2 v1 v2 :=
  ⟨((Box.new w _ _).alloc _).alloc _, (by have := (Box.new (w.alloc (.cells #[.bool t1, v1] 65)) #[.bool t2, v2] 65).alloc (.cells #[.bool false, .slice none 0 0] 65); rw [World.size_alloc] at this; exact this),
   (by have := Box.new ((w.alloc (.cells #[.bool t1, v1] 65)).alloc (.cells #[.bool t2, v2] 65)) #[.bool false, .slice none 0 0] 65; rw [World.size_alloc, World.size_alloc] at this; exact this)⟩
theorem Boxes.keep {W W' : World} {g : Nat} {t1 t2 : Bool} {v1 v2 : Value} (h : Boxes W g t1 t2 v1 v2) (hb : Below W.heap.size W W') : Boxes W' g t1 t2 v1 v2 := ⟨h.a.keep hb, h.b.keep hb, h.r.keep hb⟩
theorem Boxes.drew {W : World} {g : Nat} {t1 t2 : Bool} {v1 v2 : Value} (h : Boxes W g t1 t2 v1 v2) : Boxes W.drew g t1 t2 v1 v2 := ⟨h.a, h.b, h.r⟩
theorem Boxes.cells {W : World} {g : Nat} {t1 t2 : Bool} {v1 v2 : Value} (h : Boxes W g t1 t2 v1 v2) :
    W.cell? ⟨g, 0, none⟩ = some (.bool t1) ∧ W.cell? ⟨g, 1, none⟩ = some v1 ∧ W.cell? ⟨g + 1, 0, none⟩ = some (.bool t2) ∧ W.cell? ⟨g + 1, 1, none⟩ = some v2 :=
  ⟨h.a.cell 0, h.a.cell 1, h.b.cell 0, h.b.cell 1⟩

end Go.Proofs.YtkmicjpoekbhfaaGreatDoor

/- integer.Add, DivMod. -/
namespace Go.Proofs.YtkmicjpoekbhfaaGreatDoor
open Go.RowKit Lim
attribute [local go_sem ↓] Go.wp_at_zero Go.wp_at_succ

end Go.Proofs.YtkmicjpoekbhfaaGreatDoor

/- integer.DivMod, by a positive divisor. -/
namespace Go.Proofs.YtkmicjpoekbhfaaGreatDoor
open Go.RowKit Lim
attribute [local go_sem ↓] Go.wp_at_zero Go.wp_at_succ

theorem OutI.stored_far {w1 : World} {t : Bool} {A : Option Addr} {c : Nat} {l : List Nat} {z : Int} {g : Nat} {x y : Value} (h : OutI w1 t A c l z) (hb : Box w1 g #[x, y] 65) (hx : noLimb x = true) (hy : noLimb y = true) {u : Value} (hu : noLimb u = true) (v : Value) :
    OutI ((w1.setCell ⟨g, 0, none⟩ u).setCell ⟨g, 1, none⟩ v) t A c l z := ⟨(h.mag.box2 hb hx hy hu).1, h.sgn, h.lim⟩

/-- The boxes of DivMod. -/
structure Boxes4 (W : World) (g : Nat) (t1 t2 : Bool) (v1 v2 : Value) : Prop where
  a : Box W g #[.bool t1, v1] 65
  b : Box W (g + 1) #[.bool t2, v2] 65
  q : Box W (g + 1 + 1) #[.bool false, .slice none 0 0] 65
  r : Box W (g + 1 + 1 + 1) #[.bool false, .slice none 0 0] 65
theorem Boxes4.keep {W W' : World} {g : Nat} {t1 t2 : Bool} {v1 v2 : Value} (h : Boxes4 W g t1 t2 v1 v2) (hb : Below W.heap.size W W') : Boxes4 W' g t1 t2 v1 v2 := ⟨h.a.keep hb, h.b.keep hb, h.q.keep hb, h.r.keep hb⟩
theorem Boxes4.new (w : World) (t1 t2 : Bool) (v1 v2 : Value) : Boxes4 ((((w.alloc (.cells #[.bool t1, v1] 65)).alloc (.cells #[.bool t2, v2] 65)).alloc (.cells #[.bool false, .slice none 0 0] 65)).alloc (.cells #[.bool false, .slice none 0 0] 65)) w.heap.size t1 t2 v1 v2 := by
  have h := Boxes.new w t1 t2 v1 v2
  refine ⟨h.a.alloc _, h.b.alloc _, h.r.alloc _, ?_⟩
  have := Box.new (((w.alloc (.cells #[.bool t1, v1] 65)).alloc (.cells #[.bool t2, v2] 65)).alloc (.cells #[.bool false, .slice none 0 0] 65)) #[.bool false, .slice none 0 0] 65
  rw [World.size_alloc, World.size_alloc, World.size_alloc] at this
  exact this
theorem Boxes4.cells {W : World} {g : Nat} {t1 t2 : Bool} {v1 v2 : Value} (h : Boxes4 W g t1 t2 v1 v2) :
    W.cell? ⟨g, 0, none⟩ = some (.bool t1) ∧ W.cell? ⟨g + 1, 0, none⟩ = some (.bool t2) ∧ W.cell? ⟨g + 1, 1, none⟩ = some v2 :=
  ⟨h.a.cell 0, h.b.cell 0, h.b.cell 1⟩

end Go.Proofs.YtkmicjpoekbhfaaGreatDoor
