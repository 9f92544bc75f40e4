/- Words for memory: a slice of 32-bit limbs that reads as a list; a block that is known whole; what stays as it was. -/
import Derived.Test.YtnifjdhjimjihaaGreatDoorRows
import Derived.Test.YtnifjdhjimjihaaGreatDoorMath
import Derived.WalkKit
import Derived.WalkSpells
import Derived.Below
import Derived.Laws.OwnMore
import Derived.Deep.AppendLies
import Derived.Deep.Draws
import Derived.Lib.Hide
import Derived.Deep.OwnRows
import Derived.Laws.Rows
namespace Go.Proofs.YtnifjdhjimjihaaGreatDoor
open Go.RowKit Lim

theorem vint {k : IntKind} {a b : Int} (h : a = b) : Value.int k a = Value.int k b := by rw [h]
theorem ret_int {k : IntKind} {a b : Int} (h : a = b) : Ending.returned (.int k a) = .returned (.int k b) := by rw [h]
/-- The length in a slice's value: for a loop's measure. -/
def lenOf : Value → Nat | .slice _ n _ => n | _ => 0

/-- The slice value v reads as the limbs l. -/
def Rd (w : World) (A : Option Addr) (l : List Nat) : Prop :=
  Dig l ∧ (0 < l.length → ∃ b off, A = some ⟨b, off, none⟩ ∧ b < w.heap.size ∧ ∀ j (h : j < l.length), w.cell? ⟨b, off + j, none⟩ = some (.int .u32 (l[j] : Nat)))

theorem Rd.nil (w : World) (A : Option Addr) : Rd w A [] := ⟨dig_nil, fun h => absurd h (by simp)⟩
theorem Rd.keep {w w' : World} {A : Option Addr} {l : List Nat} (h : Rd w A l) (hb : Below w.heap.size w w') : Rd w' A l :=
  ⟨h.1, fun hl => by
    obtain ⟨b, off, e, hlt, hc⟩ := h.2 hl
    exact ⟨b, off, e, Nat.lt_of_lt_of_le hlt hb.size, fun j hj => (hb.cell (p := ⟨b, off + j, none⟩) hlt).trans (hc j hj)⟩⟩
theorem Rd.take {w : World} {A : Option Addr} {l : List Nat} (h : Rd w A l) (k : Nat) : Rd w A (l.take k) :=
  ⟨dig_take h.1 k, fun hl => by
    have hl' : (l.take k).length ≤ l.length := by simp; omega
    obtain ⟨b, off, e, hlt, hc⟩ := h.2 (by omega)
    exact ⟨b, off, e, hlt, fun j hj => by rw [List.getElem_take]; exact hc j (by omega)⟩⟩
theorem Rd.at_ {w : World} {A : Option Addr} {l : List Nat} (h : Rd w A l) {k : Nat} (hk : k < l.length) :
    ∃ b off, A = some ⟨b, off, none⟩ ∧ b < w.heap.size ∧ w.cell? ⟨b, off + k, none⟩ = some (.int .u32 (l[k] : Nat)) := by
  obtain ⟨b, off, e, hlt, hc⟩ := h.2 (by omega)
  exact ⟨b, off, e, hlt, hc k hk⟩

/-- An argument: the slice of limbs l, of value n, not too long. -/
structure In (w : World) (A : Option Addr) (c : Nat) (l : List Nat) (n : Nat) : Prop where
  rd : Rd w A l
  cap : l.length ≤ c
  lim : l.length < 1099511627776
  val : val l = n

/-- A row of limbs on its way to trim. -/
structure Raw (w : World) (A : Option Addr) (c : Nat) (l : List Nat) (n : Nat) : Prop where
  rd : Rd w A l
  cap : l.length ≤ c
  lim : l.length ≤ 4398046511104
  val : val l = n

/-- A result: the number n in normal form. -/
structure Out (w : World) (A : Option Addr) (c : Nat) (n : Nat) : Prop where
  rd : Rd w A (limbs n)
  cap : (limbs n).length ≤ c

theorem Out.toIn {w : World} {A : Option Addr} {c n : Nat} (h : Out w A c n) (hl : nlen n < 1099511627776) : In w A c (limbs n) n := ⟨h.rd, h.cap, hl, val_limbs n⟩
theorem In.keep {w w' : World} {A : Option Addr} {c n : Nat} {l : List Nat} (h : In w A c l n) (hb : Below w.heap.size w w') : In w' A c l n := ⟨h.rd.keep hb, h.cap, h.lim, h.val⟩
theorem Out.keep {w w' : World} {A : Option Addr} {c n : Nat} (h : Out w A c n) (hb : Below w.heap.size w w') : Out w' A c n := ⟨h.rd.keep hb, h.cap⟩
theorem In.toRaw {w : World} {A : Option Addr} {c n : Nat} {l : List Nat} (h : In w A c l n) : Raw w A c l n := ⟨h.rd, h.cap, by have := h.lim; omega, h.val⟩
theorem Raw.trim {w : World} {A : Option Addr} {c n : Nat} {l : List Nat} (h : Raw w A c l n) : Out w A c n := by
  obtain ⟨hr, hc, hl, rfl⟩ := h
  have e := limbs_prefix hr.1
  have hle : (limbs (Lim.val l)).length ≤ l.length := nlen_val hr.1
  exact ⟨by rw [e]; exact hr.take _, by omega⟩
theorem In.trim {w : World} {A : Option Addr} {c n : Nat} {l : List Nat} (h : In w A c l n) : Out w A c n := h.toRaw.trim
theorem In.nlen {w : World} {A : Option Addr} {c n : Nat} {l : List Nat} (h : In w A c l n) : nlen n < 1099511627776 := by
  obtain ⟨hr, hc, hl, rfl⟩ := h
  have := nlen_val hr.1
  omega
theorem In.zero (w : World) : In w none 0 [] 0 := ⟨Rd.nil _ _, by simp, by simp, rfl⟩
theorem Out.zero (w : World) (A : Option Addr) (c : Nat) : Out w A c 0 := by
  refine ⟨?_, ?_⟩
  · rw [limbs_zero]; exact Rd.nil _ _
  · rw [limbs_zero]; simp
/-- The cells of a row of limbs. -/
def cells (l : List Nat) : Array Value := (l.map fun x => Value.int .u32 ((x : Nat) : Int)).toArray
theorem cells_get (l : List Nat) (i : Nat) (h : i < l.length) : (cells l)[i]? = some (.int .u32 ((l[i] : Nat) : Int)) := by
  unfold cells
  simp [h]
theorem cells_size (l : List Nat) : (cells l).size = l.length := by simp [cells]
theorem cells_set (l : List Nat) (i x : Nat) : (cells l).setIfInBounds i (.int .u32 ((x : Nat) : Int)) = cells (l.set i x) := by
  unfold cells
  simp [List.map_set]
theorem cells_made (n : Nat) : madeCells #[.int .u32 0] n = cells (List.replicate n 0) := by
  apply Array.ext
  · simp [cells, size_madeCells]
  · intro i h1 h2
    simp [madeCells, cells, Nat.mod_one]

/-- The block g is just the limbs l, none frozen. -/
def Blk (w : World) (g : Nat) (l : List Nat) : Prop := w.heap[g]? = some (.cells (cells l) 55 (0, 0))
theorem Blk.lt {w : World} {g : Nat} {l : List Nat} (h : Blk w g l) : g < w.heap.size := by
  rcases Nat.lt_or_ge g w.heap.size with hlt | hge
  · exact hlt
  · unfold Blk at h; rw [Array.getElem?_eq_none hge] at h; cases h
theorem Blk.cell {w : World} {g : Nat} {l : List Nat} (h : Blk w g l) {i : Nat} (hi : i < l.length) : w.cell? ⟨g, i, none⟩ = some (.int .u32 ((l[i] : Nat) : Int)) :=
  (cell_of_row w g i _ _ (0, 0) h).trans (cells_get l i hi)
theorem Blk.frozen {w : World} {g : Nat} {l : List Nat} (h : Blk w g l) (i : Nat) : w.frozen? ⟨g, i, none⟩ = false := by
  unfold Blk at h
  simp [World.frozen?, h]
theorem Blk.new (w : World) (l : List Nat) : Blk (w.alloc (.cells (cells l) 55)) w.heap.size l := heap_alloc_new w _
theorem Blk.drew {w : World} {g : Nat} {l : List Nat} (h : Blk w g l) : Blk w.drew g l := h
theorem Blk.drewN {w : World} {g : Nat} {l : List Nat} (h : Blk w g l) (n : Nat) : Blk (w.drewN n) g l := h
theorem Blk.alloc {w : World} {g : Nat} {l : List Nat} (h : Blk w g l) (o : Obj) : Blk (w.alloc o) g l := (Below.heap_alloc w o g h.lt).trans h
theorem Blk.set {w : World} {g : Nat} {l : List Nat} (h : Blk w g l) (i x : Nat) {u : Int} (hu : u = ((x : Nat) : Int)) : Blk (w.setCell ⟨g, i, none⟩ (.int .u32 u)) g (l.set i x) := by
  subst hu
  unfold Blk at h ⊢
  rw [← cells_set]
  simp [World.setCell, Array.getElem?_modify, h]
theorem Blk.far {w : World} {g : Nat} {l : List Nat} (h : Blk w g l) {p : Addr} (hp : g ≠ p.block) (u : Value) : Blk (w.setCell p u) g l := (Below.heap_setCell w p u g hp).trans h
theorem Blk.below {w w' : World} {g : Nat} {l : List Nat} {B : Nat} (h : Blk w g l) (hb : Below B w w') (hg : g < B) : Blk w' g l := (hb.block g hg).trans h
theorem Blk.keep {w w' : World} {g : Nat} {l : List Nat} (h : Blk w g l) (hb : Below w.heap.size w w') : Blk w' g l := (hb.block g h.lt).trans h
theorem Blk.rd {w : World} {g : Nat} {l : List Nat} (h : Blk w g l) (hd : Dig l) : Rd w (some ⟨g, 0, none⟩) l :=
  ⟨hd, fun _ => ⟨g, 0, rfl, h.lt, fun j hj => by rw [Nat.zero_add]; exact h.cell hj⟩⟩
/-- A part of a block: from off on, so many limbs. -/
theorem Blk.rdAt {w : World} {g : Nat} {l : List Nat} (h : Blk w g l) (hd : Dig l) (off n : Nat) (hn : off + n ≤ l.length) : Rd w (some ⟨g, off, none⟩) ((l.drop off).take n) := by
  refine ⟨dig_take (dig_drop hd off) n, fun _ => ⟨g, off, rfl, h.lt, fun j hj => ?_⟩⟩
  have hl : ((l.drop off).take n).length = n := by simp; omega
  rw [List.getElem_take, List.getElem_drop]
  exact h.cell (by omega)
theorem add_addr (b off j : Nat) : (⟨b, off, none⟩ : Addr).add j = ⟨b, off + j, none⟩ := by unfold Addr.add; split <;> simp_all
theorem Rd.of_own {w : World} {base g n cap : Nat} {e : TypeId} {l : List Nat} (h : w.ownsRow base e 1 (.slice (some ⟨g, 0, none⟩) n cap) n (cells l).toList) (hd : Dig l) (hg : g < w.heap.size) :
    Rd w (some ⟨g, 0, none⟩) l ∧ l.length ≤ cap := by
  refine ⟨⟨hd, fun _ => ⟨g, 0, rfl, hg, fun j hj => ?_⟩⟩, ?_⟩
  · have := h.cells (g := g) rfl j (.int .u32 ((l[j] : Nat) : Int)) (by rw [Array.getElem?_toList]; exact cells_get l j hj)
    rw [add_addr] at this
    exact this
  · have h1 := h.1
    simp [cells] at h1
    rcases h.2 with ⟨h2, _⟩ | ⟨g', cap', cur, hv, _, _, hnc, _⟩
    · cases h2
    · injection hv with _ _ hc
      omega
/-- make([]uint32, n). -/
theorem made (n : Nat) (hn : n ≤ 4398046511104) : ∀ W : World, (Instr.makeSlice 23 (.int .i64 (n : Int)) (.int .i64 (n : Int))).run Tryz.prog W =
    .ok (.slice (some ⟨W.heap.size, 0, none⟩) n n) (W.alloc (.cells (cells (List.replicate n 0)) 55)) := fun W => by
  rw [← cells_made]
  exact run_make_row' (P := Tryz.prog) 23 55 (.int .u32 0) 4 Tryz.underlying23 (by kernel_rfl) rfl .i64 .i64 n (by omega) (by omega) W
/-- Only the block g has turned. -/
structure Only (g : Nat) (w w' : World) : Prop where
  os : w'.os = w.os
  tape : w'.tape = w.tape
  output : w'.output = w.output
  size : w'.heap.size = w.heap.size
  block : ∀ k, k ≠ g → w'.heap[k]? = w.heap[k]?
theorem Only.refl (g : Nat) (w : World) : Only g w w := ⟨rfl, rfl, rfl, rfl, fun _ _ => rfl⟩
theorem Only.trans {g : Nat} {a b c : World} (h : Only g a b) (k : Only g b c) : Only g a c :=
  ⟨k.os.trans h.os, k.tape.trans h.tape, k.output.trans h.output, k.size.trans h.size, fun i hi => (k.block i hi).trans (h.block i hi)⟩
theorem Only.setCell {g : Nat} {a w : World} (h : Only g a w) (i : Nat) (u : Value) : Only g a (w.setCell ⟨g, i, none⟩ u) :=
  h.trans ⟨rfl, rfl, rfl, by simp [World.setCell], fun k hk => Below.heap_setCell w ⟨g, i, none⟩ u k hk⟩
theorem Only.below {g B : Nat} {w w' : World} (h : Only g w w') (hB : B ≤ g) : Below B w w' := ⟨h.os, h.tape, h.output, by rw [h.size]; exact Nat.le_refl _, fun k hk => h.block k (by omega)⟩
theorem Only.drewN {g : Nat} {w w' : World} (h : Only g w w') (n : Nat) : Only g w (w'.drewN n) := ⟨h.os, h.tape, h.output, h.size, h.block⟩
theorem Only.ofDrewN {g : Nat} {w w' : World} {n : Nat} (h : Only g (w.drewN n) w') : Only g w w' := ⟨h.os, h.tape, h.output, h.size, h.block⟩
theorem Rd.only {g b off : Nat} {w w' : World} {l : List Nat} (h : Rd w (some ⟨b, off, none⟩) l) (ho : Only g w w') (hne : b ≠ g) : Rd w' (some ⟨b, off, none⟩) l :=
  ⟨h.1, fun hl => by
    obtain ⟨b', off', e, hlt, hc⟩ := h.2 hl
    injection e with e
    injection e with e1 e2
    subst e1 e2
    exact ⟨b, off, rfl, by rw [ho.size]; exact hlt, fun j hj => (World.cell?_of_block (w := w) (a := ⟨b, off + j, none⟩) (ho.block b hne)).trans (hc j hj)⟩⟩
theorem Blk.only {g k : Nat} {w w' : World} {l : List Nat} (h : Blk w k l) (ho : Only g w w') (hne : k ≠ g) : Blk w' k l := (ho.block k hne).trans h
theorem below_drewN {B : Nat} {a w : World} (h : Below B a w) (n : Nat) : Below B a (w.drewN n) := ⟨h.os, h.tape, h.output, h.size, h.block⟩
end Go.Proofs.YtnifjdhjimjihaaGreatDoor
