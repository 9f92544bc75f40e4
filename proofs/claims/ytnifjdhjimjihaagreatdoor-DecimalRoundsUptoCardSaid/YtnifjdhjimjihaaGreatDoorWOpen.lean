/- What an argument that can be read is: a row of limbs, an integer, a ratio. -/
import Derived.Test.YtnifjdhjimjihaaGreatDoorWLaw4
import Derived.Test.YtnifjdhjimjihaaGreatDoorCards
import Derived.Test.YtnifjdhjimjihaaGreatDoorTie
import Derived.ProofKit
import Derived.OpenShut
import Derived.ChangeArms
import Derived.ChangeSlices
import Derived.Deep.DeepHandedRow
import Derived.Lib.LaidTab
set_option linter.unusedSimpArgs false
set_option linter.unusedVariables false
namespace Go.Proofs.YtnifjdhjimjihaaGreatDoor
open Go.ChangeShapes Go.WideShapes Go.ChangeAt Go.RowKit Lim

section
variable {H : Type} {enc : TypeId × Value → H} {w : World} {base : Nat} {spare : Nat → Bool} {held : Bool} {fuel : Nat} {cs : List Value} {x : DataW H × List MemPlace}

theorem bulk_one (d : DataW H) : 1 ≤ Rows.uptoBulk d := by
  cases d with
  | lit l => cases l <;> simp [Rows.uptoBulk]
  | nil => simp [Rows.uptoBulk]
  | ptr d => simp [Rows.uptoBulk]
  | slice elems spare => simp [Rows.uptoBulk]
  | agg parts => simp [Rows.uptoBulk]
  | iface t d => simp [Rows.uptoBulk]
  | map entries => simp [Rows.uptoBulk]
  | held h => simp [Rows.uptoBulk]
theorem bulk_len (l : List (DataW H)) : l.length ≤ Rows.uptoBulkAll l := by
  induction l with
  | nil => simp [Rows.uptoBulkAll]
  | cons x r ih => have := bulk_one x; simp only [Rows.uptoBulkAll, List.length_cons]; omega
theorem cellsU32 : Tryz.prog.cellsOf 55 = 1 := by kernel_rfl
theorem cellsNat : Tryz.prog.cellsOf 23 = 1 := by kernel_rfl
theorem cellsInt : Tryz.prog.cellsOf 25 = 2 := by kernel_rfl
theorem cellsRat : Tryz.prog.cellsOf 27 = 3 := by kernel_rfl
theorem cellsDec : Tryz.prog.cellsOf 29 = 3 := by kernel_rfl
theorem cellsI64 : Tryz.prog.cellsOf 3 = 1 := by kernel_rfl
theorem cell_spot {w : World} {a : Addr} {v : Value} (h : w.cell? a = some v) : a = ⟨a.block, a.off, none⟩ := by
  obtain ⟨b, o, s⟩ := a
  cases s with
  | none => rfl
  | some q =>
    simp only [World.cell?] at h
    split at h <;> simp at h
theorem trod_nat (h : DataW.trod enc Tryz.prog w base spare held fuel 23 cs = some x) : ∃ A c l, cs = [.slice A l.length c] ∧ Rd w A l ∧ l.length ≤ c ∧ l.length ≤ Rows.uptoBulk x.1 := by
  rcases open_ints Tryz.underlying23 Tryz.underlying55 cellsU32 h with ⟨rfl, rfl⟩ | ⟨a, len, cap, zs, rfl, _, hl, hm, hz, rfl, hc, hwf⟩
  · exact ⟨none, 0, [], rfl, Rd.nil _ _, by simp, by simp⟩
  · have hlen : len ≤ zs.length := by rw [hz]; split <;> omega
    have hb : ∀ n ∈ zs, 0 ≤ n ∧ n < 4294967296 := fun n hn => by
      have := hwf n hn
      simp [Lit.wf, IntKind.min, IntKind.max, IntKind.signed, IntKind.bits] at this
      omega
    have hl2 : ((zs.take len).map Int.toNat).length = len := by simp; omega
    refine ⟨some a, cap, (zs.take len).map Int.toNat, by rw [hl2], ⟨?_, fun hpos => ?_⟩, by omega, ?_⟩
    · intro y hy
      obtain ⟨n, hn, rfl⟩ := List.mem_map.1 hy
      have := hb n (List.mem_of_mem_take hn)
      omega
    · have h0 := hc 0 (by omega)
      rw [show a.add 0 = a by simp [Addr.add]] at h0
      have ha := cell_spot h0
      refine ⟨a.block, a.off, by rw [← ha], World.block_lt_of_cell? w a h0, fun j hj => ?_⟩
      have hj2 : j < zs.length := by omega
      have := hc j hj2
      rw [ha, add_addr] at this
      rw [this]
      simp only [List.getElem_map, List.getElem_take]
      have hb2 := hb zs[j] (List.getElem_mem hj2)
      rw [Int.toNat_of_nonneg hb2.1]
      simp [List.getD, List.getElem?_eq_getElem hj2]
    · rw [hl2]
      simp only [Rows.uptoBulk]
      have h1 := bulk_len (lits (H := H) .u32 (zs.take len))
      have : (lits (H := H) .u32 (zs.take len)).length = len := by simp [lits]; omega
      omega
theorem len2 {α : Type} : ∀ {l : List α}, l.length = 2 → ∃ a b, l = [a, b]
  | [a, b], _ => ⟨a, b, rfl⟩
theorem len3 {α : Type} : ∀ {l : List α}, l.length = 3 → ∃ a b c, l = [a, b, c]
  | [a, b, c], _ => ⟨a, b, c, rfl⟩
theorem cellsBool : Tryz.prog.cellsOf 4 = 1 := by kernel_rfl
theorem trod_int (h : DataW.trod enc Tryz.prog w base spare held fuel 25 cs = some x) : ∃ t A c l, cs = [.bool t, .slice A l.length c] ∧ Rd w A l ∧ l.length ≤ c ∧ l.length ≤ Rows.uptoBulk x.1 := by
  obtain ⟨y0, y1, n, rfl, hl, h0, h1⟩ := trod_struct2 Tryz.underlying25 h
  clear h
  rw [cellsInt] at hl
  obtain ⟨c0, c1, rfl⟩ := len2 hl
  dsimp only at h0 h1
  rw [cellsBool] at h0
  rw [cellsNat] at h1
  simp only [List.drop_zero, List.drop_succ_cons, List.take_succ_cons, List.take_zero] at h0 h1
  obtain ⟨b, e1, e2⟩ := DataW.trod_bool Tryz.underlying4 h0
  obtain ⟨A, c, l, e3, r1, r2, r3⟩ := trod_nat h1
  simp only [List.cons.injEq, and_true] at e1 e3
  subst e1 e3
  refine ⟨b, A, c, l, rfl, r1, r2, ?_⟩
  simp only [Rows.uptoBulk, Rows.uptoBulkAll]
  omega
theorem trod_rat (h : DataW.trod enc Tryz.prog w base spare held fuel 27 cs = some x) : ∃ t A c l B f m, cs = [.bool t, .slice A l.length c, .slice B m.length f] ∧ Rd w A l ∧ l.length ≤ c ∧ Rd w B m ∧ m.length ≤ f ∧ l.length ≤ Rows.uptoBulk x.1 ∧ m.length ≤ Rows.uptoBulk x.1 := by
  obtain ⟨y0, y1, n, rfl, hl, h0, h1⟩ := trod_struct2 Tryz.underlying27 h
  clear h
  rw [cellsRat] at hl
  obtain ⟨c0, c1, c2, rfl⟩ := len3 hl
  dsimp only at h0 h1
  rw [cellsInt] at h0
  rw [cellsNat] at h1
  simp only [List.drop_zero, List.drop_succ_cons, List.take_succ_cons, List.take_zero] at h0 h1
  obtain ⟨t, A, c, l, e1, r1, r2, r3⟩ := trod_int h0
  obtain ⟨B, f, m, e3, q1, q2, q3⟩ := trod_nat h1
  simp only [List.cons.injEq, and_true] at e1 e3
  obtain ⟨rfl, rfl⟩ := e1
  subst e3
  refine ⟨t, A, c, l, B, f, m, rfl, r1, r2, q1, q2, ?_, ?_⟩
  · simp only [Rows.uptoBulk, Rows.uptoBulkAll]; omega
  · simp only [Rows.uptoBulk, Rows.uptoBulkAll]; omega
theorem trod_dec (h : DataW.trod enc Tryz.prog w base spare held fuel 29 cs = some x) : ∃ t A c l q, cs = [.bool t, .slice A l.length c, .int .i64 q] ∧ Rd w A l ∧ l.length ≤ c ∧ l.length ≤ Rows.uptoBulk x.1 := by
  obtain ⟨y0, y1, n, rfl, hl, h0, h1⟩ := trod_struct2 Tryz.underlying29 h
  clear h
  rw [cellsDec] at hl
  obtain ⟨c0, c1, c2, rfl⟩ := len3 hl
  dsimp only at h0 h1
  rw [cellsInt] at h0
  rw [cellsI64] at h1
  simp only [List.drop_zero, List.drop_succ_cons, List.take_succ_cons, List.take_zero] at h0 h1
  obtain ⟨t, A, c, l, e1, r1, r2, r3⟩ := trod_int h0
  obtain ⟨q, e3, _⟩ := DataW.trod_int Tryz.underlying3 h1
  simp only [List.cons.injEq, and_true] at e1 e3
  obtain ⟨rfl, rfl⟩ := e1
  subst e3
  refine ⟨t, A, c, l, q, rfl, r1, r2, ?_⟩
  simp only [Rows.uptoBulk, Rows.uptoBulkAll]; omega
end
end Go.Proofs.YtnifjdhjimjihaaGreatDoor
