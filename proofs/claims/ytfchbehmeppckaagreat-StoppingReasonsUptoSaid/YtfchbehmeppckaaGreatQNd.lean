import Derived.Lib.ItoaNum
import Derived.Lib.Repeat
import Derived.Lib.LaidTab
import Derived.Below
import Derived.Test.YtfchbehmeppckaaGreatQNc
import Derived.Lib.AppendIntMem
import Derived.Lib.ItoaMem
import Derived.Lib.Walk
import Derived.BigCall
import Derived.BigGuard
import Derived.Test.YtfchbehmeppckaaGreatQNa
import Derived.WalkKit
import Derived.Laws.OwnMore
import Derived.Deep.AppendLies
import Derived.Laws.Concat
import Derived.BigQuiet
import Derived.Deep.QuietTactic
/- Decimal digits: the groups of nine. -/
set_option linter.unusedSimpArgs false
set_option linter.unusedVariables false
namespace Go.Proofs.YtfchbehmeppckaaGreat
open Go.RowKit

/-- A listed table outlives whatever leaves the old blocks alone. -/
theorem tab_keep {P : Program} {w w' : World} {name : String} {k : IntKind} {zs : List Int} (h : Lib.TabIs P w name k zs) (hb : Below w.heap.size w w') : Lib.TabIs P w' name k zs := by
  unfold Lib.TabIs World.var? at *
  cases hg : P.globalNamed name with
  | none => simp [hg] at h
  | some g =>
    simp only [hg, Option.bind_some] at h ⊢
    have hlt : g < w.heap.size := by
      rcases Nat.lt_or_ge g w.heap.size with h' | h'
      · exact h'
      · rw [Array.getElem?_eq_none h'] at h; simp at h
    rw [hb.block g hlt]
    exact h
end Go.Proofs.YtfchbehmeppckaaGreat

/- strconv.AppendUint and strconv.FormatUint at base 10. (FormatUint: lines of the shelf's FormatInt and AppendUint turned.) -/
namespace Go.Proofs.YtfchbehmeppckaaGreat
open Go.RowKit Lim Go.Sort
attribute [local go_sem ↓] Go.wp_at_zero Go.wp_at_succ

def Tab (w : World) : Prop := Lib.TabIs Tryz.prog w "internal/strconv.uint64pow10" .u64 Lib.pow10Tab
theorem Tab.keep {w w' : World} (h : Tab w) (hb : Below w.heap.size w w') : Tab w' := tab_keep h hb

end Go.Proofs.YtfchbehmeppckaaGreat

/- nat.divLimb, with the place of what it returns. -/
namespace Go.Proofs.YtfchbehmeppckaaGreat
open Go.RowKit Lim

end Go.Proofs.YtfchbehmeppckaaGreat

/- nat.Print. -/
namespace Go.Proofs.YtfchbehmeppckaaGreat
open Go.RowKit Lim
attribute [local go_sem ↓] Go.wp_at_zero Go.wp_at_succ

theorem own_keep {w w' : World} {base : Nat} {e : TypeId} {size : Nat} {v : Value} {n : Nat} {xs : List Value} (h : w.ownsRow base e size v n xs) (hb : Below w.heap.size w w') : w'.ownsRow base e size v n xs :=
  h.kept (row := none) ⟨hb.os, hb.tape, hb.output, hb.size, fun k hk _ => hb.block k hk⟩ (by cases hv : v.ownBlock <;> simp)
theorem In.grown {w w' : World} {A : Option Addr} {c n : Nat} {l : List Nat} {row : Option Nat} (h : In w A c l n) (hg : w.grownBy w' row) (hne : ∀ b off, A = some ⟨b, off, none⟩ → some b ≠ row) : In w' A c l n := by
  refine ⟨⟨h.rd.1, fun hl => ?_⟩, h.cap, h.lim, h.val⟩
  obtain ⟨b, off, e, hlt, hc⟩ := h.rd.2 hl
  exact ⟨b, off, e, Nat.lt_of_lt_of_le hlt hg.size, fun j hj => (hg.cell_far _ hlt (hne b off e)).trans (hc j hj)⟩

/-- The second loop: what is written is the digits of all but the lowest j groups. -/
structure PtRel (wr wx : World) (tv : Value) (j n : Nat) : Prop where
  own : wx.ownsRow wr.heap.size 5 1 tv (Lib.decDigits (n / 1000000000 ^ j)).length (Lib.byteCells (Lib.decDigits (n / 1000000000 ^ j)))
  bel : Below wr.heap.size wr wx

/-- The inner loop: z zeros are written. -/
structure PzRel (W1 wr : World) (tv : Value) (ds : List UInt8) (z : Nat) : Prop where
  own : wr.ownsRow W1.heap.size 5 1 tv (ds.length + z) (Lib.byteCells (ds ++ List.replicate z 48))
  bel : Below W1.heap.size W1 wr
theorem PzRel.start {W1 W2 w8 : World} {tv : Value} {j n : Nat} (h : PtRel W1 W2 tv j n) (b8 : Below W2.heap.size W2 w8) : PzRel W1 w8 tv (Lib.decDigits (n / 1000000000 ^ j)) 0 :=
  ⟨by rw [Nat.add_zero, List.replicate_zero, List.append_nil]; exact own_keep h.own b8, below_step h.bel b8⟩
end Go.Proofs.YtfchbehmeppckaaGreat

/- integer.Print, decimal.Print. -/
namespace Go.Proofs.YtfchbehmeppckaaGreat
open Go.RowKit Lim
attribute [local go_sem ↓] Go.wp_at_zero Go.wp_at_succ

/-- A string of these bytes. -/
def bs (l : List UInt8) : ByteArray := ⟨l.toArray⟩
theorem bs_size (l : List UInt8) : (bs l).size = l.length := by simp [bs, ByteArray.size]
end Go.Proofs.YtfchbehmeppckaaGreat

/- ratio.Print. -/
namespace Go.Proofs.YtfchbehmeppckaaGreat
open Go.RowKit Lim
attribute [local go_sem ↓] Go.wp_at_zero Go.wp_at_succ

end Go.Proofs.YtfchbehmeppckaaGreat

/- decimal.isDigits, nat.Parse. -/
namespace Go.Proofs.YtfchbehmeppckaaGreat
open Go.RowKit Lim
attribute [local go_sem ↓] Go.wp_at_zero Go.wp_at_succ

theorem toList_loop (a : ByteArray) : ∀ (n i : Nat) (r : List UInt8), a.size - i = n → ByteArray.toList.loop a i r = r.reverse ++ a.data.toList.drop i := by
  intro n
  induction n with
  | zero =>
    intro i r h
    rw [ByteArray.toList.loop, if_neg (by omega), List.drop_eq_nil_of_le (by rw [Array.length_toList]; exact (show a.size ≤ i by omega)), List.append_nil]
  | succ n ih =>
    intro i r h
    have hi : i < a.size := by omega
    have hi2 : i < a.data.toList.length := by rw [Array.length_toList]; exact hi
    rw [ByteArray.toList.loop, if_pos hi, ih (i + 1) _ (by omega), List.drop_eq_getElem_cons hi2]
    have e : a.get! i = a.data.toList[i] := by
      show a.data[i]! = _
      rw [getElem!_pos a.data i hi]
      simp
    rw [e]
    simp
theorem toList_bs (s : List UInt8) : (bs s).toList = s := by
  unfold ByteArray.toList
  rw [toList_loop _ _ _ _ rfl]
  simp [bs]

end Go.Proofs.YtfchbehmeppckaaGreat

/- nat.Parse on what decimal.Parse hands it. -/
namespace Go.Proofs.YtfchbehmeppckaaGreat
open Go.RowKit Lim
attribute [local go_sem ↓] Go.wp_at_zero Go.wp_at_succ

end Go.Proofs.YtfchbehmeppckaaGreat
