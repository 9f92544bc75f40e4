import Derived.Lib.ItoaNum
import Derived.Lib.Repeat
import Derived.Lib.LaidTab
import Derived.Below
import Derived.Test.YtfchbehmeppckaaGreatNc
import Derived.Lib.AppendIntMem
import Derived.Lib.ItoaMem
import Derived.Lib.Walk
import Derived.BigCall
import Derived.BigGuard
import Derived.Test.YtfchbehmeppckaaGreatNa
import Derived.WalkKit
import Derived.Laws.OwnMore
import Derived.Deep.AppendLies
import Derived.Laws.Concat
import Derived.BigQuiet
import Derived.Deep.QuietTactic
/- Decimal digits: the groups of nine. -/
set_option linter.unusedSimpArgs false
set_option linter.unusedVariables false
namespace Go.Proofs.YtfchbehmeppckaaGreat
open Go.RowKit

/-- Exactly k digits of g. -/
def padD : Nat → Nat → List UInt8
  | 0, _ => []
  | k + 1, g => padD k (g / 10) ++ [UInt8.ofNat (48 + g % 10)]

theorem padD_length (k g : Nat) : (padD k g).length = k := by
  induction k generalizing g with
  | zero => rfl
  | succ k ih => simp [padD, ih]

theorem dec_big {u : Nat} (h : ¬ u < 10) : Lib.decDigits u = Lib.decDigits (u / 10) ++ [UInt8.ofNat (48 + u % 10)] := by rw [Lib.decDigits, dif_neg h]

theorem dec_join (k q g : Nat) (hq : 0 < q) (hg : g < 10 ^ k) : Lib.decDigits (q * 10 ^ k + g) = Lib.decDigits q ++ padD k g := by
  induction k generalizing g with
  | zero =>
    have : g = 0 := by omega
    subst this
    simp [padD]
  | succ k ih =>
    have hp : 0 < 10 ^ k := Nat.pow_pos (by omega)
    have hbig : ¬ q * 10 ^ (k + 1) + g < 10 := by
      have h1 : 1 * 1 ≤ q * 10 ^ k := Nat.mul_le_mul hq hp
      rw [Nat.pow_succ, ← Nat.mul_assoc]
      omega
    rw [dec_big hbig]
    have e1 : (q * 10 ^ (k + 1) + g) / 10 = q * 10 ^ k + g / 10 := by
      rw [Nat.pow_succ, ← Nat.mul_assoc]; omega
    have e2 : (q * 10 ^ (k + 1) + g) % 10 = g % 10 := by
      rw [Nat.pow_succ, ← Nat.mul_assoc]; omega
    rw [e1, e2, ih (g / 10) (by rw [Nat.pow_succ] at hg; omega), padD, List.append_assoc]

theorem padD_zero (k : Nat) : padD k 0 = List.replicate k 48 := by
  induction k with
  | zero => rfl
  | succ k ih => rw [padD, ih, List.replicate_succ']; rfl

theorem padD_eq (k g : Nat) (hg : g < 10 ^ (k + 1)) : padD (k + 1) g = List.replicate (k + 1 - Lib.nDigits g) 48 ++ Lib.decDigits g := by
  induction k generalizing g with
  | zero =>
    have h10 : g < 10 := by simpa using hg
    rw [Lib.nDigits_small h10, Lib.decDigits, dif_pos h10]
    have : g % 10 = g := Nat.mod_eq_of_lt h10
    simp [padD, this]
  | succ k ih =>
    by_cases h10 : g < 10
    · rw [Lib.nDigits_small h10, Lib.decDigits, dif_pos h10, padD]
      have e : g / 10 = 0 := by omega
      have : g % 10 = g := Nat.mod_eq_of_lt h10
      rw [e, padD_zero, this]
      rfl
    · have hd : g / 10 < 10 ^ (k + 1) := by rw [Nat.pow_succ] at hg; omega
      rw [padD, ih _ hd, dec_big h10, Lib.nDigits_big h10, List.append_assoc]
      congr 2
      omega

theorem nDigits_le9 {g : Nat} (hg : g < 1000000000) : Lib.nDigits g ≤ 9 := by
  rcases Nat.lt_or_ge g 10 with h | h
  · rw [Lib.nDigits_small h]; omega
  · rcases Nat.lt_or_ge (Lib.nDigits g) 10 with h2 | h2
    · omega
    · exfalso
      -- the smallest number of that many digits
      have key : ∀ k u, Lib.nDigits u = k + 1 → 1 ≤ k → 10 ^ k ≤ u := by
        intro k
        induction k with
        | zero => intro u _ h; omega
        | succ k ih =>
          intro u hu _
          have hb : ¬ u < 10 := fun hs => by rw [Lib.nDigits_small hs] at hu; omega
          rw [Lib.nDigits_big hb] at hu
          rcases Nat.eq_zero_or_pos k with rfl | hk
          · omega
          · have := ih (u / 10) (by omega) hk
            rw [Nat.pow_succ]; omega
      have h3 := key (Lib.nDigits g - 1) g (by omega) (by omega)
      have h4 : 10 ^ 9 ≤ 10 ^ (Lib.nDigits g - 1) := Nat.pow_le_pow_right (by omega) (by omega)
      have : (10 : Nat) ^ 9 = 1000000000 := by decide
      omega

/-- A listed table outlives whatever leaves the old blocks alone. -/
theorem tab_keep {P : Program} {w w' : World} {name : String} {k : IntKind} {zs : List Int} (h : Lib.TabIs P w name k zs) (hb : Below w.heap.size w w') : Lib.TabIs P w' name k zs := by
  unfold Lib.TabIs World.var? at *
  cases hg : P.globalNamed name with
  | none => simp [hg] at h
  | some g =>
    simp only [hg, Option.bind_some] at h ⊢
    have hlt : g < w.heap.size := by
      rcases Nat.lt_or_ge g w.heap.size with h' | h'
      · exact h'
      · rw [Array.getElem?_eq_none h'] at h; simp at h
    rw [hb.block g hlt]
    exact h
end Go.Proofs.YtfchbehmeppckaaGreat

/- strconv.AppendUint and strconv.FormatUint at base 10. (FormatUint: lines of the shelf's FormatInt and AppendUint turned.) -/
namespace Go.Proofs.YtfchbehmeppckaaGreat
open Go.RowKit Lim Go.Sort
attribute [local go_sem ↓] Go.wp_at_zero Go.wp_at_succ

def Tab (w : World) : Prop := Lib.TabIs Tryz.prog w "internal/strconv.uint64pow10" .u64 Lib.pow10Tab
theorem Tab.keep {w w' : World} (h : Tab w) (hb : Below w.heap.size w w') : Tab w' := tab_keep h hb

end Go.Proofs.YtfchbehmeppckaaGreat

/- nat.divLimb, with the place of what it returns. -/
namespace Go.Proofs.YtfchbehmeppckaaGreat
open Go.RowKit Lim

set_option maxHeartbeats 1000000 in
theorem divLimb_at (A1 : Option Addr) (c1 n1 d : Nat) (a : List Nat) (w : World) (h1 : In w A1 c1 a n1) (hd : 0 < d) (hdb : d < 4294967296) :
    Calls Tryz.prog 123 #[.slice A1 a.length c1, .int .u32 (d : Int)] w fun e w' => ∃ c r, e = .returned (.tuple #[.slice (some ⟨w.heap.size, 0, none⟩) (limbs (n1 / d)).length c, .int .u32 ((r : Nat) : Int)]) ∧ Hid (r = n1 % d) ∧ Out w' (some ⟨w.heap.size, 0, none⟩) c (n1 / d) ∧ Below w.heap.size w w' := by
  have r1 := h1.rd
  have k1 := h1.lim
  have V1' := Lib.hid h1.val
  have hmk := made a.length (by omega)
  go_enter Tryz.func123, Tryz.ntmps123
  go_wp2_with fail
  go_loopw [7, 8] (fun r i wr => ∃ k c : Nat, k ≤ a.length ∧ i = .int .i64 ((k : Int) - 1) ∧ r = .int .u64 (c : Int) ∧ DlRel w wr w.heap.size k c d a) (fun _ i _ => (intOf i + 1).toNat)
  case atStart =>
    exact ⟨a.length, 0, by omega, rfl, rfl, [], by simp, dig_nil, by rw [List.append_nil]; exact Blk.new w _, by simp [val], hd, (Below.refl _ _).alloc (Nat.le_refl _) _⟩
  case round =>
    obtain ⟨k, r, hk, rfl, rfl, hrel⟩ := hrel
    have hbe : Below w.heap.size w wr := by obtain ⟨_, _, _, _, _, _, h⟩ := hrel; exact h
    have hrd : r < d := by obtain ⟨_, _, _, _, _, h, _⟩ := hrel; exact h
    rcases Nat.eq_zero_or_pos k with h0 | h0
    · subst h0
      obtain ⟨hr, l, hin, hll, hbl⟩ := hrel.last (by omega)
      rw [V1'.out] at hin hr
      have hL := Lib.hid hll; clear hll
      have hR := Lib.hid hr; clear hr
      go_wp2_with fail
      have ht := trim_raw _ _ _ _ _ hin _ rfl
      rw [hL.out] at ht
      refine ht.mono ?_
      clear ht
      rintro e w' ⟨rfl, rfl⟩
      go_wp2
      go_ret2
      exact ⟨_, r, rfl, hR, hin.trim, hbl⟩
    · obtain ⟨j, rfl⟩ : ∃ j, k = j + 1 := ⟨k - 1, by omega⟩
      rw [show (((j + 1 : Nat) : Int) - 1) = (j : Int) from by omega]
      have ja : j < a.length := by omega
      obtain ⟨b1, o1, rfl, hlt1, hcx⟩ := (r1.keep hbe).at_ ja
      obtain ⟨x, hx⟩ : ∃ x, a[j] = x := ⟨_, rfl⟩
      rw [hx] at hcx
      have hX := Lib.hid (getD_of ja hx)
      have hxb : x < 4294967296 := by rw [← hx]; exact dig_get r1.1 ja
      clear hx
      have hor := or_shift r x hxb (by omega)
      obtain ⟨t, ht⟩ : ∃ t, t = r * 4294967296 + x := ⟨_, rfl⟩
      rw [← ht] at hor
      obtain ⟨hoc, hof, htd, htb, hd0, hst⟩ := hrel.step ja (Nat.le_refl _) hdb hX.out hxb ht
      have hT := Lib.hid ht; clear ht
      have hST := Lib.hid hst; clear hst
      go_wp2
      go_roundw
      case rel => exact ⟨j, t % d, by omega, rfl, vint (by rw [Int.natCast_emod]), hST.out _ (by rw [← Int.natCast_ediv, IntKind.wrap_u64]; clear hST; generalize t / d = z at *; omega)⟩
      case measure => simp [intOf]

end Go.Proofs.YtfchbehmeppckaaGreat

/- nat.Print. -/
namespace Go.Proofs.YtfchbehmeppckaaGreat
open Go.RowKit Lim
attribute [local go_sem ↓] Go.wp_at_zero Go.wp_at_succ

theorem own_keep {w w' : World} {base : Nat} {e : TypeId} {size : Nat} {v : Value} {n : Nat} {xs : List Value} (h : w.ownsRow base e size v n xs) (hb : Below w.heap.size w w') : w'.ownsRow base e size v n xs :=
  h.kept (row := none) ⟨hb.os, hb.tape, hb.output, hb.size, fun k hk _ => hb.block k hk⟩ (by cases hv : v.ownBlock <;> simp)
theorem In.grown {w w' : World} {A : Option Addr} {c n : Nat} {l : List Nat} {row : Option Nat} (h : In w A c l n) (hg : w.grownBy w' row) (hne : ∀ b off, A = some ⟨b, off, none⟩ → some b ≠ row) : In w' A c l n := by
  refine ⟨⟨h.rd.1, fun hl => ?_⟩, h.cap, h.lim, h.val⟩
  obtain ⟨b, off, e, hlt, hc⟩ := h.rd.2 hl
  exact ⟨b, off, e, Nat.lt_of_lt_of_le hlt hg.size, fun j hj => (hg.cell_far _ hlt (hne b off e)).trans (hc j hj)⟩

theorem pow_nDigits : ∀ k u, Lib.nDigits u = k + 1 → 1 ≤ k → 10 ^ k ≤ u := by
  intro k
  induction k with
  | zero => intro u _ h; omega
  | succ k ih =>
    intro u hu _
    have hb : ¬ u < 10 := fun hs => by rw [Lib.nDigits_small hs] at hu; omega
    rw [Lib.nDigits_big hb] at hu
    rcases Nat.eq_zero_or_pos k with rfl | hk
    · omega
    · have := ih (u / 10) (by omega) hk
      rw [Nat.pow_succ]; omega
theorem nDigits_lt {u D : Nat} (h : u < 10 ^ D) : Lib.nDigits u ≤ D + 1 := by
  rcases Nat.lt_or_ge (D + 1) (Lib.nDigits u) with h1 | h1
  · have h2 := pow_nDigits (Lib.nDigits u - 1) u (by omega) (by omega)
    have h3 : 10 ^ D ≤ 10 ^ (Lib.nDigits u - 1) := Nat.pow_le_pow_right (by omega) (by omega)
    omega
  · exact h1

/-- The groups of nine digits, the lowest first. -/
def gsL (n k : Nat) : List Nat := (List.range k).map fun i => n / 1000000000 ^ i % 1000000000
theorem gsL_succ (n k : Nat) : gsL n (k + 1) = gsL n k ++ [n / 1000000000 ^ k % 1000000000] := by simp [gsL, List.range_succ]
theorem gsL_length (n k : Nat) : (gsL n k).length = k := by simp [gsL]
def gcells (n k : Nat) : List Value := (gsL n k).map fun g => Value.int .u32 ((g : Nat) : Int)
theorem gcells_succ (n k : Nat) : gcells n (k + 1) = gcells n k ++ [Value.int .u32 ((n / 1000000000 ^ k % 1000000000 : Nat) : Int)] := by simp [gcells, gsL_succ]
theorem gcells_at (n k i : Nat) (h : i < k) : (gcells n k)[i]? = some (.int .u32 ((n / 1000000000 ^ i % 1000000000 : Nat) : Int)) := by
  simp [gcells, gsL, h]

/-- The first loop: k groups are taken off. -/
structure PrRel (w wr : World) (A : Option Addr) (c gk : Nat) (gv : Value) (k n : Nat) : Prop where
  rest : In wr A c (limbs gk) gk
  own : wr.ownsRow w.heap.size 52 1 gv k (gcells n k)
  val : gk = n / 1000000000 ^ k
  top : k = 0 ∨ 0 < n / 1000000000 ^ (k - 1)
  bel : Below w.heap.size w wr

/-- The second loop: what is written is the digits of all but the lowest j groups. -/
structure PtRel (wr wx : World) (tv : Value) (j n : Nat) : Prop where
  own : wx.ownsRow wr.heap.size 5 1 tv (Lib.decDigits (n / 1000000000 ^ j)).length (Lib.byteCells (Lib.decDigits (n / 1000000000 ^ j)))
  bel : Below wr.heap.size wr wx

/-- The inner loop: z zeros are written. -/
structure PzRel (W1 wr : World) (tv : Value) (ds : List UInt8) (z : Nat) : Prop where
  own : wr.ownsRow W1.heap.size 5 1 tv (ds.length + z) (Lib.byteCells (ds ++ List.replicate z 48))
  bel : Below W1.heap.size W1 wr
theorem PzRel.start {W1 W2 w8 : World} {tv : Value} {j n : Nat} (h : PtRel W1 W2 tv j n) (b8 : Below W2.heap.size W2 w8) : PzRel W1 w8 tv (Lib.decDigits (n / 1000000000 ^ j)) 0 :=
  ⟨by rw [Nat.add_zero, List.replicate_zero, List.append_nil]; exact own_keep h.own b8, below_step h.bel b8⟩
theorem PzRel.next {W1 wr w9 : World} {tv v' : Value} {ds : List UInt8} {z : Nat} {o : Obj} (own : wr.ownsRow W1.heap.size 5 1 tv (ds.length + z) (Lib.byteCells (ds ++ List.replicate z 48))) (bel : Below W1.heap.size W1 wr)
    (hown : w9.ownsRow W1.heap.size 5 1 v' (ds.length + z + 1) (Lib.byteCells (ds ++ List.replicate z 48) ++ [.int .u8 48])) (hgrow : (wr.alloc o).grownBy w9 tv.ownBlock) : PzRel W1 w9 v' ds (z + 1) := by
  refine ⟨?_, (below_alloc bel o).grown hgrow (by have := bel.size; simp; omega) (fun k hk => (own.lt k hk).1)⟩
  rw [← Nat.add_assoc, List.replicate_succ', ← List.append_assoc]
  have e : Lib.byteCells (ds ++ List.replicate z 48 ++ [48]) = Lib.byteCells (ds ++ List.replicate z 48) ++ [.int .u8 48] := by simp [Lib.byteCells]
  rw [e]
  exact hown
theorem PtRel.next {W1 wr w9 : World} {tv v' : Value} {ds : List UInt8} {n q d nd : Nat} {sb : ByteArray} (hnd : Lib.nDigits d ≤ 9) (hdG : d < 1000000000) (hd : n / 1000000000 ^ q % 1000000000 = d) (hds : Lib.decDigits (n / 1000000000 ^ (q + 1)) = ds) (hn : Lib.nDigits d = nd) (hs : Lib.strCells sb = Lib.byteCells (Lib.decDigits d)) (hss : sb.size = nd)
    (own : wr.ownsRow W1.heap.size 5 1 tv (ds.length + (9 - nd)) (Lib.byteCells (ds ++ List.replicate (9 - nd) 48))) (bel : Below W1.heap.size W1 wr)
    (hown : w9.ownsRow W1.heap.size 5 1 v' (ds.length + (9 - nd) + sb.size) (Lib.byteCells (ds ++ List.replicate (9 - nd) 48) ++ Lib.strCells sb)) (hgrow : wr.grownBy w9 tv.ownBlock) (hpos : 0 < n / 1000000000 ^ (q + 1)) : PtRel W1 w9 v' q n := by
  have e1 : n / 1000000000 ^ q = n / 1000000000 ^ (q + 1) * 10 ^ 9 + d := by
    rw [Nat.pow_succ, ← Nat.div_div_eq_div_mul, ← hd]
    omega
  have e2 : Lib.decDigits (n / 1000000000 ^ q) = ds ++ List.replicate (9 - nd) 48 ++ Lib.decDigits d := by
    rw [e1, dec_join 9 _ d hpos hdG, hds, padD_eq 8 d hdG, hn, List.append_assoc]
  have e3 : Lib.byteCells (Lib.decDigits (n / 1000000000 ^ q)) = Lib.byteCells (ds ++ List.replicate (9 - nd) 48) ++ Lib.strCells sb := by
    rw [e2, hs]; simp [Lib.byteCells]
  have e4 : (Lib.decDigits (n / 1000000000 ^ q)).length = ds.length + (9 - nd) + sb.size := by
    rw [e2, List.length_append, List.length_append, List.length_replicate, Lib.decDigits_length, hn, hss]
  refine ⟨by rw [e3, e4]; exact hown, bel.grown hgrow bel.size (fun k hk => (own.lt k hk).1)⟩

theorem pow9 (k : Nat) : 1000000000 ^ k = 10 ^ (9 * k) := by rw [Nat.pow_mul]
theorem groups_le {n k D : Nat} (h : k = 0 ∨ 0 < n / 1000000000 ^ (k - 1)) (hn : n < 10 ^ D) : k ≤ D + 1 := by
  rcases h with h | h
  · omega
  · have h1 : 1000000000 ^ (k - 1) ≤ n := by
      rcases Nat.lt_or_ge n (1000000000 ^ (k - 1)) with h2 | h2
      · rw [Nat.div_eq_of_lt h2] at h; omega
      · exact h2
    rw [pow9] at h1
    have h3 : 10 ^ (9 * (k - 1)) < 10 ^ D := Nat.lt_of_le_of_lt h1 hn
    have := (Nat.pow_lt_pow_iff_right (by omega)).1 h3
    omega
theorem PrRel.next {w wr w5 w6 : World} {gk k n r5 c5 : Nat} {gv v' : Value} {o : Obj} (hz : ¬ gk = 0) (hl : nlen n < 1099511627776) (own : wr.ownsRow w.heap.size 52 1 gv k (gcells n k)) (val : gk = n / 1000000000 ^ k) (bel : Below w.heap.size w wr) (hr5 : r5 = gk % 1000000000) (o5 : Out w5 (some ⟨wr.heap.size, 0, none⟩) c5 (gk / 1000000000)) (b5 : Below wr.heap.size wr w5)
    (hown : w6.ownsRow w.heap.size 52 1 v' (k + 1) (gcells n k ++ [.int .u32 (r5 : Int)])) (hgrow : (w5.alloc o).grownBy w6 gv.ownBlock) : PrRel w w6 (some ⟨wr.heap.size, 0, none⟩) c5 (gk / 1000000000) v' (k + 1) n := by
  have hnl : nlen (gk / 1000000000) < 1099511627776 := by
    have h1 := nlen_mono (Nat.div_le_self gk 1000000000)
    have h2 := nlen_mono (show gk ≤ n by rw [val]; exact Nat.div_le_self _ _)
    omega
  have hlt : ∀ j, gv.ownBlock = some j → w.heap.size ≤ j ∧ j < wr.heap.size := own.lt
  refine ⟨(((o5.alloc o).toIn hnl)).grown hgrow ?_, ?_, ?_, Or.inr ?_, ?_⟩
  · intro b off e
    injection e with e
    injection e with e1 e2
    intro hc
    have := (hlt b hc.symm).2
    omega
  · rw [gcells_succ, ← val, ← hr5]; exact hown
  · rw [val, Nat.div_div_eq_div_mul, Nat.pow_succ]
  · rw [Nat.add_sub_cancel, ← val]; omega
  · have h1 := below_alloc (below_step bel b5) o
    refine h1.grown hgrow ?_ (fun j hj => (hlt j hj).1)
    have := bel.size
    have := b5.size
    simp
    omega
theorem lt_pow_nlen (n : Nat) : n < 10 ^ (10 * nlen n) := by
  have h := lt_nlen n
  have h2 : pw (nlen n) ≤ 10 ^ (10 * nlen n) := by
    rw [Nat.pow_mul]
    unfold pw
    first
      | exact Nat.pow_le_pow_left (by omega) _
  omega

end Go.Proofs.YtfchbehmeppckaaGreat

/- integer.Print, decimal.Print. -/
namespace Go.Proofs.YtfchbehmeppckaaGreat
open Go.RowKit Lim
attribute [local go_sem ↓] Go.wp_at_zero Go.wp_at_succ

/-- A string of these bytes. -/
def bs (l : List UInt8) : ByteArray := ⟨l.toArray⟩
theorem bs_size (l : List UInt8) : (bs l).size = l.length := by simp [bs, ByteArray.size]
theorem bs_app (a b : List UInt8) : bs a ++ bs b = bs (a ++ b) := by
  apply ByteArray.ext
  rw [ByteArray.data_append]
  simp [bs]
theorem bs_take (l : List UInt8) (k : Nat) : (bs l).extract 0 k = bs (l.take k) := by
  apply ByteArray.ext
  rw [ByteArray.data_extract]
  simp [bs]
theorem bs_drop (l : List UInt8) (k : Nat) : (bs l).extract k (bs l).size = bs (l.drop k) := by
  apply ByteArray.ext
  rw [ByteArray.data_extract, bs_size]
  simp [bs]
  rw [List.take_of_length_le (by simp)]
theorem run_cat (W : World) (a b c : List UInt8) (hc : a ++ b = c) (h : c.length ≤ 9223372036854775807) : (Op.stringOp .add (bs a) (bs b)).run Tryz.prog W = .ok (.string (bs c)) W := by
  subst hc
  rw [run_string_add_sum _ _ _ (by rw [bs_size, bs_size, ← List.length_append]; exact h), bs_app]

theorem dec_len {n : Nat} (hl : nlen n < 1099511627776) : (Lib.decDigits n).length ≤ 10995116277761 := by
  rw [Lib.decDigits_length]
  have := nDigits_lt (lt_pow_nlen n)
  omega

/-- Decimal notation of z / 10^p. -/
def decT1 (n p : Nat) : List UInt8 := if (Lib.decDigits n).length ≤ p then List.replicate (p + 1 - (Lib.decDigits n).length) 48 ++ Lib.decDigits n else Lib.decDigits n
def decT2 (n p : Nat) : List UInt8 := if 0 < p then (decT1 n p).take ((decT1 n p).length - p) ++ [46] ++ (decT1 n p).drop ((decT1 n p).length - p) else decT1 n p
def decTx (z : Int) (p : Nat) : List UInt8 := if z < 0 then 45 :: decT2 z.natAbs p else decT2 z.natAbs p

theorem decT1_len (n p : Nat) : p < (decT1 n p).length ∧ (decT1 n p).length ≤ (Lib.decDigits n).length + p + 1 := by
  unfold decT1
  split
  · rw [List.length_append, List.length_replicate]; omega
  · omega
theorem repeat_zero (k : Nat) : Lib.repeatL [48] k = List.replicate k 48 := by
  induction k with
  | zero => rfl
  | succ k ih => rw [Lib.repeatL, ih, List.replicate_succ]; rfl

/-- The two halves of the text and what they join to. -/
structure SliceFacts (T : List UInt8) (p : Nat) (sT : ByteArray) (L : Nat) (sa sb sc s2 : ByteArray) : Prop where
  a : ∀ W, (Instr.slice 9 (.string sT) none (some (.int .i64 ((L : Int) - (p : Int)))) none).run Tryz.prog W = .ok (.string sa) W
  b : ∀ W, (Op.stringOp .add sa ⟨#[46]⟩).run Tryz.prog W = .ok (.string sb) W
  c : ∀ W, (Instr.slice 9 (.string sT) (some (.int .i64 ((L : Int) - (p : Int)))) none none).run Tryz.prog W = .ok (.string sc) W
  d : ∀ W, (Op.stringOp .add sb sc).run Tryz.prog W = .ok (.string s2) W
  e : s2 = bs (T.take (T.length - p) ++ [46] ++ T.drop (T.length - p))
theorem SliceFacts.mk' (T : List UInt8) (p : Nat) (sT : ByteArray) (hsT : bs T = sT) (L : Nat) (hL : T.length = L) (hp : p < L) (hb : L < 9223372036854775800) : ∃ sa sb sc s2, SliceFacts T p sT L sa sb sc s2 := by
  subst hsT
  have e0 : ((L : Int) - (p : Int)).toNat = L - p := by omega
  have hs : ((bs T).size : Int) = (L : Int) := by rw [bs_size, hL]
  refine ⟨_, _, _, _, fun W => ?_, fun W => run_cat W (T.take (L - p)) [46] _ rfl ?_, fun W => ?_, fun W => run_cat W _ (T.drop (L - p)) _ rfl ?_, by rw [hL]⟩
  · rw [run_slice_string_h (P := Tryz.prog) (ht := Tryz.underlying9) (h0 := by omega) (h2 := by omega), e0, bs_take]
  · rw [List.length_append, List.length_take]; simp; omega
  · rw [run_slice_string_l (P := Tryz.prog) (ht := Tryz.underlying9) (h0 := by omega) (h1 := by omega), e0, bs_drop]
  · rw [List.length_append, List.length_append, List.length_take, List.length_drop]; simp; omega

end Go.Proofs.YtfchbehmeppckaaGreat

/- ratio.Print. -/
namespace Go.Proofs.YtfchbehmeppckaaGreat
open Go.RowKit Lim
attribute [local go_sem ↓] Go.wp_at_zero Go.wp_at_succ

def ratTx (N : Int) (D : Nat) : List UInt8 := if D = 1 then Lib.itoa N else Lib.itoa N ++ [47] ++ Lib.decDigits D

theorem itoa_len {z : Int} (hl : nlen z.natAbs < 1099511627776) : (Lib.itoa z).length ≤ 10995116277762 := by
  have := dec_len hl
  unfold Lib.itoa
  split
  · simp; omega
  · rw [show z.toNat = z.natAbs by omega]; omega

end Go.Proofs.YtfchbehmeppckaaGreat

/- decimal.isDigits, nat.Parse. -/
namespace Go.Proofs.YtfchbehmeppckaaGreat
open Go.RowKit Lim
attribute [local go_sem ↓] Go.wp_at_zero Go.wp_at_succ

def isD (b : UInt8) : Bool := decide (48 ≤ b.toNat) && decide (b.toNat ≤ 57)
def isDs (s : List UInt8) : Bool := s.all isD && !s.isEmpty

theorem toList_loop (a : ByteArray) : ∀ (n i : Nat) (r : List UInt8), a.size - i = n → ByteArray.toList.loop a i r = r.reverse ++ a.data.toList.drop i := by
  intro n
  induction n with
  | zero =>
    intro i r h
    rw [ByteArray.toList.loop, if_neg (by omega), List.drop_eq_nil_of_le (by rw [Array.length_toList]; exact (show a.size ≤ i by omega)), List.append_nil]
  | succ n ih =>
    intro i r h
    have hi : i < a.size := by omega
    have hi2 : i < a.data.toList.length := by rw [Array.length_toList]; exact hi
    rw [ByteArray.toList.loop, if_pos hi, ih (i + 1) _ (by omega), List.drop_eq_getElem_cons hi2]
    have e : a.get! i = a.data.toList[i] := by
      show a.data[i]! = _
      rw [getElem!_pos a.data i hi]
      simp
    rw [e]
    simp
theorem toList_bs (s : List UInt8) : (bs s).toList = s := by
  unfold ByteArray.toList
  rw [toList_loop _ _ _ _ rfl]
  simp [bs]

theorem isDs_no {s : List UInt8} {k : Nat} (hk : k < s.length) (h : ¬ (48 ≤ (s[k]'hk).toNat ∧ (s[k]'hk).toNat ≤ 57)) : isDs s = false := by
  have : s.all isD = false := by
    rw [List.all_eq_false]
    exact ⟨s[k], List.getElem_mem hk, by unfold isD; simp; omega⟩
  unfold isDs
  rw [this, Bool.false_and]
theorem take_all {s : List UInt8} {k : Nat} (h : (s.take k).all isD = true) (hk : k < s.length) (hd : 48 ≤ (s[k]'hk).toNat ∧ (s[k]'hk).toNat ≤ 57) : (s.take (k + 1)).all isD = true := by
  rw [List.take_succ_eq_append_getElem hk, List.all_append, h, Bool.true_and]
  simp [isD, hd]

end Go.Proofs.YtfchbehmeppckaaGreat

/- nat.Parse on what decimal.Parse hands it. -/
namespace Go.Proofs.YtfchbehmeppckaaGreat
open Go.RowKit Lim
attribute [local go_sem ↓] Go.wp_at_zero Go.wp_at_succ

def valD (s : List UInt8) : Nat := s.foldl (fun a b => a * 10 + (b.toNat - 48)) 0
theorem valD_snoc (s : List UInt8) (b : UInt8) : valD (s ++ [b]) = valD s * 10 + (b.toNat - 48) := by simp [valD]
theorem valD_take {s : List UInt8} {k : Nat} (hk : k < s.length) : valD (s.take (k + 1)) = valD (s.take k) * 10 + ((s[k]'hk).toNat - 48) := by
  rw [List.take_succ_eq_append_getElem hk, valD_snoc]
theorem isD_iff {b : UInt8} : isD b = true ↔ 48 ≤ b.toNat ∧ b.toNat ≤ 57 := by simp [isD]
theorem valD_lt {s : List UInt8} (h : s.all isD = true) : ∀ k, k ≤ s.length → valD (s.take k) < 10 ^ k := by
  intro k
  induction k with
  | zero => intro _; simp [valD]
  | succ k ih =>
    intro hk
    have h1 := ih (by omega)
    rw [valD_take (by omega), Nat.pow_succ]
    have := isD_iff.1 (List.all_eq_true.1 h _ (List.getElem_mem (show k < s.length by omega)))
    omega
theorem nlen_q {n k q : Nat} (h : n < 10 ^ k) (hk : k ≤ 9 * q) : nlen n ≤ q := by
  apply nlen_le
  have h2 : 10 ^ k ≤ 10 ^ (9 * q) := Nat.pow_le_pow_right (by omega) hk
  have h3 : 10 ^ (9 * q) ≤ pw q := by
    unfold pw
    rw [Nat.pow_mul]
    exact Nat.pow_le_pow_left (by omega) _
  omega

theorem nlen_small {e : Nat} (h : e < 4294967296) : nlen e < 1099511627776 := by
  have h1 : pw 1 = 4294967296 := by decide
  have := nlen_le (k := 1) (show e < pw 1 by omega)
  omega

/-- The second loop of Parse: n is the value of the first k digits. -/
structure PaRel (w wr : World) (A : Option Addr) (c : Nat) (AT : Option Addr) (cT : Nat) (v : Nat) : Prop where
  acc : Out wr A c v
  ten : Out wr AT cT 10
  bel : Below w.heap.size w wr

end Go.Proofs.YtfchbehmeppckaaGreat
