/- nat.Print. -/
import Derived.Test.YtnifjdhjimjihaaGreatDoorFmt
import Derived.Test.YtnifjdhjimjihaaGreatDoorDivLimb2
import Derived.WalkKit
import Derived.Laws.OwnMore
import Derived.Deep.AppendLies
namespace Go.Proofs.YtnifjdhjimjihaaGreatDoor
open Go.RowKit Lim
attribute [local go_sem ↓] Go.wp_at_zero Go.wp_at_succ

theorem own_keep {w w' : World} {base : Nat} {e : TypeId} {size : Nat} {v : Value} {n : Nat} {xs : List Value} (h : w.ownsRow base e size v n xs) (hb : Below w.heap.size w w') : w'.ownsRow base e size v n xs :=
  h.kept (row := none) ⟨hb.os, hb.tape, hb.output, hb.size, fun k hk _ => hb.block k hk⟩ (by cases hv : v.ownBlock <;> simp)
theorem In.grown {w w' : World} {A : Option Addr} {c n : Nat} {l : List Nat} {row : Option Nat} (h : In w A c l n) (hg : w.grownBy w' row) (hne : ∀ b off, A = some ⟨b, off, none⟩ → some b ≠ row) : In w' A c l n := by
  refine ⟨⟨h.rd.1, fun hl => ?_⟩, h.cap, h.lim, h.val⟩
  obtain ⟨b, off, e, hlt, hc⟩ := h.rd.2 hl
  exact ⟨b, off, e, Nat.lt_of_lt_of_le hlt hg.size, fun j hj => (hg.cell_far _ hlt (hne b off e)).trans (hc j hj)⟩

theorem pow_nDigits : ∀ k u, Lib.nDigits u = k + 1 → 1 ≤ k → 10 ^ k ≤ u := by
  intro k
  induction k with
  | zero => intro u _ h; omega
  | succ k ih =>
    intro u hu _
    have hb : ¬ u < 10 := fun hs => by rw [Lib.nDigits_small hs] at hu; omega
    rw [Lib.nDigits_big hb] at hu
    rcases Nat.eq_zero_or_pos k with rfl | hk
    · omega
    · have := ih (u / 10) (by omega) hk
      rw [Nat.pow_succ]; omega
theorem nDigits_lt {u D : Nat} (h : u < 10 ^ D) : Lib.nDigits u ≤ D + 1 := by
  rcases Nat.lt_or_ge (D + 1) (Lib.nDigits u) with h1 | h1
  · have h2 := pow_nDigits (Lib.nDigits u - 1) u (by omega) (by omega)
    have h3 : 10 ^ D ≤ 10 ^ (Lib.nDigits u - 1) := Nat.pow_le_pow_right (by omega) (by omega)
    omega
  · exact h1

/-- The groups of nine digits, the lowest first. -/
def gsL (n k : Nat) : List Nat := (List.range k).map fun i => n / 1000000000 ^ i % 1000000000
theorem gsL_succ (n k : Nat) : gsL n (k + 1) = gsL n k ++ [n / 1000000000 ^ k % 1000000000] := by simp [gsL, List.range_succ]
theorem gsL_length (n k : Nat) : (gsL n k).length = k := by simp [gsL]
def gcells (n k : Nat) : List Value := (gsL n k).map fun g => Value.int .u32 ((g : Nat) : Int)
theorem gcells_succ (n k : Nat) : gcells n (k + 1) = gcells n k ++ [Value.int .u32 ((n / 1000000000 ^ k % 1000000000 : Nat) : Int)] := by simp [gcells, gsL_succ]
theorem gcells_at (n k i : Nat) (h : i < k) : (gcells n k)[i]? = some (.int .u32 ((n / 1000000000 ^ i % 1000000000 : Nat) : Int)) := by
  simp [gcells, gsL, h]

/-- The first loop: k groups are taken off. -/
structure PrRel (w wr : World) (A : Option Addr) (c gk : Nat) (gv : Value) (k n : Nat) : Prop where
  rest : In wr A c (limbs gk) gk
  own : wr.ownsRow w.heap.size 55 1 gv k (gcells n k)
  val : gk = n / 1000000000 ^ k
  top : k = 0 ∨ 0 < n / 1000000000 ^ (k - 1)
  bel : Below w.heap.size w wr

/-- The second loop: what is written is the digits of all but the lowest j groups. -/
structure PtRel (wr wx : World) (tv : Value) (j n : Nat) : Prop where
  own : wx.ownsRow wr.heap.size 5 1 tv (Lib.decDigits (n / 1000000000 ^ j)).length (Lib.byteCells (Lib.decDigits (n / 1000000000 ^ j)))
  bel : Below wr.heap.size wr wx

/-- The inner loop: z zeros are written. -/
structure PzRel (W1 wr : World) (tv : Value) (ds : List UInt8) (z : Nat) : Prop where
  own : wr.ownsRow W1.heap.size 5 1 tv (ds.length + z) (Lib.byteCells (ds ++ List.replicate z 48))
  bel : Below W1.heap.size W1 wr
theorem PzRel.start {W1 W2 w8 : World} {tv : Value} {j n : Nat} (h : PtRel W1 W2 tv j n) (b8 : Below W2.heap.size W2 w8) : PzRel W1 w8 tv (Lib.decDigits (n / 1000000000 ^ j)) 0 :=
  ⟨by rw [Nat.add_zero, List.replicate_zero, List.append_nil]; exact own_keep h.own b8, below_step h.bel b8⟩
theorem PzRel.next {W1 wr w9 : World} {tv v' : Value} {ds : List UInt8} {z : Nat} {o : Obj} (own : wr.ownsRow W1.heap.size 5 1 tv (ds.length + z) (Lib.byteCells (ds ++ List.replicate z 48))) (bel : Below W1.heap.size W1 wr)
    (hown : w9.ownsRow W1.heap.size 5 1 v' (ds.length + z + 1) (Lib.byteCells (ds ++ List.replicate z 48) ++ [.int .u8 48])) (hgrow : (wr.alloc o).grownBy w9 tv.ownBlock) : PzRel W1 w9 v' ds (z + 1) := by
  refine ⟨?_, (below_alloc bel o).grown hgrow (by have := bel.size; simp; omega) (fun k hk => (own.lt k hk).1)⟩
  rw [← Nat.add_assoc, List.replicate_succ', ← List.append_assoc]
  have e : Lib.byteCells (ds ++ List.replicate z 48 ++ [48]) = Lib.byteCells (ds ++ List.replicate z 48) ++ [.int .u8 48] := by simp [Lib.byteCells]
  rw [e]
  exact hown
theorem PtRel.next {W1 wr w9 : World} {tv v' : Value} {ds : List UInt8} {n q d nd : Nat} {sb : ByteArray} (hnd : Lib.nDigits d ≤ 9) (hdG : d < 1000000000) (hd : n / 1000000000 ^ q % 1000000000 = d) (hds : Lib.decDigits (n / 1000000000 ^ (q + 1)) = ds) (hn : Lib.nDigits d = nd) (hs : Lib.strCells sb = Lib.byteCells (Lib.decDigits d)) (hss : sb.size = nd)
    (own : wr.ownsRow W1.heap.size 5 1 tv (ds.length + (9 - nd)) (Lib.byteCells (ds ++ List.replicate (9 - nd) 48))) (bel : Below W1.heap.size W1 wr)
    (hown : w9.ownsRow W1.heap.size 5 1 v' (ds.length + (9 - nd) + sb.size) (Lib.byteCells (ds ++ List.replicate (9 - nd) 48) ++ Lib.strCells sb)) (hgrow : wr.grownBy w9 tv.ownBlock) (hpos : 0 < n / 1000000000 ^ (q + 1)) : PtRel W1 w9 v' q n := by
  have e1 : n / 1000000000 ^ q = n / 1000000000 ^ (q + 1) * 10 ^ 9 + d := by
    rw [Nat.pow_succ, ← Nat.div_div_eq_div_mul, ← hd]
    omega
  have e2 : Lib.decDigits (n / 1000000000 ^ q) = ds ++ List.replicate (9 - nd) 48 ++ Lib.decDigits d := by
    rw [e1, dec_join 9 _ d hpos hdG, hds, padD_eq 8 d hdG, hn, List.append_assoc]
  have e3 : Lib.byteCells (Lib.decDigits (n / 1000000000 ^ q)) = Lib.byteCells (ds ++ List.replicate (9 - nd) 48) ++ Lib.strCells sb := by
    rw [e2, hs]; simp [Lib.byteCells]
  have e4 : (Lib.decDigits (n / 1000000000 ^ q)).length = ds.length + (9 - nd) + sb.size := by
    rw [e2, List.length_append, List.length_append, List.length_replicate, Lib.decDigits_length, hn, hss]
  refine ⟨by rw [e3, e4]; exact hown, bel.grown hgrow bel.size (fun k hk => (own.lt k hk).1)⟩

theorem pow9 (k : Nat) : 1000000000 ^ k = 10 ^ (9 * k) := by rw [Nat.pow_mul]
theorem groups_le {n k D : Nat} (h : k = 0 ∨ 0 < n / 1000000000 ^ (k - 1)) (hn : n < 10 ^ D) : k ≤ D + 1 := by
  rcases h with h | h
  · omega
  · have h1 : 1000000000 ^ (k - 1) ≤ n := by
      rcases Nat.lt_or_ge n (1000000000 ^ (k - 1)) with h2 | h2
      · rw [Nat.div_eq_of_lt h2] at h; omega
      · exact h2
    rw [pow9] at h1
    have h3 : 10 ^ (9 * (k - 1)) < 10 ^ D := Nat.lt_of_le_of_lt h1 hn
    have := (Nat.pow_lt_pow_iff_right (by omega)).1 h3
    omega
theorem PrRel.next {w wr w5 w6 : World} {gk k n r5 c5 : Nat} {gv v' : Value} {o : Obj} (hz : ¬ gk = 0) (hl : nlen n < 1099511627776) (own : wr.ownsRow w.heap.size 55 1 gv k (gcells n k)) (val : gk = n / 1000000000 ^ k) (bel : Below w.heap.size w wr) (hr5 : r5 = gk % 1000000000) (o5 : Out w5 (some ⟨wr.heap.size, 0, none⟩) c5 (gk / 1000000000)) (b5 : Below wr.heap.size wr w5)
    (hown : w6.ownsRow w.heap.size 55 1 v' (k + 1) (gcells n k ++ [.int .u32 (r5 : Int)])) (hgrow : (w5.alloc o).grownBy w6 gv.ownBlock) : PrRel w w6 (some ⟨wr.heap.size, 0, none⟩) c5 (gk / 1000000000) v' (k + 1) n := by
  have hnl : nlen (gk / 1000000000) < 1099511627776 := by
    have h1 := nlen_mono (Nat.div_le_self gk 1000000000)
    have h2 := nlen_mono (show gk ≤ n by rw [val]; exact Nat.div_le_self _ _)
    omega
  have hlt : ∀ j, gv.ownBlock = some j → w.heap.size ≤ j ∧ j < wr.heap.size := own.lt
  refine ⟨(((o5.alloc o).toIn hnl)).grown hgrow ?_, ?_, ?_, Or.inr ?_, ?_⟩
  · intro b off e
    injection e with e
    injection e with e1 e2
    intro hc
    have := (hlt b hc.symm).2
    omega
  · rw [gcells_succ, ← val, ← hr5]; exact hown
  · rw [val, Nat.div_div_eq_div_mul, Nat.pow_succ]
  · rw [Nat.add_sub_cancel, ← val]; omega
  · have h1 := below_alloc (below_step bel b5) o
    refine h1.grown hgrow ?_ (fun j hj => (hlt j hj).1)
    have := bel.size
    have := b5.size
    simp
    omega
theorem lt_pow_nlen (n : Nat) : n < 10 ^ (10 * nlen n) := by
  have h := lt_nlen n
  have h2 : pw (nlen n) ≤ 10 ^ (10 * nlen n) := by
    rw [Nat.pow_mul]
    unfold pw
    first
      | exact Nat.pow_le_pow_left (by omega) _
  omega

set_option maxHeartbeats 4000000 in
set_option maxRecDepth 100000 in
theorem nprint_any (A : Option Addr) (c n : Nat) (l : List Nat) (w : World) (h : In w A c l n) (htab : Tab w) (hl : nlen n < 1099511627776) :
    Calls Tryz.prog 60 #[.slice A l.length c] w fun e w' => e = .returned (.string ⟨(Lib.decDigits n).toArray⟩) ∧ Below w.heap.size w w' := by
  obtain ⟨i0, hi, hz0, hz1, hz2⟩ := info_parts (show (Tryz.prog.info? 55).map (fun i => (i.zero, i.size, i.bytes)) = some (some (.int .u32 0), 1, 4) by kernel_rfl)
  have hn10 := lt_pow_nlen n
  obtain ⟨a, ha⟩ : ∃ a, limbs n = a := ⟨_, rfl⟩
  have HA := Lib.hid ha
  go_enter Tryz.func60, Tryz.ntmps60
  go_wp2_with fail
  refine (trim_in _ _ _ _ _ h a ha).mono ?_
  clear ha
  rintro e w' ⟨rfl, rfl⟩
  by_cases h0 : n = 0
  · have hz : a.length = 0 := by rw [← HA.out, h0, limbs_zero]; rfl
    have hzi : (a.length : Int) = 0 := by omega
    go_wp2_with fail
    go_ret
    rw [h0, Lib.decDigits_one (by omega)]
    exact ⟨rfl, Below.refl _ _⟩
  · have hp : 0 < a.length := by rw [← HA.out]; exact slen_pos n (by omega)
    have hpi : (0 : Int) < (a.length : Int) := by omega
    go_wp2_with fail
    rw [← HA.out]
    go_loopg [3, 4] n (fun gk s3 gv wr => ∃ (A : Option Addr) (c k : Nat), s3 = .slice A (limbs gk).length c ∧ PrRel w wr A c gk gv k n)
    case atStart => exact ⟨A, c, 0, rfl, h.toRaw.trim.toIn hl, World.ownsRow_nil _ _ _ _, by simp, Or.inl rfl, Below.refl _ _⟩
    case round =>
      obtain ⟨A, c, k, rfl, hr⟩ := hrel
      by_cases hz : gk = 0
      · generalize wr = W1 at *
        have hzl : ¬ 0 < (limbs gk).length := by rw [hz, limbs_zero]; simp
        have hzi : ¬ (0 : Int) < ((limbs gk).length : Int) := by omega
        have hkl := groups_le hr.top hn10
        obtain ⟨m, rfl⟩ : ∃ m, k = m + 1 := by
          rcases Nat.eq_zero_or_pos k with hk | hk
          · have := hr.val
            rw [hk, Nat.pow_zero, Nat.div_one] at this
            omega
          · exact ⟨k - 1, by omega⟩
        obtain ⟨g, cap, rfl, hg1, hg2⟩ := hr.own.form (by omega)
        obtain ⟨t, ht⟩ : ∃ t, n / 1000000000 ^ m = t := ⟨_, rfl⟩
        have htp : 0 < t := by
          rcases hr.top with h | h
          · omega
          · rw [Nat.add_sub_cancel, ht] at h; exact h
        have htG : t < 1000000000 := by
          have := hr.val
          rw [hz, Nat.pow_succ, ← Nat.div_div_eq_div_mul, ht] at this
          omega
        have hcg : ∀ i, i < m + 1 → W1.cell? ⟨g, i, none⟩ = some (.int .u32 ((n / 1000000000 ^ i % 1000000000 : Nat) : Int)) := fun i hi => (hr.own.cellAt i (by omega)).trans (gcells_at n _ i hi)
        have hct := hcg m (by omega)
        rw [ht, Nat.mod_eq_of_lt htG] at hct
        have HCG := Lib.hid hcg
        have HT := Lib.hid ht
        have BEL := Lib.hid hr.bel
        have hTab := htab.keep hr.bel
        clear hcg ht hr HA hp hpi h0 h
        obtain ⟨K, hK⟩ : ∃ K, K = m + 1 := ⟨_, rfl⟩
        rw [← hK] at hkl ⊢
        have hK1 : (K : Int) - 1 = (m : Int) := by omega
        have hK2 : (K : Int) - 2 = (m : Int) - 1 := by omega
        have hmK : m < K := by omega
        have HK := Lib.hid hK; clear hK
        have HZ := Lib.hid hz; clear hz
        have AP := Lib.hid (app_any W1.heap.size 0 t (by omega) (.slice none 0 0) [] W1 hTab (World.ownsRow_nil _ _ _ _) (Nat.le_refl _) (by omega))
        have htI : (t : Int) ≤ 18446744073709551615 := by omega
        go_wp2_with fail
        with_reducible refine AP.out.mono ?_
        rintro e w7 ⟨v7, rfl, o7, b7⟩
        simp only [Nat.zero_add, List.nil_append] at o7
        clear hct AP hK1
        go_wp2_with fail
        obtain ⟨i1, hy, hy0, hy1, hy2⟩ := info_parts (show (Tryz.prog.info? 5).map (fun i => (i.zero, i.size, i.bytes)) = some (some (.int .u8 0), 1, 1) by kernel_rfl)
        go_loopw [6, 7] (fun tv i wx => ∃ j, j ≤ m ∧ i = .int .i64 ((j : Int) - 1) ∧ PtRel W1 wx tv j n) (fun _ i _ => (intOf i + 1).toNat)
        case atStart => exact ⟨m, Nat.le_refl _, rfl, by rw [HT.out]; exact o7, b7⟩
        case round =>
          obtain ⟨j, hj, rfl, hpt⟩ := hrel
          rcases Nat.eq_zero_or_pos j with hj0 | hj0
          · subst hj0
            have hown := hpt.own
            have hbx := hpt.bel
            rw [Nat.pow_zero, Nat.div_one] at hown
            obtain ⟨g2, cap2, rfl, _, _⟩ := hown.form (by rw [Lib.decDigits_length]; have := Lib.nDigits_pos n; omega)
            have hcv := run_convert_bytes_back (P := Tryz.prog) wr 112 9 5 ⟨g2, 0, none⟩ cap2 (Lib.decDigits n) Tryz.underlying112 Tryz.underlying5 Tryz.underlying9 (fun j hj => hown.cells rfl j (.int .u8 ((Lib.decDigits n)[j].toNat : Int)) (by simp [Lib.byteCells, hj]))
            have BF := Lib.hid (below_step BEL.out hbx)
            clear hown hbx hpt
            go_wp2_with fail
            go_ret
            exact ⟨rfl, BF.out⟩
          · obtain ⟨q, rfl⟩ : ∃ q, j = q + 1 := ⟨j - 1, by omega⟩
            rw [show (((q + 1 : Nat) : Int) - 1) = (q : Int) from by omega]
            generalize wr = W2 at *
            obtain ⟨d, hd⟩ : ∃ d, n / 1000000000 ^ q % 1000000000 = d := ⟨_, rfl⟩
            have hdG : d < 1000000000 := by rw [← hd]; exact Nat.mod_lt _ (by omega)
            have hcell : W2.cell? ⟨g, q, none⟩ = some (.int .u32 (d : Int)) := by
              have := HCG.out q (by omega)
              rw [hd] at this
              exact (hpt.bel.cell (p := ⟨g, q, none⟩) hg2).trans this
            have hdI : (d : Int) ≤ 18446744073709551615 := by omega
            have hqK : q < K := by omega
            obtain ⟨sb, hsb⟩ : ∃ sb : ByteArray, sb = ⟨(Lib.decDigits d).toArray⟩ := ⟨_, rfl⟩
            have hss : sb.size = Lib.nDigits d := by rw [hsb, ← Lib.decDigits_length]; simp [ByteArray.size]
            have hsc : Lib.strCells sb = Lib.byteCells (Lib.decDigits d) := by rw [hsb]; rfl
            have FM := fmt_any d (by omega) W2 (hTab.keep hpt.bel)
            rw [← hsb] at FM
            have FM2 := Lib.hid FM
            have nd9 := nDigits_le9 hdG
            have nd1 := Lib.nDigits_pos d
            obtain ⟨nd, hnd⟩ : ∃ nd, Lib.nDigits d = nd := ⟨_, rfl⟩
            have HD := Lib.hid hd
            have HS := Lib.hid hsc
            have HN := Lib.hid hnd
            rw [hnd] at hss nd9 nd1
            have PT := Lib.hid hpt
            clear hd hsb hsc hnd FM hpt
            have hssI : (sb.size : Int) = (nd : Int) := by omega
            go_wp2_with fail
            with_reducible refine FM2.out.mono ?_
            rintro e w8 ⟨rfl, b8⟩
            go_wp2_with fail
            have hL : (Lib.decDigits (n / 1000000000 ^ (q + 1))).length ≤ 10 * nlen n + 1 := by
              rw [Lib.decDigits_length]
              exact nDigits_lt (Nat.lt_of_le_of_lt (Nat.div_le_self _ _) hn10)
            obtain ⟨ds, hds⟩ : ∃ ds, Lib.decDigits (n / 1000000000 ^ (q + 1)) = ds := ⟨_, rfl⟩
            have HDS := Lib.hid hds
            have PZ0 : PzRel W1 w8 u6 ds 0 := by rw [← hds]; exact PzRel.start PT.out b8
            rw [hds] at hL
            clear hds
            go_loopw [6, 9] (fun tv s9 wr => ∃ p, nd ≤ p ∧ p ≤ 9 ∧ s9 = .int .i64 (p : Int) ∧ PzRel W1 wr tv ds (p - nd)) (fun _ s9 _ => (9 - intOf s9).toNat)
            case atStart => exact ⟨nd, Nat.le_refl _, nd9, rfl, by rw [Nat.sub_self]; exact PZ0⟩
            case round =>
              obtain ⟨p, hp1, hp9, rfl, hpz⟩ := hrel
              have OWN := Lib.hid hpz.own
              have BZ := Lib.hid hpz.bel
              have hsz := hpz.bel.size
              clear hpz PZ0
              by_cases hlt : p < 9
              · have hpI : (p : Int) < 9 := by omega
                go_wp2_with (at_builtin; refine wpList_append_own _ rfl _ _ 112 rfl W1.heap.size 5 i1 (.int .u8 0) 1 1 Tryz.underlying112 hy hy0 hy1 hy2 rfl (by decide) _ _ _ rfl (OWN.out.alloc _) ⟨wr.heap.size, 0, none⟩ 1 1 [.int .u8 48] rfl rfl ?c1 ?c2 ?c3 ?c4 ?c5 ?_)
                case c1 =>
                  intro j u hj
                  match j, hj with
                  | 0, hj => simp at hj; subst hj; simp [Addr.add]
                case c2 => intro u hu; simp at hu; subst hu; rfl
                case c3 => unfold maxLen; omega
                case c4 => omega
                case c5 => simp; omega
                intro v' w9 hown9 hgrow _
                go_wp2
                go_roundw
                case rel => exact ⟨p + 1, by omega, by omega, by simp, by rw [show p + 1 - nd = p - nd + 1 by omega]; exact PzRel.next OWN.out BZ.out hown9 hgrow⟩
                case measure => simp [intOf]; omega
              · have hp : p = 9 := by omega
                subst hp
                go_wp2_with (at_builtin; refine Lib.wpList_append_own_string _ rfl _ _ 112 9 rfl W1.heap.size 5 i1 Tryz.underlying112 Tryz.underlying9 hy hy0 hy1 hy2 _ _ _ rfl OWN.out sb rfl (by unfold maxLen; omega) (by omega) hsz ?_)
                intro v' w9 hown9 hgrow _
                go_wp2
                go_roundw
                case rel =>
                  refine ⟨q, by omega, rfl, PtRel.next (by rw [HN.out]; omega) hdG HD.out HDS.out HN.out HS.out hss OWN.out BZ.out (by rw [hss]; exact hown9) hgrow ?_⟩
                  have h1 : n / 1000000000 ^ m ≤ n / 1000000000 ^ (q + 1) := Nat.div_le_div_left (Nat.pow_le_pow_right (by omega) hj) (Nat.pow_pos (by omega))
                  rw [HT.out] at h1
                  omega
                case measure => simp [intOf]
      · have hp2 := slen_pos gk (by omega)
        have hkl := groups_le hr.top hn10
        have VV := Lib.hid hr.val
        have DL : Hid (Calls Tryz.prog 99 #[.slice A (limbs gk).length c, .int .u32 1000000000] wr fun e w' => ∃ c r, e = .returned (.tuple #[.slice (some ⟨wr.heap.size, 0, none⟩) (limbs (gk / 1000000000)).length c, .int .u32 ((r : Nat) : Int)]) ∧ Hid (r = gk % 1000000000) ∧ Out w' (some ⟨wr.heap.size, 0, none⟩) c (gk / 1000000000) ∧ Below wr.heap.size wr w') := Lib.hid (divLimb_at A c gk 1000000000 _ wr hr.rest (by omega) (by omega))
        have hwr := hr.bel.size
        have OWN := Lib.hid hr.own
        have BEL := Lib.hid hr.bel
        clear hr HA hp hpi
        go_wp2_with (first
          | (go_at_call 99; (with_reducible refine DL.out.mono ?_); rintro e w5 ⟨c5, r5, rfl, hr5, o5, b5⟩; have z5 := b5.size)
          | (at_builtin; refine wpList_append_own _ rfl _ _ 22 rfl w.heap.size 55 i0 (.int .u32 0) 1 4 Tryz.underlying22 hi hz0 hz1 hz2 rfl (by decide) _ _ _ rfl ((own_keep OWN.out b5).alloc _) ⟨w5.heap.size, 0, none⟩ 1 1 [.int .u32 (r5 : Int)] rfl rfl ?c1 ?c2 ?c3 ?c4 ?c5 ?_))
        case c1 =>
          intro j u hj
          match j, hj with
          | 0, hj => simp at hj; subst hj; simp [Addr.add]
        case c2 => intro u hu; simp at hu; subst hu; rfl
        case c3 => unfold maxLen; omega
        case c4 => omega
        case c5 => simp; omega
        intro v' w6 hown6 hgrow _
        go_wp2
        go_roundg (gk / 1000000000)
        case measure => exact Nat.div_lt_self (by omega) (by omega)
        case rel => exact ⟨_, c5, k + 1, rfl, PrRel.next hz hl OWN.out VV.out BEL.out hr5.out o5 b5 hown6 hgrow⟩
end Go.Proofs.YtnifjdhjimjihaaGreatDoor
