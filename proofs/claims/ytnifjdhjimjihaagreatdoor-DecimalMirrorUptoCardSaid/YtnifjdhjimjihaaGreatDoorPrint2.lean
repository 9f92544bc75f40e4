/- integer.Print, decimal.Print. -/
import Derived.Test.YtnifjdhjimjihaaGreatDoorPrint
import Derived.Laws.Concat
import Derived.BigQuiet
import Derived.Deep.QuietTactic
namespace Go.Proofs.YtnifjdhjimjihaaGreatDoor
open Go.RowKit Lim
attribute [local go_sem ↓] Go.wp_at_zero Go.wp_at_succ

/-- A string of these bytes. -/
def bs (l : List UInt8) : ByteArray := ⟨l.toArray⟩
theorem bs_size (l : List UInt8) : (bs l).size = l.length := by simp [bs, ByteArray.size]
theorem bs_app (a b : List UInt8) : bs a ++ bs b = bs (a ++ b) := by
  apply ByteArray.ext
  rw [ByteArray.data_append]
  simp [bs]
theorem bs_take (l : List UInt8) (k : Nat) : (bs l).extract 0 k = bs (l.take k) := by
  apply ByteArray.ext
  rw [ByteArray.data_extract]
  simp [bs]
theorem bs_drop (l : List UInt8) (k : Nat) : (bs l).extract k (bs l).size = bs (l.drop k) := by
  apply ByteArray.ext
  rw [ByteArray.data_extract, bs_size]
  simp [bs]
  rw [List.take_of_length_le (by simp)]
theorem run_cat (W : World) (a b c : List UInt8) (hc : a ++ b = c) (h : c.length ≤ 9223372036854775807) : (Op.stringOp .add (bs a) (bs b)).run Tryz.prog W = .ok (.string (bs c)) W := by
  subst hc
  rw [run_string_add_sum _ _ _ (by rw [bs_size, bs_size, ← List.length_append]; exact h), bs_app]

theorem dec_len {n : Nat} (hl : nlen n < 1099511627776) : (Lib.decDigits n).length ≤ 10995116277761 := by
  rw [Lib.decDigits_length]
  have := nDigits_lt (lt_pow_nlen n)
  omega

set_option maxHeartbeats 1000000 in
set_option maxRecDepth 100000 in
theorem iprint_any (t : Bool) (A : Option Addr) (c : Nat) (l : List Nat) (z : Int) (w : World) (h : InI w t A c l z) (htab : Tab w) :
    Calls Tryz.prog 88 #[.agg #[.bool t, .slice A l.length c]] w fun e w' => e = .returned (.string (bs (Lib.itoa z))) ∧ Below w.heap.size w w' := by
  have hbel : Below w.heap.size w (w.alloc (.cells #[.bool t, .slice A l.length c] 25)) := (Below.refl _ _).alloc (Nat.le_refl _) _
  have hb := Box.new w #[.bool t, .slice A l.length c] 25
  have h' := h.keep hbel
  have hnl : nlen z.natAbs < 1099511627776 := h.mag.nlen
  have hdl := dec_len hnl
  have HI : Hid (Lib.itoa z = if z < 0 then 45 :: Lib.decDigits z.natAbs else Lib.decDigits z.natAbs) := Lib.hid (by
    unfold Lib.itoa
    split
    · rfl
    · rw [show z.toNat = z.natAbs by omega])
  go_enter Tryz.func88, Tryz.ntmps88
  go_wp2_with fail
  refine (sign_any _ _ _ _ _ _ h').mono ?_
  rintro e w1 ⟨rfl, b1⟩
  have hb1 := hb.keep b1
  have e1 := hb1.i1
  have q1 := below_step hbel b1
  have PR := Lib.hid (nprint_any A c z.natAbs l w1 (h'.mag.keep b1) (htab.keep q1) hnl)
  clear h' hb b1 hbel
  by_cases hz : z < 0
  · have hs : sgnI z < 0 := by unfold sgnI; rw [if_pos hz]; omega
    have hcat := fun W => run_cat W [45] (Lib.decDigits z.natAbs) _ rfl (by simp; omega)
    have hi := HI.out
    rw [if_pos hz] at hi
    have HI2 := Lib.hid hi; clear hi
    generalize sgnI z = sv at *
    go_wp2_with fail
    with_reducible refine PR.out.mono ?_
    rintro e w2 ⟨rfl, b2⟩
    have hcat2 := hcat w2
    clear hcat
    simp only [bs] at hcat2
    go_wp2_with fail
    go_ret
    rw [HI2.out]
    exact ⟨rfl, below_step q1 b2⟩
  · have hs : ¬ sgnI z < 0 := by unfold sgnI; rw [if_neg hz]; split <;> omega
    have hi := HI.out
    rw [if_neg hz] at hi
    have HI2 := Lib.hid hi; clear hi
    generalize sgnI z = sv at *
    go_wp2_with fail
    with_reducible refine PR.out.mono ?_
    rintro e w2 ⟨rfl, b2⟩
    go_wp2_with fail
    go_ret
    rw [HI2.out]
    exact ⟨rfl, below_step q1 b2⟩

/-- Decimal notation of z / 10^p. -/
def decT1 (n p : Nat) : List UInt8 := if (Lib.decDigits n).length ≤ p then List.replicate (p + 1 - (Lib.decDigits n).length) 48 ++ Lib.decDigits n else Lib.decDigits n
def decT2 (n p : Nat) : List UInt8 := if 0 < p then (decT1 n p).take ((decT1 n p).length - p) ++ [46] ++ (decT1 n p).drop ((decT1 n p).length - p) else decT1 n p
def decTx (z : Int) (p : Nat) : List UInt8 := if z < 0 then 45 :: decT2 z.natAbs p else decT2 z.natAbs p

theorem decT1_len (n p : Nat) : p < (decT1 n p).length ∧ (decT1 n p).length ≤ (Lib.decDigits n).length + p + 1 := by
  unfold decT1
  split
  · rw [List.length_append, List.length_replicate]; omega
  · omega
theorem repeat_zero (k : Nat) : Lib.repeatL [48] k = List.replicate k 48 := by
  induction k with
  | zero => rfl
  | succ k ih => rw [Lib.repeatL, ih, List.replicate_succ]; rfl

/-- The two halves of the text and what they join to. -/
structure SliceFacts (T : List UInt8) (p : Nat) (sT : ByteArray) (L : Nat) (sa sb sc s2 : ByteArray) : Prop where
  a : ∀ W, (Instr.slice 9 (.string sT) none (some (.int .i64 ((L : Int) - (p : Int)))) none).run Tryz.prog W = .ok (.string sa) W
  b : ∀ W, (Op.stringOp .add sa ⟨#[46]⟩).run Tryz.prog W = .ok (.string sb) W
  c : ∀ W, (Instr.slice 9 (.string sT) (some (.int .i64 ((L : Int) - (p : Int)))) none none).run Tryz.prog W = .ok (.string sc) W
  d : ∀ W, (Op.stringOp .add sb sc).run Tryz.prog W = .ok (.string s2) W
  e : s2 = bs (T.take (T.length - p) ++ [46] ++ T.drop (T.length - p))
theorem SliceFacts.mk' (T : List UInt8) (p : Nat) (sT : ByteArray) (hsT : bs T = sT) (L : Nat) (hL : T.length = L) (hp : p < L) (hb : L < 9223372036854775800) : ∃ sa sb sc s2, SliceFacts T p sT L sa sb sc s2 := by
  subst hsT
  have e0 : ((L : Int) - (p : Int)).toNat = L - p := by omega
  have hs : ((bs T).size : Int) = (L : Int) := by rw [bs_size, hL]
  refine ⟨_, _, _, _, fun W => ?_, fun W => run_cat W (T.take (L - p)) [46] _ rfl ?_, fun W => ?_, fun W => run_cat W _ (T.drop (L - p)) _ rfl ?_, by rw [hL]⟩
  · rw [run_slice_string_h (P := Tryz.prog) (ht := Tryz.underlying9) (h0 := by omega) (h2 := by omega), e0, bs_take]
  · rw [List.length_append, List.length_take]; simp; omega
  · rw [run_slice_string_l (P := Tryz.prog) (ht := Tryz.underlying9) (h0 := by omega) (h1 := by omega), e0, bs_drop]
  · rw [List.length_append, List.length_append, List.length_take, List.length_drop]; simp; omega

set_option maxHeartbeats 2000000 in
set_option maxRecDepth 100000 in
theorem dprint_any (t : Bool) (A : Option Addr) (c p : Nat) (l : List Nat) (z : Int) (w : World) (h : InI w t A c l z) (hp : p ≤ 9) (htab : Tab w) :
    Calls Tryz.prog 17 #[.agg #[.bool t, .slice A l.length c, .int .i64 (p : Int)]] w fun e w' => e = .returned (.tuple #[.string (bs (decTx z p)), .int .i64 0]) ∧ Below w.heap.size w w' := by
  have hbel : Below w.heap.size w (w.alloc (.cells #[.bool t, .slice A l.length c, .int .i64 (p : Int)] 29)) := (Below.refl _ _).alloc (Nat.le_refl _) _
  have hb := Box.new w #[.bool t, .slice A l.length c, .int .i64 (p : Int)] 29
  have h' := h.keep hbel
  have hnl : nlen z.natAbs < 1099511627776 := h.mag.nlen
  have hdl := dec_len hnl
  go_enter Tryz.func17, Tryz.ntmps17
  go_wp2_with fail
  refine (validPlaces_yes _ (by omega) (by omega) _).mono ?_
  rintro e w' ⟨rfl, rfl⟩
  go_wp2_with fail
  with_reducible refine (nprint_any A c z.natAbs l _ h'.mag (htab.keep hbel) hnl).mono ?_
  rintro e w2 ⟨rfl, b2⟩
  have hb2 := hb.keep b2
  have h2 := h'.keep b2
  have q2 := below_step hbel b2
  clear hb h' hbel b2
  have e0 := hb2.c0
  have e1 := hb2.c1
  have e2 := hb2.c2
  obtain ⟨d0, hd0⟩ : ∃ d0, Lib.decDigits z.natAbs = d0 := ⟨_, rfl⟩
  have HD0 := Lib.hid hd0
  rw [hd0] at hdl
  rw [show (⟨(Lib.decDigits z.natAbs).toArray⟩ : ByteArray) = bs d0 by rw [hd0]; rfl]
  clear hd0
  obtain ⟨T, hT⟩ : ∃ T, decT1 z.natAbs p = T := ⟨_, rfl⟩
  have hTl := decT1_len z.natAbs p
  rw [hT, HD0.out] at hTl
  obtain ⟨sT, hsT⟩ : ∃ sT, bs T = sT := ⟨_, rfl⟩
  obtain ⟨L, hL⟩ : ∃ L, T.length = L := ⟨_, rfl⟩
  have hsz : sT.size = L := by rw [← hsT, bs_size, hL]
  rw [hL] at hTl
  have hszI : (sT.size : Int) = (L : Int) := by omega
  have SL := SliceFacts.mk' T p sT hsT L hL hTl.1 (by omega)
  have HT := Lib.hid hT
  have HS := Lib.hid hsT
  have d0s : (bs d0).size = d0.length := bs_size d0
  obtain ⟨sa, sb, sc, s2, sl⟩ := SL
  clear hT hsT
  by_cases hlen : d0.length ≤ p
  · have hlenI : (d0.length : Int) ≤ (p : Int) := by omega
    obtain ⟨k, hk⟩ : ∃ k, p + 1 - d0.length = k := ⟨_, rfl⟩
    have hkI : (p : Int) + 1 - (d0.length : Int) = (k : Int) := by omega
    have hcat := fun W => run_cat W (List.replicate k 48) d0 T (by rw [← HT.out]; unfold decT1; rw [HD0.out, if_pos hlen, hk]) (by omega)
    rw [HS.out] at hcat
    have RP := Lib.hid (Tryz.strings_Repeat ⟨#[48]⟩ k w2 (by omega) (by show 1 * k ≤ _; omega))
    go_wp2_with fail
    with_reducible refine RP.out.mono ?_
    rintro e X ⟨rfl, b3⟩
    rw [show (⟨(Lib.repeatL [48] k).toArray⟩ : ByteArray) = bs (List.replicate k 48) by rw [repeat_zero]; rfl]
    have Xb := hb2.keep b3
    have Xj := h2.keep b3
    have Xq := below_step q2 b3
    have x0 := Xb.c0
    have x1' := Xb.c1
    have x2' := Xb.c2
    clear hb2 h2 q2 e0 e1 e2 RP b3
    by_cases hp0 : 0 < p
    · have hp0I : (0 : Int) < (p : Int) := by omega
      have x1 := sl.a
      have x2 := sl.b
      have x3 := sl.c
      have x4 := sl.d
      have hLI : (p : Int) < (L : Int) := by omega
      have SE := Lib.hid sl.e
      clear sl
      go_upto_region 7 with fail
      go_quiet (fail)
      clear x1 x2 x3 x4
      have bq : Below X.heap.size X (X.drewN nq) := below_drewN (Below.refl _ _) nq
      have Yb := Xb.keep bq
      have Yj := Xj.keep bq
      have Yq := below_step Xq bq
      have y0 := Yb.c0
      have y1 := Yb.c1
      go_wp2_with fail
      have js := Yj
      refine (sign_any _ _ _ _ _ _ js).mono ?_
      rintro e v9 ⟨rfl, b9⟩
      have q9 := below_step Yq b9
      by_cases hz : z < 0
      · have hs : sgnI z < 0 := by unfold sgnI; rw [if_pos hz]; omega
        generalize sgnI z = sv at *
        obtain ⟨s3, hs3⟩ : ∃ s3, bs (45 :: (T.take (T.length - p) ++ [46] ++ T.drop (T.length - p))) = s3 := ⟨_, rfl⟩
        have hcat4 : ∀ W, (Op.stringOp .add ⟨#[45]⟩ s2).run Tryz.prog W = .ok (.string s3) W := fun W => by
          have := run_cat W [45] (T.take (T.length - p) ++ [46] ++ T.drop (T.length - p)) _ rfl (by rw [List.length_append]; simp only [List.length_append, List.length_take, List.length_drop, List.length_cons, List.length_nil]; omega)
          rw [show bs (T.take (T.length - p) ++ [46] ++ T.drop (T.length - p)) = s2 from SE.out.symm] at this
          rw [← hs3]
          exact this
        have HS3 := Lib.hid hs3; clear hs3
        have hfin : decTx z p = 45 :: (T.take (T.length - p) ++ [46] ++ T.drop (T.length - p)) := by unfold decTx decT2; rw [if_pos hz, HT.out]; rw [if_pos hp0]
        have HF := Lib.hid hfin; clear hfin
        go_wp2_with fail
        go_ret2
        rw [HF.out, HS3.out]
        exact ⟨rfl, q9⟩
      · have hs : ¬ sgnI z < 0 := by unfold sgnI; rw [if_neg hz]; split <;> omega
        generalize sgnI z = sv at *
        have hfin : decTx z p = (T.take (T.length - p) ++ [46] ++ T.drop (T.length - p)) := by unfold decTx decT2; rw [if_neg hz, HT.out]; rw [if_pos hp0]
        have HF := Lib.hid hfin; clear hfin
        go_wp2_with fail
        go_ret2
        rw [HF.out, show bs (T.take (T.length - p) ++ [46] ++ T.drop (T.length - p)) = s2 from SE.out.symm]
        exact ⟨rfl, q9⟩
    · have hp0' : p = 0 := by omega
      have hp0I : ¬ (0 : Int) < (p : Int) := by omega
      clear sl
      go_wp2_with fail
      have js := Xj
      refine (sign_any _ _ _ _ _ _ js).mono ?_
      rintro e v9 ⟨rfl, b9⟩
      have q9 := below_step Xq b9
      by_cases hz : z < 0
      · have hs : sgnI z < 0 := by unfold sgnI; rw [if_pos hz]; omega
        generalize sgnI z = sv at *
        obtain ⟨s3, hs3⟩ : ∃ s3, bs (45 :: T) = s3 := ⟨_, rfl⟩
        have hcat4 : ∀ W, (Op.stringOp .add ⟨#[45]⟩ sT).run Tryz.prog W = .ok (.string s3) W := fun W => by
          have := run_cat W [45] T _ rfl (by rw [List.length_append]; simp only [List.length_append, List.length_take, List.length_drop, List.length_cons, List.length_nil]; omega)
          rw [HS.out] at this
          rw [← hs3]
          exact this
        have HS3 := Lib.hid hs3; clear hs3
        have hfin : decTx z p = 45 :: T := by unfold decTx decT2; rw [if_pos hz, HT.out]; rw [if_neg hp0]
        have HF := Lib.hid hfin; clear hfin
        go_wp2_with fail
        go_ret2
        rw [HF.out, HS3.out]
        exact ⟨rfl, q9⟩
      · have hs : ¬ sgnI z < 0 := by unfold sgnI; rw [if_neg hz]; split <;> omega
        generalize sgnI z = sv at *
        have hfin : decTx z p = T := by unfold decTx decT2; rw [if_neg hz, HT.out]; rw [if_neg hp0]
        have HF := Lib.hid hfin; clear hfin
        go_wp2_with fail
        go_ret2
        rw [HF.out, HS.out]
        exact ⟨rfl, q9⟩
  · have hlenI : ¬ (d0.length : Int) ≤ (p : Int) := by omega
    have hlenJ : (p : Int) < (d0.length : Int) := by omega
    have hTd : d0 = T := by rw [← HT.out]; unfold decT1; rw [HD0.out, if_neg hlen]
    rw [hTd, HS.out]
    rw [hTd] at hlenI hlenJ
    generalize w2 = X at *
    have Xb := hb2
    have Xj := h2
    have Xq := q2
    rw [hL] at hlenI hlenJ
    clear hb2 h2 q2 d0s hTd
    by_cases hp0 : 0 < p
    · have hp0I : (0 : Int) < (p : Int) := by omega
      have x1 := sl.a
      have x2 := sl.b
      have x3 := sl.c
      have x4 := sl.d
      have hLI : (p : Int) < (L : Int) := by omega
      have SE := Lib.hid sl.e
      clear sl
      go_upto_region 7 with fail
      go_quiet (fail)
      clear x1 x2 x3 x4
      have bq : Below X.heap.size X (X.drewN nq) := below_drewN (Below.refl _ _) nq
      have Yb := Xb.keep bq
      have Yj := Xj.keep bq
      have Yq := below_step Xq bq
      have y0 := Yb.c0
      have y1 := Yb.c1
      go_wp2_with fail
      have js := Yj
      refine (sign_any _ _ _ _ _ _ js).mono ?_
      rintro e v9 ⟨rfl, b9⟩
      have q9 := below_step Yq b9
      by_cases hz : z < 0
      · have hs : sgnI z < 0 := by unfold sgnI; rw [if_pos hz]; omega
        generalize sgnI z = sv at *
        obtain ⟨s3, hs3⟩ : ∃ s3, bs (45 :: (T.take (T.length - p) ++ [46] ++ T.drop (T.length - p))) = s3 := ⟨_, rfl⟩
        have hcat4 : ∀ W, (Op.stringOp .add ⟨#[45]⟩ s2).run Tryz.prog W = .ok (.string s3) W := fun W => by
          have := run_cat W [45] (T.take (T.length - p) ++ [46] ++ T.drop (T.length - p)) _ rfl (by rw [List.length_append]; simp only [List.length_append, List.length_take, List.length_drop, List.length_cons, List.length_nil]; omega)
          rw [show bs (T.take (T.length - p) ++ [46] ++ T.drop (T.length - p)) = s2 from SE.out.symm] at this
          rw [← hs3]
          exact this
        have HS3 := Lib.hid hs3; clear hs3
        have hfin : decTx z p = 45 :: (T.take (T.length - p) ++ [46] ++ T.drop (T.length - p)) := by unfold decTx decT2; rw [if_pos hz, HT.out]; rw [if_pos hp0]
        have HF := Lib.hid hfin; clear hfin
        go_wp2_with fail
        go_ret2
        rw [HF.out, HS3.out]
        exact ⟨rfl, q9⟩
      · have hs : ¬ sgnI z < 0 := by unfold sgnI; rw [if_neg hz]; split <;> omega
        generalize sgnI z = sv at *
        have hfin : decTx z p = (T.take (T.length - p) ++ [46] ++ T.drop (T.length - p)) := by unfold decTx decT2; rw [if_neg hz, HT.out]; rw [if_pos hp0]
        have HF := Lib.hid hfin; clear hfin
        go_wp2_with fail
        go_ret2
        rw [HF.out, show bs (T.take (T.length - p) ++ [46] ++ T.drop (T.length - p)) = s2 from SE.out.symm]
        exact ⟨rfl, q9⟩
    · have hp0' : p = 0 := by omega
      have hp0I : ¬ (0 : Int) < (p : Int) := by omega
      clear sl
      go_wp2_with fail
      have js := Xj
      refine (sign_any _ _ _ _ _ _ js).mono ?_
      rintro e v9 ⟨rfl, b9⟩
      have q9 := below_step Xq b9
      by_cases hz : z < 0
      · have hs : sgnI z < 0 := by unfold sgnI; rw [if_pos hz]; omega
        generalize sgnI z = sv at *
        obtain ⟨s3, hs3⟩ : ∃ s3, bs (45 :: T) = s3 := ⟨_, rfl⟩
        have hcat4 : ∀ W, (Op.stringOp .add ⟨#[45]⟩ sT).run Tryz.prog W = .ok (.string s3) W := fun W => by
          have := run_cat W [45] T _ rfl (by rw [List.length_append]; simp only [List.length_append, List.length_take, List.length_drop, List.length_cons, List.length_nil]; omega)
          rw [HS.out] at this
          rw [← hs3]
          exact this
        have HS3 := Lib.hid hs3; clear hs3
        have hfin : decTx z p = 45 :: T := by unfold decTx decT2; rw [if_pos hz, HT.out]; rw [if_neg hp0]
        have HF := Lib.hid hfin; clear hfin
        go_wp2_with fail
        go_ret2
        rw [HF.out, HS3.out]
        exact ⟨rfl, q9⟩
      · have hs : ¬ sgnI z < 0 := by unfold sgnI; rw [if_neg hz]; split <;> omega
        generalize sgnI z = sv at *
        have hfin : decTx z p = T := by unfold decTx decT2; rw [if_neg hz, HT.out]; rw [if_neg hp0]
        have HF := Lib.hid hfin; clear hfin
        go_wp2_with fail
        go_ret2
        rw [HF.out, HS.out]
        exact ⟨rfl, q9⟩
end Go.Proofs.YtnifjdhjimjihaaGreatDoor
