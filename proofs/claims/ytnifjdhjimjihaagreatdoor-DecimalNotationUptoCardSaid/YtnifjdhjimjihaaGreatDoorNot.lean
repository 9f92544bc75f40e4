/- The law DecimalNotation: its walk. -/
import Derived.Test.YtnifjdhjimjihaaGreatDoorNotT
import Derived.Test.YtnifjdhjimjihaaGreatDoorKeep
set_option linter.unusedSimpArgs false
set_option linter.unusedVariables false
namespace Go.Proofs.YtnifjdhjimjihaaGreatDoor
open Go.RowKit Lim

theorem dparse_all (s : List UInt8) (hs : s.length < 4294967281) : (∃ e : Int, (e == 0) = false ∧ AC 16 [str s] (zErr e)) ∨
    (bad1 (pBef s) (pAft s) (pPt s) = false ∧ bad2 (pBef s) (pAft s) (pNeg s) = false ∧ long3 (pBef s) (pAft s) = false ∧ AC 16 [str s] (.tup [decN (sg (pNeg s) (valD (pBef s ++ pAft s))) ((pAft s).length : Nat), i64 0])) := by
  cases h1 : bad1 (pBef s) (pAft s) (pPt s) with
  | true => exact .inl ⟨2, rfl, dparse_bad1 s hs h1⟩
  | false =>
    cases h2 : bad2 (pBef s) (pAft s) (pNeg s) with
    | true => exact .inl ⟨2, rfl, dparse_good s hs h1 (after_nil s) _ (fun _ => rfl) (fun h => by rw [h2] at h; cases h) (fun h => by rw [h2] at h; cases h)⟩
    | false =>
      cases h3 : long3 (pBef s) (pAft s) with
      | true => exact .inl ⟨5, rfl, dparse_good s hs h1 (after_nil s) _ (fun h => by rw [h2] at h; cases h) (fun _ _ => rfl) (fun _ h => by rw [h3] at h; cases h)⟩
      | false => exact .inr ⟨rfl, rfl, rfl, dparse_good s hs h1 (after_nil s) _ (fun h => by rw [h2] at h; cases h) (fun _ h => by rw [h3] at h; cases h) (fun _ _ => rfl)⟩
theorem vplaces_no (p : Int) (h : p < 0 ∨ 9 < p) : AC 28 [i64 p] (boo false) := by
  refine AC.mk (by exact ⟨Tryz.f28, Tryz.func28, by kernel_rfl, rfl⟩) fun w Z vs hE hr => ?_
  obtain ⟨_, rfl, h1⟩ := reps1 hr
  rw [h1.lit_eq]
  refine (validPlaces_no p h w).mono ?_
  rintro e w' ⟨rfl, rfl⟩
  exact ⟨_, rfl, Below.refl _ _, fun _ => .lit rfl⟩
set_option maxHeartbeats 1000000 in
theorem dprint_range (t : Bool) (l : List Nat) (q : Int) (h : q < 0 ∨ 9 < q) : AC 17 [decA t l q] (.tup [str [], i64 3]) := by
  refine ACalls.of 5 (fn := Tryz.f17) Tryz.func17 rfl rfl rfl (by kernel_rfl) (by kernel_rfl) (Nat.le_of_ble_eq_true rfl) ?_
  simp -implicitDefEqProofs only [mk_bs, go_sem, awp_seq, Nat.reduceBNe, Nat.reduceBEq, Nat.reduceAdd, Nat.reduceSub, Nat.reduceMul, Nat.reduceLeDiff, Nat.reduceLT, Nat.reduceEqDiff, Nat.reduceBneDiff]
  refine callA_mk (vplaces_no q h) ?_
  simp -implicitDefEqProofs only [mk_bs, go_sem, awp_seq, Nat.reduceBNe, Nat.reduceBEq, Nat.reduceAdd, Nat.reduceSub, Nat.reduceMul, Nat.reduceLeDiff, Nat.reduceLT, Nat.reduceEqDiff, Nat.reduceBneDiff]
theorem valD_nlen {s : List UInt8} (h1 : bad1 (pBef s) (pAft s) (pPt s) = false) (h3 : long3 (pBef s) (pAft s) = false) : nlen (valD (pBef s ++ pAft s)) ≤ 60 ∧ (pAft s).length ≤ 9 := by
  obtain ⟨hb, _, ha⟩ := good1 h1
  have da : (pAft s).all isD = true := by
    cases hp : pPt s with
    | true => exact (isDs_all (ha hp)).1
    | false => rw [after_nil s hp]; rfl
  have dd : (pBef s ++ pAft s).all isD = true := by rw [List.all_append, (isDs_all hb).1, da]; rfl
  simp only [long3, Bool.or_eq_false_iff, decide_eq_false_iff_not] at h3
  refine ⟨nlen_q (valD_bound dd) (by simp; omega), by omega⟩
theorem decTx_len {z : Int} {p : Nat} (hp : p ≤ 9) (hl : nlen z.natAbs < 1099511627776) : (decTx z p).length < 10995116277800 := by
  have h1 := dec_len hl
  have h2 := decT1_len z.natAbs p
  have h3 : (decT2 z.natAbs p).length ≤ (decT1 z.natAbs p).length + 1 := by
    unfold decT2
    split
    · simp; omega
    · omega
  unfold decTx
  split
  · simp; omega
  · omega
set_option maxHeartbeats 4000000 in
theorem notation_c (t0 : Bool) (l0 : List Nat) (q0 : Int) (s : List UInt8) (hl0 : l0.length ≤ 1048576) (dl0 : Dig l0) (hs : s.length < 4294967281) :
    AC 4 [decA t0 l0 q0, str s] (boo true) := by
  have nl0 := nlen_val dl0
  have hi : IsI (.agg [boo t0, .nat l0]) (sg t0 (val l0)) := ⟨t0, l0, rfl, rfl, by omega⟩
  have nz0 : nlen (sg t0 (val l0)).natAbs ≤ l0.length := by rw [sg_abs]; exact nl0
  generalize sg t0 (val l0) = u0 at *
  have PP := dparse_all s hs
  have PB : bad1 (pBef s) (pAft s) (pPt s) = false → bad2 (pBef s) (pAft s) (pNeg s) = false → long3 (pBef s) (pAft s) = false →
      AC 17 [decN (sg (pNeg s) (valD (pBef s ++ pAft s))) ((pAft s).length : Nat)] (.tup [str s, i64 0]) := fun h1 h2 h3 => by
    have hn := valD_nlen h1 h3
    have := dprint_c (isI (sg (pNeg s) (valD (pBef s ++ pAft s))) (by rw [sg_abs]; omega)) (pAft s).length hn.2
    rw [parse_print s h1 h2] at this
    exact this
  generalize sg (pNeg s) (valD (pBef s ++ pAft s)) = u1 at *
  generalize (pAft s).length = p1 at *
  have ss : (s == s) = true := BEq.rfl
  by_cases hq : q0 < 0 ∨ 9 < q0
  · have PR := dprint_range t0 l0 q0 hq
    have b9 : decide (q0 < 0) = false → decide (9 < q0) = true := fun h => by simp at h ⊢; omega
    rcases PP with ⟨e, he, P⟩ | ⟨h1, h2, h3, P⟩
    · refine ACalls.of 10 (fn := Tryz.f4) Tryz.func4 rfl rfl rfl (by kernel_rfl) (by kernel_rfl) (Nat.le_of_ble_eq_true rfl) ?_
      simp -implicitDefEqProofs only [go_sem, awp_seq, Nat.reduceBNe, Nat.reduceBEq, Nat.reduceAdd, Nat.reduceSub, Nat.reduceMul, Nat.reduceLeDiff, Nat.reduceLT, Nat.reduceEqDiff, Nat.reduceBneDiff]
      refine callA_mk P ?_
      simp -implicitDefEqProofs only [he, go_sem, awp_seq, Nat.reduceBNe, Nat.reduceBEq, Nat.reduceAdd, Nat.reduceSub, Nat.reduceMul, Nat.reduceLeDiff, Nat.reduceLT, Nat.reduceEqDiff, Nat.reduceBneDiff]
      refine callA_mk PR ?_
      simp -implicitDefEqProofs only [Int.reduceBNe, go_sem, awp_seq, Nat.reduceBNe, Nat.reduceBEq, Nat.reduceAdd, Nat.reduceSub, Nat.reduceMul, Nat.reduceLeDiff, Nat.reduceLT, Nat.reduceEqDiff, Nat.reduceBneDiff]
      cases hc : decide (q0 < 0) with
      | true =>
        simp -implicitDefEqProofs only [hc, go_sem, awp_seq, Nat.reduceBNe, Nat.reduceBEq, Nat.reduceAdd, Nat.reduceSub, Nat.reduceMul, Nat.reduceLeDiff, Nat.reduceLT, Nat.reduceEqDiff, Nat.reduceBneDiff]
        refine callA_mk awake_c ?_
        simp -implicitDefEqProofs only [go_sem, awp_seq, Nat.reduceBNe, Nat.reduceBEq, Nat.reduceAdd, Nat.reduceSub, Nat.reduceMul, Nat.reduceLeDiff, Nat.reduceLT, Nat.reduceEqDiff, Nat.reduceBneDiff]
      | false =>
        simp -implicitDefEqProofs only [hc, b9 hc, go_sem, awp_seq, Nat.reduceBNe, Nat.reduceBEq, Nat.reduceAdd, Nat.reduceSub, Nat.reduceMul, Nat.reduceLeDiff, Nat.reduceLT, Nat.reduceEqDiff, Nat.reduceBneDiff]
        refine callA_mk awake_c ?_
        simp -implicitDefEqProofs only [go_sem, awp_seq, Nat.reduceBNe, Nat.reduceBEq, Nat.reduceAdd, Nat.reduceSub, Nat.reduceMul, Nat.reduceLeDiff, Nat.reduceLT, Nat.reduceEqDiff, Nat.reduceBneDiff]
    · refine ACalls.of 10 (fn := Tryz.f4) Tryz.func4 rfl rfl rfl (by kernel_rfl) (by kernel_rfl) (Nat.le_of_ble_eq_true rfl) ?_
      simp -implicitDefEqProofs only [go_sem, awp_seq, Nat.reduceBNe, Nat.reduceBEq, Nat.reduceAdd, Nat.reduceSub, Nat.reduceMul, Nat.reduceLeDiff, Nat.reduceLT, Nat.reduceEqDiff, Nat.reduceBneDiff]
      refine callA_mk P ?_
      simp -implicitDefEqProofs only [BEq.rfl, go_sem, awp_seq, Nat.reduceBNe, Nat.reduceBEq, Nat.reduceAdd, Nat.reduceSub, Nat.reduceMul, Nat.reduceLeDiff, Nat.reduceLT, Nat.reduceEqDiff, Nat.reduceBneDiff]
      refine callA_mk (PB h1 h2 h3) ?_
      simp -implicitDefEqProofs only [bne_self_eq_false, toList_bs, ss, go_sem, awp_seq, Nat.reduceBNe, Nat.reduceBEq, Nat.reduceAdd, Nat.reduceSub, Nat.reduceMul, Nat.reduceLeDiff, Nat.reduceLT, Nat.reduceEqDiff, Nat.reduceBneDiff]
      refine callA_mk PR ?_
      simp -implicitDefEqProofs only [Int.reduceBNe, go_sem, awp_seq, Nat.reduceBNe, Nat.reduceBEq, Nat.reduceAdd, Nat.reduceSub, Nat.reduceMul, Nat.reduceLeDiff, Nat.reduceLT, Nat.reduceEqDiff, Nat.reduceBneDiff]
      cases hc : decide (q0 < 0) with
      | true =>
        simp -implicitDefEqProofs only [hc, go_sem, awp_seq, Nat.reduceBNe, Nat.reduceBEq, Nat.reduceAdd, Nat.reduceSub, Nat.reduceMul, Nat.reduceLeDiff, Nat.reduceLT, Nat.reduceEqDiff, Nat.reduceBneDiff]
        refine callA_mk awake_c ?_
        simp -implicitDefEqProofs only [go_sem, awp_seq, Nat.reduceBNe, Nat.reduceBEq, Nat.reduceAdd, Nat.reduceSub, Nat.reduceMul, Nat.reduceLeDiff, Nat.reduceLT, Nat.reduceEqDiff, Nat.reduceBneDiff]
      | false =>
        simp -implicitDefEqProofs only [hc, b9 hc, go_sem, awp_seq, Nat.reduceBNe, Nat.reduceBEq, Nat.reduceAdd, Nat.reduceSub, Nat.reduceMul, Nat.reduceLeDiff, Nat.reduceLT, Nat.reduceEqDiff, Nat.reduceBneDiff]
        refine callA_mk awake_c ?_
        simp -implicitDefEqProofs only [go_sem, awp_seq, Nat.reduceBNe, Nat.reduceBEq, Nat.reduceAdd, Nat.reduceSub, Nat.reduceMul, Nat.reduceLeDiff, Nat.reduceLT, Nat.reduceEqDiff, Nat.reduceBneDiff]
  · obtain ⟨q, rfl⟩ : ∃ q : Nat, q0 = (q : Int) := ⟨q0.toNat, by omega⟩
    have PR := dprint_c hi q (by omega)
    have hlen := decTx_len (z := u0) (p := q) (by omega) (by omega)
    have BK := print_parse u0 q (by omega)
    generalize hx : decTx u0 q = tx at *
    by_cases hb : 400 < tx.length
    · have eb : decide ((400 : Int) < (tx.length : Nat)) = true := by simp; omega
      rcases PP with ⟨e, he, P⟩ | ⟨h1, h2, h3, P⟩
      · refine ACalls.of 10 (fn := Tryz.f4) Tryz.func4 rfl rfl rfl (by kernel_rfl) (by kernel_rfl) (Nat.le_of_ble_eq_true rfl) ?_
        simp -implicitDefEqProofs only [go_sem, awp_seq, Nat.reduceBNe, Nat.reduceBEq, Nat.reduceAdd, Nat.reduceSub, Nat.reduceMul, Nat.reduceLeDiff, Nat.reduceLT, Nat.reduceEqDiff, Nat.reduceBneDiff]
        refine callA_mk P ?_
        simp -implicitDefEqProofs only [he, go_sem, awp_seq, Nat.reduceBNe, Nat.reduceBEq, Nat.reduceAdd, Nat.reduceSub, Nat.reduceMul, Nat.reduceLeDiff, Nat.reduceLT, Nat.reduceEqDiff, Nat.reduceBneDiff]
        refine callA_mk PR ?_
        simp -implicitDefEqProofs only [bne_self_eq_false, bs_size, eb, go_sem, awp_seq, Nat.reduceBNe, Nat.reduceBEq, Nat.reduceAdd, Nat.reduceSub, Nat.reduceMul, Nat.reduceLeDiff, Nat.reduceLT, Nat.reduceEqDiff, Nat.reduceBneDiff]
        refine callA_mk awake_c ?_
        simp -implicitDefEqProofs only [go_sem, awp_seq, Nat.reduceBNe, Nat.reduceBEq, Nat.reduceAdd, Nat.reduceSub, Nat.reduceMul, Nat.reduceLeDiff, Nat.reduceLT, Nat.reduceEqDiff, Nat.reduceBneDiff]
      · refine ACalls.of 10 (fn := Tryz.f4) Tryz.func4 rfl rfl rfl (by kernel_rfl) (by kernel_rfl) (Nat.le_of_ble_eq_true rfl) ?_
        simp -implicitDefEqProofs only [go_sem, awp_seq, Nat.reduceBNe, Nat.reduceBEq, Nat.reduceAdd, Nat.reduceSub, Nat.reduceMul, Nat.reduceLeDiff, Nat.reduceLT, Nat.reduceEqDiff, Nat.reduceBneDiff]
        refine callA_mk P ?_
        simp -implicitDefEqProofs only [BEq.rfl, go_sem, awp_seq, Nat.reduceBNe, Nat.reduceBEq, Nat.reduceAdd, Nat.reduceSub, Nat.reduceMul, Nat.reduceLeDiff, Nat.reduceLT, Nat.reduceEqDiff, Nat.reduceBneDiff]
        refine callA_mk (PB h1 h2 h3) ?_
        simp -implicitDefEqProofs only [bne_self_eq_false, toList_bs, ss, go_sem, awp_seq, Nat.reduceBNe, Nat.reduceBEq, Nat.reduceAdd, Nat.reduceSub, Nat.reduceMul, Nat.reduceLeDiff, Nat.reduceLT, Nat.reduceEqDiff, Nat.reduceBneDiff]
        refine callA_mk PR ?_
        simp -implicitDefEqProofs only [bne_self_eq_false, bs_size, eb, go_sem, awp_seq, Nat.reduceBNe, Nat.reduceBEq, Nat.reduceAdd, Nat.reduceSub, Nat.reduceMul, Nat.reduceLeDiff, Nat.reduceLT, Nat.reduceEqDiff, Nat.reduceBneDiff]
        refine callA_mk awake_c ?_
        simp -implicitDefEqProofs only [go_sem, awp_seq, Nat.reduceBNe, Nat.reduceBEq, Nat.reduceAdd, Nat.reduceSub, Nat.reduceMul, Nat.reduceLeDiff, Nat.reduceLT, Nat.reduceEqDiff, Nat.reduceBneDiff]
    · have eb : decide ((400 : Int) < (tx.length : Nat)) = false := by simp; omega
      obtain ⟨k1, k2, k3, k4, k5⟩ := BK (by omega)
      have P2 : AC 16 [str tx] (.tup [decN u0 (q : Nat), i64 0]) := by
        rcases dparse_all tx (by omega) with ⟨e, he, P⟩ | ⟨_, _, _, P⟩
        · have := dparse_good tx (by omega) k1 (after_nil tx) (.tup [decN (sg (pNeg tx) (valD (pBef tx ++ pAft tx))) ((pAft tx).length : Nat), i64 0]) (fun h => by rw [k2] at h; cases h) (fun _ h => by rw [k3] at h; cases h) (fun _ _ => rfl)
          rw [k4, k5] at this
          exact this
        · rw [k4, k5] at P
          exact P
      have CM := icmp_c (isI u0 (by omega)) hi
      have c0 : cmpZ u0 u0 = 0 := by unfold cmpZ; simp
      rw [c0] at CM
      rcases PP with ⟨e, he, P⟩ | ⟨h1, h2, h3, P⟩
      · refine ACalls.of 10 (fn := Tryz.f4) Tryz.func4 rfl rfl rfl (by kernel_rfl) (by kernel_rfl) (Nat.le_of_ble_eq_true rfl) ?_
        simp -implicitDefEqProofs only [go_sem, awp_seq, Nat.reduceBNe, Nat.reduceBEq, Nat.reduceAdd, Nat.reduceSub, Nat.reduceMul, Nat.reduceLeDiff, Nat.reduceLT, Nat.reduceEqDiff, Nat.reduceBneDiff]
        refine callA_mk P ?_
        simp -implicitDefEqProofs only [he, go_sem, awp_seq, Nat.reduceBNe, Nat.reduceBEq, Nat.reduceAdd, Nat.reduceSub, Nat.reduceMul, Nat.reduceLeDiff, Nat.reduceLT, Nat.reduceEqDiff, Nat.reduceBneDiff]
        refine callA_mk PR ?_
        simp -implicitDefEqProofs only [bne_self_eq_false, bs_size, eb, go_sem, awp_seq, Nat.reduceBNe, Nat.reduceBEq, Nat.reduceAdd, Nat.reduceSub, Nat.reduceMul, Nat.reduceLeDiff, Nat.reduceLT, Nat.reduceEqDiff, Nat.reduceBneDiff]
        refine callA_mk P2 ?_
        simp -implicitDefEqProofs only [BEq.rfl, go_sem, awp_seq, Nat.reduceBNe, Nat.reduceBEq, Nat.reduceAdd, Nat.reduceSub, Nat.reduceMul, Nat.reduceLeDiff, Nat.reduceLT, Nat.reduceEqDiff, Nat.reduceBneDiff]
        refine callA_mk CM ?_
        simp -implicitDefEqProofs only [BEq.rfl, go_sem, awp_seq, Nat.reduceBNe, Nat.reduceBEq, Nat.reduceAdd, Nat.reduceSub, Nat.reduceMul, Nat.reduceLeDiff, Nat.reduceLT, Nat.reduceEqDiff, Nat.reduceBneDiff]
        refine callA_mk awake_c ?_
        simp -implicitDefEqProofs only [go_sem, awp_seq, Nat.reduceBNe, Nat.reduceBEq, Nat.reduceAdd, Nat.reduceSub, Nat.reduceMul, Nat.reduceLeDiff, Nat.reduceLT, Nat.reduceEqDiff, Nat.reduceBneDiff]
      · refine ACalls.of 10 (fn := Tryz.f4) Tryz.func4 rfl rfl rfl (by kernel_rfl) (by kernel_rfl) (Nat.le_of_ble_eq_true rfl) ?_
        simp -implicitDefEqProofs only [go_sem, awp_seq, Nat.reduceBNe, Nat.reduceBEq, Nat.reduceAdd, Nat.reduceSub, Nat.reduceMul, Nat.reduceLeDiff, Nat.reduceLT, Nat.reduceEqDiff, Nat.reduceBneDiff]
        refine callA_mk P ?_
        simp -implicitDefEqProofs only [BEq.rfl, go_sem, awp_seq, Nat.reduceBNe, Nat.reduceBEq, Nat.reduceAdd, Nat.reduceSub, Nat.reduceMul, Nat.reduceLeDiff, Nat.reduceLT, Nat.reduceEqDiff, Nat.reduceBneDiff]
        refine callA_mk (PB h1 h2 h3) ?_
        simp -implicitDefEqProofs only [bne_self_eq_false, toList_bs, ss, go_sem, awp_seq, Nat.reduceBNe, Nat.reduceBEq, Nat.reduceAdd, Nat.reduceSub, Nat.reduceMul, Nat.reduceLeDiff, Nat.reduceLT, Nat.reduceEqDiff, Nat.reduceBneDiff]
        refine callA_mk PR ?_
        simp -implicitDefEqProofs only [bne_self_eq_false, bs_size, eb, go_sem, awp_seq, Nat.reduceBNe, Nat.reduceBEq, Nat.reduceAdd, Nat.reduceSub, Nat.reduceMul, Nat.reduceLeDiff, Nat.reduceLT, Nat.reduceEqDiff, Nat.reduceBneDiff]
        refine callA_mk P2 ?_
        simp -implicitDefEqProofs only [BEq.rfl, go_sem, awp_seq, Nat.reduceBNe, Nat.reduceBEq, Nat.reduceAdd, Nat.reduceSub, Nat.reduceMul, Nat.reduceLeDiff, Nat.reduceLT, Nat.reduceEqDiff, Nat.reduceBneDiff]
        refine callA_mk CM ?_
        simp -implicitDefEqProofs only [BEq.rfl, go_sem, awp_seq, Nat.reduceBNe, Nat.reduceBEq, Nat.reduceAdd, Nat.reduceSub, Nat.reduceMul, Nat.reduceLeDiff, Nat.reduceLT, Nat.reduceEqDiff, Nat.reduceBneDiff]
        refine callA_mk awake_c ?_
        simp -implicitDefEqProofs only [go_sem, awp_seq, Nat.reduceBNe, Nat.reduceBEq, Nat.reduceAdd, Nat.reduceSub, Nat.reduceMul, Nat.reduceLeDiff, Nat.reduceLT, Nat.reduceEqDiff, Nat.reduceBneDiff]
end Go.Proofs.YtnifjdhjimjihaaGreatDoor
