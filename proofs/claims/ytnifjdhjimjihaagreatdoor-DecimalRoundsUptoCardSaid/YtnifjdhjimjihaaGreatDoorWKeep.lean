/- The law DecimalKeeps: its arithmetic and its walk. -/
import Derived.Test.YtnifjdhjimjihaaGreatDoorWNear
set_option linter.unusedSimpArgs false
set_option linter.unusedVariables false
namespace Go.Proofs.YtnifjdhjimjihaaGreatDoor
open Go.RowKit Lim

theorem dvalue_range (t : Bool) (l : List Nat) (q : Int) (h : q < 0 ∨ 9 < q) : AC 23 [decA t l q] (.tup [.agg [boo false, .nat [], .nat []], i64 3]) := by
  refine AC.mk (by exact ⟨Tryz.f23, Tryz.func23, by kernel_rfl, rfl⟩) fun w Z vs hE hr => ?_
  obtain ⟨_, rfl, h1⟩ := reps1 hr
  obtain ⟨_, rfl, h1⟩ := rep_agg h1
  obtain ⟨_, _, _, rfl, g1, g2, g3⟩ := reps3 h1
  rw [g1.lit_eq, g3.lit_eq]
  obtain ⟨A1, c1, rfl, _, _⟩ := rep_nat g2
  refine (value_range _ _ _ _ _ w h).mono ?_
  rintro e w' ⟨rfl, b1⟩
  exact ⟨_, rfl, b1, fun _ hz => rept2 (rep3 (.lit rfl) rep_nat0 rep_nat0) (.lit rfl)⟩
/-- A number that has so few places is not turned by rounding. -/
theorem rndU_exact {N u : Int} {D p : Nat} (mode : Int) (h : Eqv N D u (10 ^ p)) : rndU N D p mode = u := by
  unfold rndU
  rw [h.e]
  have hd := h.dp
  rw [if_pos (Int.mul_emod_left _ _), Int.mul_ediv_cancel _ (by omega)]
theorem Eqv.up {N u : Int} {D q p : Nat} (h : Eqv N D u (10 ^ q)) (hp : q ≤ p) : Eqv N D (u * ((10 ^ (p - q) : Nat) : Int)) (10 ^ p) := by
  refine ⟨h.dp, Nat.pos_of_ne_zero (by simp), ?_⟩
  have e : 10 ^ p = 10 ^ q * 10 ^ (p - q) := by rw [← Nat.pow_add]; congr 1; omega
  rw [e, Int.natCast_mul]
  have := h.e
  calc N * (((10 ^ q : Nat) : Int) * ((10 ^ (p - q) : Nat) : Int)) = N * ((10 ^ q : Nat) : Int) * ((10 ^ (p - q) : Nat) : Int) := by rw [Int.mul_assoc]
    _ = u * ((10 ^ (p - q) : Nat) : Int) * D := by rw [this]; grind
theorem eqv_up (u : Int) {q p : Nat} (hp : q ≤ p) : Eqv u (10 ^ q) (u * ((10 ^ (p - q) : Nat) : Int)) (10 ^ p) := (Eqv.refl u (Nat.pos_of_ne_zero (by simp))).up hp
set_option maxHeartbeats 1000000 in
theorem same01_c (l : List Nat) (hl : l.length < 1099511627776) : AC 49 [.nat l, .nat l] (boo true) := by
  refine ACalls.of 6 (fn := Tryz.f49) Tryz.func49 rfl rfl rfl (by kernel_rfl) (by kernel_rfl) (Nat.le_of_ble_eq_true rfl) ?_
  simp -implicitDefEqProofs only [bne_self_eq_false, go_sem, awp_seq, Nat.reduceBNe, Nat.reduceBEq, Nat.reduceAdd, Nat.reduceSub, Nat.reduceMul, Nat.reduceLeDiff, Nat.reduceLT, Nat.reduceEqDiff, Nat.reduceBneDiff]
  refine loop_mk (α := {k : Nat // k ≤ l.length}) (fun k => [(0, some (.av (.nat l))), (1, some (.av (.nat l))), (4, some (.av (boo false))), (5, some (.av (i64 (k.1 : Nat))))]) (fun _ => []) (fun _ => []) (fun k => l.length - k.1) ⟨0, Nat.zero_le _⟩ ?_ ?_
  · simp -implicitDefEqProofs only [go_sem, awp_seq, Nat.reduceBNe, Nat.reduceBEq, Nat.reduceAdd, Nat.reduceSub, Nat.reduceMul, Nat.reduceLeDiff, Nat.reduceLT, Nat.reduceEqDiff, Nat.reduceBneDiff]
    simp
  · rintro ⟨k, hk⟩
    by_cases hlt : k < l.length
    · have e1 : decide ((k : Int) < (l.length : Nat)) = true := by simp; omega
      have e2 : l[k]? = some l[k] := List.getElem?_eq_getElem hlt
      have w3 : IntKind.i64.wrap ((k : Int) + 1) = ((k + 1 : Nat) : Int) := by rw [IntWalk.i64_in _ (by omega)]; omega
      simp -implicitDefEqProofs only [e1, e2, w3, Int.toNat_natCast, Int.natCast_nonneg, bne_self_eq_false, go_sem, awp_seq, Nat.reduceBNe, Nat.reduceBEq, Nat.reduceAdd, Nat.reduceSub, Nat.reduceMul, Nat.reduceLeDiff, Nat.reduceLT, Nat.reduceEqDiff, Nat.reduceBneDiff]
      refine roundK_mk ⟨k + 1, hlt⟩ ?_ (by show l.length - (k + 1) < l.length - k; omega)
      simp -implicitDefEqProofs only [go_sem, awp_seq, Nat.reduceBNe, Nat.reduceBEq, Nat.reduceAdd, Nat.reduceSub, Nat.reduceMul, Nat.reduceLeDiff, Nat.reduceLT, Nat.reduceEqDiff, Nat.reduceBneDiff]
    · have e1 : decide ((k : Int) < (l.length : Nat)) = false := by simp; omega
      simp -implicitDefEqProofs only [e1, go_sem, awp_seq, Nat.reduceBNe, Nat.reduceBEq, Nat.reduceAdd, Nat.reduceSub, Nat.reduceMul, Nat.reduceLeDiff, Nat.reduceLT, Nat.reduceEqDiff, Nat.reduceBneDiff]
set_option maxHeartbeats 1000000 in
theorem sameInt_c (t : Bool) (l : List Nat) (hl : l.length < 1099511627776) : AC 14 [intA t l, intA t l] (boo true) := by
  refine ACalls.of 5 (fn := Tryz.f14) Tryz.func14 rfl rfl rfl (by kernel_rfl) (by kernel_rfl) (Nat.le_of_ble_eq_true rfl) ?_
  simp -implicitDefEqProofs only [BEq.rfl, go_sem, awp_seq, Nat.reduceBNe, Nat.reduceBEq, Nat.reduceAdd, Nat.reduceSub, Nat.reduceMul, Nat.reduceLeDiff, Nat.reduceLT, Nat.reduceEqDiff, Nat.reduceBneDiff]
  refine callA_mk (same01_c l hl) ?_
  simp -implicitDefEqProofs only [go_sem, awp_seq, Nat.reduceBNe, Nat.reduceBEq, Nat.reduceAdd, Nat.reduceSub, Nat.reduceMul, Nat.reduceLeDiff, Nat.reduceLT, Nat.reduceEqDiff, Nat.reduceBneDiff]
set_option maxHeartbeats 1000000 in
theorem same04_c (t : Bool) (l : List Nat) (p : Int) (hl : l.length < 1099511627776) : AC 11 [decA t l p, decA t l p] (boo true) := by
  refine ACalls.of 5 (fn := Tryz.f11) Tryz.func11 rfl rfl rfl (by kernel_rfl) (by kernel_rfl) (Nat.le_of_ble_eq_true rfl) ?_
  simp -implicitDefEqProofs only [BEq.rfl, go_sem, awp_seq, Nat.reduceBNe, Nat.reduceBEq, Nat.reduceAdd, Nat.reduceSub, Nat.reduceMul, Nat.reduceLeDiff, Nat.reduceLT, Nat.reduceEqDiff, Nat.reduceBneDiff]
  refine callA_mk (sameInt_c t l hl) ?_
  simp -implicitDefEqProofs only [go_sem, awp_seq, Nat.reduceBNe, Nat.reduceBEq, Nat.reduceAdd, Nat.reduceSub, Nat.reduceMul, Nat.reduceLeDiff, Nat.reduceLT, Nat.reduceEqDiff, Nat.reduceBneDiff]
set_option maxHeartbeats 1000000 in
/-- Rescaling to as many or more places. -/
theorem rescale_up {x y : AV} {u : Int} (ha : IsI (.agg [x, y]) u) (hl : nlen u.natAbs + 16 < 1099511627776) (q p : Nat) (mode : Int) (hq : q ≤ p) (hp : p ≤ 9) (hm1 : 1 ≤ mode) (hm2 : mode ≤ 7) :
    AC 24 [.agg [x, y, i64 (q : Nat)], i64 (p : Nat), i64 mode] (.tup [decN (u * ((10 ^ (p - q) : Nat) : Int)) (p : Nat), i64 0]) := by
  have V := dvalue_c ha q (by omega)
  have t0 : 0 < 10 ^ q := Nat.pos_of_ne_zero (by simp)
  have n1 := nlen_rn u (10 ^ q)
  have n2 := nlen_rd u (10 ^ q)
  have n3 := nlen_pow10 (p := q) (by omega)
  have R := dround_c (isR (rn u (10 ^ q)) (rd u (10 ^ q)) (by omega) (by omega)) p mode hp hm1 hm2 (by omega) (by omega)
  obtain ⟨q1, q2⟩ := norm_norm u t0
  rw [q1, q2, rndU_exact mode ((Eqv.norm u t0).up hq)] at R
  obtain ⟨t, l, e, _⟩ := ha
  obtain ⟨rfl, rfl⟩ : x = boo t ∧ y = .nat l := by simpa using e
  refine ACalls.of 10 (fn := Tryz.f24) Tryz.func24 rfl rfl rfl (by kernel_rfl) (by kernel_rfl) (Nat.le_of_ble_eq_true rfl) ?_
  simp -implicitDefEqProofs only [go_sem, awp_seq, Nat.reduceBNe, Nat.reduceBEq, Nat.reduceAdd, Nat.reduceSub, Nat.reduceMul, Nat.reduceLeDiff, Nat.reduceLT, Nat.reduceEqDiff, Nat.reduceBneDiff]
  refine callA_mk V ?_
  simp -implicitDefEqProofs only [bne_self_eq_false, go_sem, awp_seq, Nat.reduceBNe, Nat.reduceBEq, Nat.reduceAdd, Nat.reduceSub, Nat.reduceMul, Nat.reduceLeDiff, Nat.reduceLT, Nat.reduceEqDiff, Nat.reduceBneDiff]
  refine callA_mk R ?_
  simp -implicitDefEqProofs only [go_sem, awp_seq, Nat.reduceBNe, Nat.reduceBEq, Nat.reduceAdd, Nat.reduceSub, Nat.reduceMul, Nat.reduceLeDiff, Nat.reduceLT, Nat.reduceEqDiff, Nat.reduceBneDiff]
theorem cmpZ_zero {a b : Int} (h : a = b) : (cmpZ a b != 0) = false := by subst h; unfold cmpZ; simp
set_option maxHeartbeats 4000000 in
theorem keeps_c (t0 : Bool) (l0 : List Nat) (q0 : Int) (t : Bool) (l m : List Nat) (pl mode : Int) (hl0 : l0.length ≤ 1048576) (dl0 : Dig l0) (hl : l.length ≤ 1048576) (hm : m.length ≤ 1048576) (dl : Dig l) (dm : Dig m) :
    AC 7 [decA t0 l0 q0, ratA t l m, i64 pl, i64 mode] (boo true) := by
  cases hv : validB pl mode with
  | false =>
    refine ACalls.of 19 (fn := Tryz.f7) Tryz.func7 rfl rfl rfl (by kernel_rfl) (by kernel_rfl) (Nat.le_of_ble_eq_true rfl) ?_
    simp -implicitDefEqProofs only [go_sem, awp_seq, Nat.reduceBNe, Nat.reduceBEq, Nat.reduceAdd, Nat.reduceSub, Nat.reduceMul, Nat.reduceLeDiff, Nat.reduceLT, Nat.reduceEqDiff, Nat.reduceBneDiff]
    refine callA_mk (valid_c pl mode) ?_
    simp -implicitDefEqProofs only [hv, go_sem, awp_seq, Nat.reduceBNe, Nat.reduceBEq, Nat.reduceAdd, Nat.reduceSub, Nat.reduceMul, Nat.reduceLeDiff, Nat.reduceLT, Nat.reduceEqDiff, Nat.reduceBneDiff]
    refine callA_mk awake_c ?_
    simp -implicitDefEqProofs only [go_sem, awp_seq, Nat.reduceBNe, Nat.reduceBEq, Nat.reduceAdd, Nat.reduceSub, Nat.reduceMul, Nat.reduceLeDiff, Nat.reduceLT, Nat.reduceEqDiff, Nat.reduceBneDiff]
  | true =>
    simp only [validB, Bool.and_eq_true, decide_eq_true_eq] at hv
    obtain ⟨v1, v2, v3, v4⟩ := hv
    obtain ⟨p, rfl⟩ : ∃ p : Nat, pl = (p : Int) := ⟨pl.toNat, by omega⟩
    have hvt : validB (p : Int) mode = true := by simp [validB, v1, v2, v3, v4]
    have nl := nlen_val dl
    have nm := nlen_val dm
    have nl0 := nlen_val dl0
    have ha : IsR (ratA t l m) (sg t (val l)) (val m) := ⟨t, l, m, rfl, rfl, rfl, by omega, by omega⟩
    have hi : IsI (.agg [boo t0, .nat l0]) (sg t0 (val l0)) := ⟨t0, l0, rfl, rfl, by omega⟩
    have nz : nlen (sg t (val l)).natAbs ≤ l.length := by rw [sg_abs]; exact nl
    have nz0 : nlen (sg t0 (val l0)).natAbs ≤ l0.length := by rw [sg_abs]; exact nl0
    generalize sg t (val l) = z at *
    generalize sg t0 (val l0) = u0 at *
    generalize val m = d at *
    have R1 := dround_c ha p mode (by omega) v3 v4 (by omega) (by omega)
    have hu := rndU_nlen (rn (pz z d) (pd d)) (rd (pz z d) (pd d)) p mode (by omega)
    have hu2 := nlen_rnp z d
    generalize rndU (rn (pz z d) (pd d)) (rd (pz z d) (pd d)) p mode = u at *
    have iu : IsI (intN u) u := isI u (by omega)
    have RS : ∀ k : Int, 1 ≤ k → k ≤ 7 → AC 24 [decN u (p : Nat), i64 (p : Nat), i64 k] (.tup [decN u (p : Nat), i64 0]) := fun k h1 h2 => by
      have := rescale_up iu (by omega) p p k (Nat.le_refl _) (by omega) h1 h2
      rw [Nat.sub_self, Nat.pow_zero] at this
      simpa using this
    have SM : AC 11 [decN u (p : Nat), decN u (p : Nat)] (boo true) := same04_c _ _ _ (show nlen u.natAbs < _ by omega)
    by_cases hq : q0 < 0 ∨ 9 < q0
    · have V := dvalue_range t0 l0 q0 hq
      refine ACalls.of 19 (fn := Tryz.f7) Tryz.func7 rfl rfl rfl (by kernel_rfl) (by kernel_rfl) (Nat.le_of_ble_eq_true rfl) ?_
      simp -implicitDefEqProofs only [go_sem, awp_seq, Nat.reduceBNe, Nat.reduceBEq, Nat.reduceAdd, Nat.reduceSub, Nat.reduceMul, Nat.reduceLeDiff, Nat.reduceLT, Nat.reduceEqDiff, Nat.reduceBneDiff]
      refine callA_mk (valid_c p mode) ?_
      simp -implicitDefEqProofs only [hvt, go_sem, awp_seq, Nat.reduceBNe, Nat.reduceBEq, Nat.reduceAdd, Nat.reduceSub, Nat.reduceMul, Nat.reduceLeDiff, Nat.reduceLT, Nat.reduceEqDiff, Nat.reduceBneDiff]
      refine callA_mk V ?_
      simp -implicitDefEqProofs only [Int.reduceBEq, go_sem, awp_seq, Nat.reduceBNe, Nat.reduceBEq, Nat.reduceAdd, Nat.reduceSub, Nat.reduceMul, Nat.reduceLeDiff, Nat.reduceLT, Nat.reduceEqDiff, Nat.reduceBneDiff]
      refine callA_mk R1 ?_
      simp -implicitDefEqProofs only [bne_self_eq_false, go_sem, awp_seq, Nat.reduceBNe, Nat.reduceBEq, Nat.reduceAdd, Nat.reduceSub, Nat.reduceMul, Nat.reduceLeDiff, Nat.reduceLT, Nat.reduceEqDiff, Nat.reduceBneDiff]
      refine loop_mk (α := {k : Nat // 1 ≤ k ∧ k ≤ 8}) (fun k => [(2, some (.av (i64 (p : Nat)))), (8, some (.av (boo false))), (15, some (.ref 15 0)), (16, some (.av (i64 (k.1 : Nat))))]) (fun _ => [(15, [boo (decide (u < 0)), .nat (limbs u.natAbs), i64 (p : Nat)])]) (fun _ => []) (fun k => 8 - k.1) ⟨1, by omega, by omega⟩ ?_ ?_
      · simp -implicitDefEqProofs only [go_sem, awp_seq, Nat.reduceBNe, Nat.reduceBEq, Nat.reduceAdd, Nat.reduceSub, Nat.reduceMul, Nat.reduceLeDiff, Nat.reduceLT, Nat.reduceEqDiff, Nat.reduceBneDiff]
        simp
      · rintro ⟨k, hk1, hk2⟩
        by_cases hlt : k < 8
        · have e1 : decide ((k : Int) ≤ 7) = true := by simp; omega
          have w3 : IntKind.i64.wrap ((k : Int) + 1) = ((k + 1 : Nat) : Int) := by rw [IntWalk.i64_in _ (by omega)]; omega
          simp -implicitDefEqProofs only [e1, go_sem, awp_seq, Nat.reduceBNe, Nat.reduceBEq, Nat.reduceAdd, Nat.reduceSub, Nat.reduceMul, Nat.reduceLeDiff, Nat.reduceLT, Nat.reduceEqDiff, Nat.reduceBneDiff]
          refine callA_mk (RS k (by omega) (by omega)) ?_
          simp -implicitDefEqProofs only [bne_self_eq_false, go_sem, awp_seq, Nat.reduceBNe, Nat.reduceBEq, Nat.reduceAdd, Nat.reduceSub, Nat.reduceMul, Nat.reduceLeDiff, Nat.reduceLT, Nat.reduceEqDiff, Nat.reduceBneDiff]
          refine callA_mk SM ?_
          simp -implicitDefEqProofs only [w3, go_sem, awp_seq, Nat.reduceBNe, Nat.reduceBEq, Nat.reduceAdd, Nat.reduceSub, Nat.reduceMul, Nat.reduceLeDiff, Nat.reduceLT, Nat.reduceEqDiff, Nat.reduceBneDiff]
          refine roundK_mk ⟨k + 1, by omega, by omega⟩ ?_ (by show 8 - (k + 1) < 8 - k; omega)
          simp -implicitDefEqProofs only [go_sem, awp_seq, Nat.reduceBNe, Nat.reduceBEq, Nat.reduceAdd, Nat.reduceSub, Nat.reduceMul, Nat.reduceLeDiff, Nat.reduceLT, Nat.reduceEqDiff, Nat.reduceBneDiff]
        · have e1 : decide ((k : Int) ≤ 7) = false := by simp; omega
          simp -implicitDefEqProofs only [e1, go_sem, awp_seq, Nat.reduceBNe, Nat.reduceBEq, Nat.reduceAdd, Nat.reduceSub, Nat.reduceMul, Nat.reduceLeDiff, Nat.reduceLT, Nat.reduceEqDiff, Nat.reduceBneDiff]
          refine callA_mk awake_c ?_
          simp -implicitDefEqProofs only [go_sem, awp_seq, Nat.reduceBNe, Nat.reduceBEq, Nat.reduceAdd, Nat.reduceSub, Nat.reduceMul, Nat.reduceLeDiff, Nat.reduceLT, Nat.reduceEqDiff, Nat.reduceBneDiff]
    · obtain ⟨q, rfl⟩ : ∃ q : Nat, q0 = (q : Int) := ⟨q0.toNat, by omega⟩
      have V := dvalue_c hi q (by omega)
      by_cases hle : q ≤ p
      · have e0 : decide ((q : Int) ≤ (p : Int)) = true := by simp; omega
        have RU := rescale_up hi (by omega) q p mode hle (by omega) v3 v4
        have t1 : 0 < 10 ^ q := Nat.pos_of_ne_zero (by simp)
        have t2 : 0 < 10 ^ p := Nat.pos_of_ne_zero (by simp)
        have nb : nlen (u0 * ((10 ^ (p - q) : Nat) : Int)).natAbs ≤ nlen u0.natAbs + 1 := by
          rw [Int.natAbs_mul, Int.natAbs_natCast]
          have := nlen_mul u0.natAbs (10 ^ (p - q))
          have := nlen_pow10 (p := p - q) (by omega)
          omega
        have ee := eqv_up u0 hle
        generalize u0 * ((10 ^ (p - q) : Nat) : Int) = u1 at *
        have V1 := dvalue_c (isI u1 (by omega)) p (by omega)
        have n3 := nlen_pow10 (p := q) (by omega)
        have n4 := nlen_pow10 (p := p) (by omega)
        have q1 : IsQ (ratN (rn u0 (10 ^ q)) (rd u0 (10 ^ q))) u0 (10 ^ q) 1048600 := isQ (Eqv.norm u0 t1) (Nat.le_trans (nlen_rn _ _) (by omega)) (Nat.le_trans (nlen_rd _ _) (by omega)) (by omega)
        have q2 : IsQ (ratN (rn u1 (10 ^ p)) (rd u1 (10 ^ p))) u1 (10 ^ p) 1048600 := isQ (Eqv.norm u1 t2) (Nat.le_trans (nlen_rn _ _) (by omega)) (Nat.le_trans (nlen_rd _ _) (by omega)) (by omega)
        have CC := rcmp_q q1 q2 (by omega)
        have c0 := cmpZ_zero ee.e
        generalize cmpZ (u0 * ((10 ^ p : Nat) : Int)) (u1 * ((10 ^ q : Nat) : Int)) = cc at *
        refine ACalls.of 19 (fn := Tryz.f7) Tryz.func7 rfl rfl rfl (by kernel_rfl) (by kernel_rfl) (Nat.le_of_ble_eq_true rfl) ?_
        simp -implicitDefEqProofs only [go_sem, awp_seq, Nat.reduceBNe, Nat.reduceBEq, Nat.reduceAdd, Nat.reduceSub, Nat.reduceMul, Nat.reduceLeDiff, Nat.reduceLT, Nat.reduceEqDiff, Nat.reduceBneDiff]
        refine callA_mk (valid_c p mode) ?_
        simp -implicitDefEqProofs only [hvt, go_sem, awp_seq, Nat.reduceBNe, Nat.reduceBEq, Nat.reduceAdd, Nat.reduceSub, Nat.reduceMul, Nat.reduceLeDiff, Nat.reduceLT, Nat.reduceEqDiff, Nat.reduceBneDiff]
        refine callA_mk V ?_
        simp -implicitDefEqProofs only [e0, BEq.rfl, go_sem, awp_seq, Nat.reduceBNe, Nat.reduceBEq, Nat.reduceAdd, Nat.reduceSub, Nat.reduceMul, Nat.reduceLeDiff, Nat.reduceLT, Nat.reduceEqDiff, Nat.reduceBneDiff]
        refine callA_mk RU ?_
        simp -implicitDefEqProofs only [go_sem, awp_seq, Nat.reduceBNe, Nat.reduceBEq, Nat.reduceAdd, Nat.reduceSub, Nat.reduceMul, Nat.reduceLeDiff, Nat.reduceLT, Nat.reduceEqDiff, Nat.reduceBneDiff]
        refine callA_mk V1 ?_
        simp -implicitDefEqProofs only [bne_self_eq_false, go_sem, awp_seq, Nat.reduceBNe, Nat.reduceBEq, Nat.reduceAdd, Nat.reduceSub, Nat.reduceMul, Nat.reduceLeDiff, Nat.reduceLT, Nat.reduceEqDiff, Nat.reduceBneDiff]
        refine callA_mk CC ?_
        simp -implicitDefEqProofs only [c0, bne_self_eq_false, go_sem, awp_seq, Nat.reduceBNe, Nat.reduceBEq, Nat.reduceAdd, Nat.reduceSub, Nat.reduceMul, Nat.reduceLeDiff, Nat.reduceLT, Nat.reduceEqDiff, Nat.reduceBneDiff]
        refine callA_mk R1 ?_
        simp -implicitDefEqProofs only [bne_self_eq_false, go_sem, awp_seq, Nat.reduceBNe, Nat.reduceBEq, Nat.reduceAdd, Nat.reduceSub, Nat.reduceMul, Nat.reduceLeDiff, Nat.reduceLT, Nat.reduceEqDiff, Nat.reduceBneDiff]
        refine loop_mk (α := {k : Nat // 1 ≤ k ∧ k ≤ 8}) (fun k => [(2, some (.av (i64 (p : Nat)))), (8, some (.av (boo false))), (15, some (.ref 15 0)), (16, some (.av (i64 (k.1 : Nat))))]) (fun _ => [(15, [boo (decide (u < 0)), .nat (limbs u.natAbs), i64 (p : Nat)])]) (fun _ => []) (fun k => 8 - k.1) ⟨1, by omega, by omega⟩ ?_ ?_
        · simp -implicitDefEqProofs only [go_sem, awp_seq, Nat.reduceBNe, Nat.reduceBEq, Nat.reduceAdd, Nat.reduceSub, Nat.reduceMul, Nat.reduceLeDiff, Nat.reduceLT, Nat.reduceEqDiff, Nat.reduceBneDiff]
          simp
        · rintro ⟨k, hk1, hk2⟩
          by_cases hlt : k < 8
          · have e1 : decide ((k : Int) ≤ 7) = true := by simp; omega
            have w3 : IntKind.i64.wrap ((k : Int) + 1) = ((k + 1 : Nat) : Int) := by rw [IntWalk.i64_in _ (by omega)]; omega
            simp -implicitDefEqProofs only [e1, go_sem, awp_seq, Nat.reduceBNe, Nat.reduceBEq, Nat.reduceAdd, Nat.reduceSub, Nat.reduceMul, Nat.reduceLeDiff, Nat.reduceLT, Nat.reduceEqDiff, Nat.reduceBneDiff]
            refine callA_mk (RS k (by omega) (by omega)) ?_
            simp -implicitDefEqProofs only [bne_self_eq_false, go_sem, awp_seq, Nat.reduceBNe, Nat.reduceBEq, Nat.reduceAdd, Nat.reduceSub, Nat.reduceMul, Nat.reduceLeDiff, Nat.reduceLT, Nat.reduceEqDiff, Nat.reduceBneDiff]
            refine callA_mk SM ?_
            simp -implicitDefEqProofs only [w3, go_sem, awp_seq, Nat.reduceBNe, Nat.reduceBEq, Nat.reduceAdd, Nat.reduceSub, Nat.reduceMul, Nat.reduceLeDiff, Nat.reduceLT, Nat.reduceEqDiff, Nat.reduceBneDiff]
            refine roundK_mk ⟨k + 1, by omega, by omega⟩ ?_ (by show 8 - (k + 1) < 8 - k; omega)
            simp -implicitDefEqProofs only [go_sem, awp_seq, Nat.reduceBNe, Nat.reduceBEq, Nat.reduceAdd, Nat.reduceSub, Nat.reduceMul, Nat.reduceLeDiff, Nat.reduceLT, Nat.reduceEqDiff, Nat.reduceBneDiff]
          · have e1 : decide ((k : Int) ≤ 7) = false := by simp; omega
            simp -implicitDefEqProofs only [e1, go_sem, awp_seq, Nat.reduceBNe, Nat.reduceBEq, Nat.reduceAdd, Nat.reduceSub, Nat.reduceMul, Nat.reduceLeDiff, Nat.reduceLT, Nat.reduceEqDiff, Nat.reduceBneDiff]
            refine callA_mk awake_c ?_
            simp -implicitDefEqProofs only [go_sem, awp_seq, Nat.reduceBNe, Nat.reduceBEq, Nat.reduceAdd, Nat.reduceSub, Nat.reduceMul, Nat.reduceLeDiff, Nat.reduceLT, Nat.reduceEqDiff, Nat.reduceBneDiff]
      · have e0 : decide ((q : Int) ≤ (p : Int)) = false := by simp; omega
        refine ACalls.of 19 (fn := Tryz.f7) Tryz.func7 rfl rfl rfl (by kernel_rfl) (by kernel_rfl) (Nat.le_of_ble_eq_true rfl) ?_
        simp -implicitDefEqProofs only [go_sem, awp_seq, Nat.reduceBNe, Nat.reduceBEq, Nat.reduceAdd, Nat.reduceSub, Nat.reduceMul, Nat.reduceLeDiff, Nat.reduceLT, Nat.reduceEqDiff, Nat.reduceBneDiff]
        refine callA_mk (valid_c p mode) ?_
        simp -implicitDefEqProofs only [hvt, go_sem, awp_seq, Nat.reduceBNe, Nat.reduceBEq, Nat.reduceAdd, Nat.reduceSub, Nat.reduceMul, Nat.reduceLeDiff, Nat.reduceLT, Nat.reduceEqDiff, Nat.reduceBneDiff]
        refine callA_mk V ?_
        simp -implicitDefEqProofs only [e0, BEq.rfl, go_sem, awp_seq, Nat.reduceBNe, Nat.reduceBEq, Nat.reduceAdd, Nat.reduceSub, Nat.reduceMul, Nat.reduceLeDiff, Nat.reduceLT, Nat.reduceEqDiff, Nat.reduceBneDiff]
        refine callA_mk R1 ?_
        simp -implicitDefEqProofs only [bne_self_eq_false, go_sem, awp_seq, Nat.reduceBNe, Nat.reduceBEq, Nat.reduceAdd, Nat.reduceSub, Nat.reduceMul, Nat.reduceLeDiff, Nat.reduceLT, Nat.reduceEqDiff, Nat.reduceBneDiff]
        refine loop_mk (α := {k : Nat // 1 ≤ k ∧ k ≤ 8}) (fun k => [(2, some (.av (i64 (p : Nat)))), (8, some (.av (boo false))), (15, some (.ref 15 0)), (16, some (.av (i64 (k.1 : Nat))))]) (fun _ => [(15, [boo (decide (u < 0)), .nat (limbs u.natAbs), i64 (p : Nat)])]) (fun _ => []) (fun k => 8 - k.1) ⟨1, by omega, by omega⟩ ?_ ?_
        · simp -implicitDefEqProofs only [go_sem, awp_seq, Nat.reduceBNe, Nat.reduceBEq, Nat.reduceAdd, Nat.reduceSub, Nat.reduceMul, Nat.reduceLeDiff, Nat.reduceLT, Nat.reduceEqDiff, Nat.reduceBneDiff]
          simp
        · rintro ⟨k, hk1, hk2⟩
          by_cases hlt : k < 8
          · have e1 : decide ((k : Int) ≤ 7) = true := by simp; omega
            have w3 : IntKind.i64.wrap ((k : Int) + 1) = ((k + 1 : Nat) : Int) := by rw [IntWalk.i64_in _ (by omega)]; omega
            simp -implicitDefEqProofs only [e1, go_sem, awp_seq, Nat.reduceBNe, Nat.reduceBEq, Nat.reduceAdd, Nat.reduceSub, Nat.reduceMul, Nat.reduceLeDiff, Nat.reduceLT, Nat.reduceEqDiff, Nat.reduceBneDiff]
            refine callA_mk (RS k (by omega) (by omega)) ?_
            simp -implicitDefEqProofs only [bne_self_eq_false, go_sem, awp_seq, Nat.reduceBNe, Nat.reduceBEq, Nat.reduceAdd, Nat.reduceSub, Nat.reduceMul, Nat.reduceLeDiff, Nat.reduceLT, Nat.reduceEqDiff, Nat.reduceBneDiff]
            refine callA_mk SM ?_
            simp -implicitDefEqProofs only [w3, go_sem, awp_seq, Nat.reduceBNe, Nat.reduceBEq, Nat.reduceAdd, Nat.reduceSub, Nat.reduceMul, Nat.reduceLeDiff, Nat.reduceLT, Nat.reduceEqDiff, Nat.reduceBneDiff]
            refine roundK_mk ⟨k + 1, by omega, by omega⟩ ?_ (by show 8 - (k + 1) < 8 - k; omega)
            simp -implicitDefEqProofs only [go_sem, awp_seq, Nat.reduceBNe, Nat.reduceBEq, Nat.reduceAdd, Nat.reduceSub, Nat.reduceMul, Nat.reduceLeDiff, Nat.reduceLT, Nat.reduceEqDiff, Nat.reduceBneDiff]
          · have e1 : decide ((k : Int) ≤ 7) = false := by simp; omega
            simp -implicitDefEqProofs only [e1, go_sem, awp_seq, Nat.reduceBNe, Nat.reduceBEq, Nat.reduceAdd, Nat.reduceSub, Nat.reduceMul, Nat.reduceLeDiff, Nat.reduceLT, Nat.reduceEqDiff, Nat.reduceBneDiff]
            refine callA_mk awake_c ?_
            simp -implicitDefEqProofs only [go_sem, awp_seq, Nat.reduceBNe, Nat.reduceBEq, Nat.reduceAdd, Nat.reduceSub, Nat.reduceMul, Nat.reduceLeDiff, Nat.reduceLT, Nat.reduceEqDiff, Nat.reduceBneDiff]
end Go.Proofs.YtnifjdhjimjihaaGreatDoor
