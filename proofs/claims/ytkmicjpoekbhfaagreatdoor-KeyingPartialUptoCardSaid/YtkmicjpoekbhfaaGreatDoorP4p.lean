import Derived.Test.YtkmicjpoekbhfaaGreatDoorP3
/- Texts merged: WkR WkS WkT. -/
/- Chapter 40: the law KeyingPartial, plain. INTS -/
set_option linter.unusedSimpArgs false
set_option linter.unusedVariables false
namespace Go.Proofs.YtkmicjpoekbhfaaGreatDoor
open Go.RowKit Lim

theorem sortI_perm {l l' : List Int} (h : l.Perm l') : sortI l = sortI l' := by
  have tr : ∀ a b c : Int, decide (a ≤ b) = true → decide (b ≤ c) = true → decide (a ≤ c) = true := fun a b c h1 h2 => by simp at h1 h2 ⊢; omega
  have tot : ∀ a b : Int, (decide (a ≤ b) || decide (b ≤ a)) = true := fun a b => by simp; omega
  exact List.Perm.eq_of_pairwise (le := fun a b => decide (a ≤ b) = true) (fun a b _ _ h1 h2 => by simp only [decide_eq_true_eq] at h1 h2; omega) (List.pairwise_mergeSort tr tot l) (List.pairwise_mergeSort tr tot l') (((List.mergeSort_perm l _).trans h).trans (List.mergeSort_perm l' _).symm)
theorem rowN_none (key : List Int) (x : Int) : ∀ r : List Int, (∀ y ∈ r, ¬ Lib.idxOf key x < Lib.idxOf key y) → rowN key x r ≤ 0
  | [], _ => by simp [rowN]
  | y :: r, h => by
    have ih := rowN_none key x r fun z hz => h z (by simp [hz])
    have h1 : decide (Lib.idxOf key x < Lib.idxOf key y) = false := by simpa using h y (by simp)
    simp only [rowN, dO, h1, cond_false]
    omega
theorem ordN_none {key : List Int} : ∀ l : List Int, l.Pairwise (fun x y => Lib.idxOf key y < Lib.idxOf key x) → ordN key l ≤ 0
  | [], _ => by simp [ordN]
  | x :: r, h => by
    have h' := List.pairwise_cons.1 h
    have ih := ordN_none r h'.2
    have h1 := rowN_none key x r fun y hy => by have := h'.1 y hy; omega
    simp only [ordN]
    omega
/-- The reverse of the key of an order. -/
theorem back_score {it : ItV} (hi : itemE it = 0) (h3 : (it.kind == 3) = true) : scoreV it ⟨it.id, it.key.reverse, 0, [], false⟩ = (0, 0) := by
  have IO := item_ok hi
  have hk : it.kind = 3 := by simpa using h3
  have k3 := IO.key3 hk
  simp only [key3, Bool.and_eq_true, beq_iff_eq] at k3
  have pw := ris_pw k3.2
  have hin := ris_in k3.2
  have hperm : (sortI it.key).Perm it.key := List.mergeSort_perm _ _
  have hn : it.key.Nodup := (hperm.nodup_iff).1 (pw_nodup pw)
  have hlen : ((it.key.length : Nat) : Int) = (it.opts.length : Nat) := by have := k3.1.2; unfold lastI at this; omega
  have hs : sortI it.key.reverse = sortI it.key := sortI_perm (List.reverse_perm _)
  have hc : chE it.kind (it.opts.length : Nat) it.key.reverse = 0 := by
    have ha : it.key.reverse.all (inRB (it.opts.length : Nat)) = true := by
      rw [List.all_eq_true]
      intro x hx
      have := hin x (hperm.mem_iff.2 (List.mem_reverse.1 hx))
      unfold lastI at this
      simp [inRB]
      omega
    have hf : fitB it.kind (it.opts.length : Nat) it.key.reverse = true := by
      rw [hk]
      have : krisB (sortI it.key.reverse) = true := by rw [hs]; exact pw_kris pw
      simp [fitB, this]
      omega
    unfold chE
    rw [ha, hf]
    rfl
  have hv : validE it ⟨it.id, it.key.reverse, 0, [], false⟩ = 0 := by
    have hb : badB it ⟨it.id, it.key.reverse, 0, [], false⟩ = false := by
      have : hasChB it.kind = true := by rw [hk]; rfl
      simp [badB, this]
    unfold validE
    rw [hi, hb]
    rw [hk] at hc ⊢
    simp only [show ((0 : Int) != 0) = false from rfl, show (it.id != it.id) = false by simp, cond_false]
    exact hc
  have ho : orderV it it.key.reverse = 0 := by
    have hle : ordN it.key it.key.reverse ≤ 0 := ordN_none _ (List.pairwise_reverse.2 (key_pw hn))
    unfold orderV
    have : maxI (ordN it.key it.key.reverse) 0 = 0 := by unfold maxI; split <;> omega
    rw [this, Int.zero_mul, Int.zero_tdiv]
  unfold scoreV
  rw [hv, hk]
  show (orderV it it.key.reverse, (0 : Int)) = (0, 0)
  rw [ho]
/-! Choices by a predicate. -/
def chF (P : Nat → Bool) (k : Nat) : List Int := ((List.range k).filter P).map fun i => ((i : Nat) : Int)
theorem chF_zero (P : Nat → Bool) : chF P 0 = [] := rfl
theorem chF_succ (P : Nat → Bool) (k : Nat) : chF P (k + 1) = chF P k ++ (bif P k then [((k : Nat) : Int)] else []) := by
  unfold chF
  rw [List.range_succ, List.filter_append, List.map_append]
  cases h : P k <;> simp [h]
theorem chF_mem (P : Nat → Bool) (k : Nat) : ∀ x ∈ chF P k, 0 ≤ x ∧ x < (k : Int) := by
  intro x hx
  obtain ⟨i, hi, rfl⟩ := List.mem_map.1 hx
  have := List.mem_range.1 (List.mem_filter.1 hi).1
  omega
theorem chF_pw (P : Nat → Bool) : ∀ k, (chF P k).Pairwise (· < ·)
  | 0 => by simp [chF]
  | k + 1 => by
    rw [chF_succ]
    cases P k with
    | false => simpa using chF_pw P k
    | true =>
      rw [cond_true, List.pairwise_append]
      refine ⟨chF_pw P k, by simp, fun x hx y hy => ?_⟩
      have := chF_mem P k x hx
      simp at hy
      omega
theorem chF_len (P : Nat → Bool) : ∀ k, (chF P k).length ≤ k
  | 0 => by simp [chF]
  | k + 1 => by
    have := chF_len P k
    rw [chF_succ, List.length_append]
    cases P k <;> simp <;> omega
theorem netM_app (key : List Int) : ∀ a b : List Int, netM key (a ++ b) = netM key a + netM key b
  | [], b => by simp [netM]
  | x :: a, b => by
    have := netM_app key a b
    simp only [List.cons_append, netM, this]
    omega
/-- One choice more. -/
theorem netM_more (key : List Int) (P : Nat → Bool) (e : Nat) (he : P e = false) : ∀ k, netM key (chF (fun i => P i || i == e) k) = netM key (chF P k) + (if e < k then dM key (e : Int) else 0)
  | 0 => by simp [chF, netM]
  | k + 1 => by
    have ih := netM_more key P e he k
    rw [chF_succ, chF_succ, netM_app, netM_app, ih]
    by_cases hk : k = e
    · subst hk
      have h1 : (P k || k == k) = true := by simp
      rw [h1, he]
      simp [netM]
    · have h1 : (P k || k == e) = P k := by
        have : (k == e) = false := by simpa using hk
        rw [this, Bool.or_false]
      rw [h1]
      by_cases hlt : e < k
      · rw [if_pos hlt, if_pos (by omega)]; omega
      · rw [if_neg hlt, if_neg (by omega)]; omega
theorem multi_valid {it : ItV} (hi : itemE it = 0) (h2 : (it.kind == 2) = true) (P : Nat → Bool) : scoreV it ⟨it.id, chF P it.opts.length, 0, [], false⟩ = (multiV it (chF P it.opts.length), 0) := by
  have hk : it.kind = 2 := by simpa using h2
  have hc : chE it.kind (it.opts.length : Nat) (chF P it.opts.length) = 0 := by
    have ha : (chF P it.opts.length).all (inRB (it.opts.length : Nat)) = true := by
      rw [List.all_eq_true]
      intro x hx
      have := chF_mem P _ x hx
      simp [inRB]
      omega
    unfold chE fitB
    rw [ha, hk]
    have : krisB (chF P it.opts.length) = true := pw_kris (chF_pw P _)
    simp [this]
  have hv : validE it ⟨it.id, chF P it.opts.length, 0, [], false⟩ = 0 := by
    have hb : badB it ⟨it.id, chF P it.opts.length, 0, [], false⟩ = false := by
      have : hasChB it.kind = true := by rw [hk]; rfl
      simp [badB, this]
    unfold validE
    rw [hi, hb]
    rw [hk] at hc ⊢
    simp only [show ((0 : Int) != 0) = false from rfl, show (it.id != it.id) = false by simp, cond_false]
    exact hc
  unfold scoreV
  rw [hv, hk]
  rfl
theorem multi_mono {it : ItV} (hp : 0 ≤ it.pts) (hk : 0 < it.key.length) {a b : List Int} (h : netM it.key a ≤ netM it.key b) : multiV it a ≤ multiV it b := by
  have m : ∀ x, 0 ≤ maxI x 0 := fun x => by unfold maxI; split <;> omega
  have h1 : maxI (netM it.key a) 0 ≤ maxI (netM it.key b) 0 := by unfold maxI; split <;> split <;> omega
  unfold multiV
  rw [Int.tdiv_eq_ediv_of_nonneg (Int.mul_nonneg (m _) hp), Int.tdiv_eq_ediv_of_nonneg (Int.mul_nonneg (m _) hp)]
  exact Int.ediv_le_ediv (by omega) (Int.mul_le_mul_of_nonneg_right h1 hp)
end Go.Proofs.YtkmicjpoekbhfaaGreatDoor

/- Chapter 40: the law KeyingPartial, its walk. INTS -/
set_option linter.unusedSimpArgs false
set_option linter.unusedVariables false
namespace Go.Proofs.YtkmicjpoekbhfaaGreatDoor
open Go.RowKit Lim

def gT (s k : Nat) : TV := bif k == 0 then .av (.lit (.slice none 0 0)) else .osl s 1 0 k
def gQ (s k : Nat) (es : List AV) : LQ := bif k == 0 then [] else [(s, .row 3 1 es)]
def downI (n k : Nat) : Int := (n : Int) - 1 - k
abbrev intE (l : List Int) : List AV := l.map fun x => i64 x
theorem leM_gQ2 {n k : Nat} {es fs : List AV} : leM (ofL (gQ 95 n es ++ gQ 105 k fs)) (gQ 95 n es ++ gQ 105 k fs) := by
  unfold gQ
  cases n == 0 <;> cases k == 0
  · exact ⟨rfl, rfl, trivial⟩
  · exact ⟨rfl, trivial⟩
  · exact ⟨rfl, trivial⟩
  · trivial
theorem stale_gT {x s k : Nat} : staleK false x [] (gT s k) = some (gT s k) := by
  unfold gT; cases k == 0 <;> rfl
def andV (x : Int) : Int := IntKind.u16.wrap ((BitVec.ofInt IntKind.u16.bits x &&& BitVec.ofInt IntKind.u16.bits 1).toNat : Nat)
theorem binK_and {b : Bool} {k : IntKind} {x y : Int} {K : Value → Prop} : binK b .and (.int k x) (.int k y) K = K (.int k (k.wrap (BitVec.ofInt k.bits x &&& BitVec.ofInt k.bits y).toNat)) := by simp [binK, binR]
theorem binK_and16 {bo : Bool} {x : Int} {K : Value → Prop} : binK bo .and (.int .u16 x) (.int .u16 1) K = K (.int .u16 (andV x)) := binK_and
def bitV (b : Int) (k : Nat) : Int := andV (b.fdiv (2 ^ min k 16))
/-- The choices of the fewer, and of the more. -/
def inP (b : Int) (e i : Nat) : Bool := (bitV b i == 1) && !(i == e)
def inQ (b : Int) (e i : Nat) : Bool := inP b e i || i == e
theorem part_no (it : ItV) (h : IOK it) (x y : AV) (hb : (itemE it != 0) = true ∨ ((it.kind == 3) = false ∧ (it.kind == 2) = false)) : AC 7 [itA it, x, y] (boo true) := by
  have I := itemValid_c it h
  have AW := awake40_c
  have c00 : ((0 : Int) != 0) = false := rfl
  cases ci : itemE it != 0 with
  | true =>
    generalize itemE it = ie at *
    refine ACalls.of ⟨111, [], []⟩ (fn := Tryz.f7) Tryz.func7 rfl rfl rfl (by kernel_rfl) (by kernel_rfl) (Nat.le_of_ble_eq_true rfl) ?_
    simp (maxSteps := 1000000) -implicitDefEqProofs only [go_sem, awp_seq, Nat.reduceBNe, Nat.reduceBEq, Nat.reduceAdd, Nat.reduceSub, Nat.reduceMul, Nat.reduceLeDiff, Nat.reduceLT, Nat.reduceEqDiff, Nat.reduceBneDiff, Int.reduceLE, Int.reduceLT, Int.reduceToNat, Int.reduceBEq, Int.reduceBNe, Int.reduceAdd, Int.reduceSub, Int.cast_ofNat_Int]
    refine callA_mk I ?_
    simp (maxSteps := 1000000) -implicitDefEqProofs only [ci, go_sem, awp_seq, Nat.reduceBNe, Nat.reduceBEq, Nat.reduceAdd, Nat.reduceSub, Nat.reduceMul, Nat.reduceLeDiff, Nat.reduceLT, Nat.reduceEqDiff, Nat.reduceBneDiff, Int.reduceLE, Int.reduceLT, Int.reduceToNat, Int.reduceBEq, Int.reduceBNe, Int.reduceAdd, Int.reduceSub, Int.cast_ofNat_Int]
    refine callA_mk AW ?_
    simp (maxSteps := 1000000) -implicitDefEqProofs only [go_sem, awp_seq, Nat.reduceBNe, Nat.reduceBEq, Nat.reduceAdd, Nat.reduceSub, Nat.reduceMul, Nat.reduceLeDiff, Nat.reduceLT, Nat.reduceEqDiff, Nat.reduceBneDiff, Int.reduceLE, Int.reduceLT, Int.reduceToNat, Int.reduceBEq, Int.reduceBNe, Int.reduceAdd, Int.reduceSub, Int.cast_ofNat_Int]
  | false =>
    have hi : itemE it = 0 := by simpa using ci
    rcases hb with hb | ⟨h3, h2⟩
    · rw [ci] at hb; cases hb
    rw [hi] at I
    have n2 : (it.kind != 2) = true := by simp only [bne, h2, Bool.not_false]
    refine ACalls.of ⟨111, [], []⟩ (fn := Tryz.f7) Tryz.func7 rfl rfl rfl (by kernel_rfl) (by kernel_rfl) (Nat.le_of_ble_eq_true rfl) ?_
    simp (maxSteps := 1000000) -implicitDefEqProofs only [go_sem, awp_seq, Nat.reduceBNe, Nat.reduceBEq, Nat.reduceAdd, Nat.reduceSub, Nat.reduceMul, Nat.reduceLeDiff, Nat.reduceLT, Nat.reduceEqDiff, Nat.reduceBneDiff, Int.reduceLE, Int.reduceLT, Int.reduceToNat, Int.reduceBEq, Int.reduceBNe, Int.reduceAdd, Int.reduceSub, Int.cast_ofNat_Int]
    refine callA_mk I ?_
    simp (maxSteps := 1000000) -implicitDefEqProofs only [c00, h3, n2, go_sem, awp_seq, Nat.reduceBNe, Nat.reduceBEq, Nat.reduceAdd, Nat.reduceSub, Nat.reduceMul, Nat.reduceLeDiff, Nat.reduceLT, Nat.reduceEqDiff, Nat.reduceBneDiff, Int.reduceLE, Int.reduceLT, Int.reduceToNat, Int.reduceBEq, Int.reduceBNe, Int.reduceAdd, Int.reduceSub, Int.cast_ofNat_Int]
    refine callA_mk AW ?_
    simp (maxSteps := 1000000) -implicitDefEqProofs only [go_sem, awp_seq, Nat.reduceBNe, Nat.reduceBEq, Nat.reduceAdd, Nat.reduceSub, Nat.reduceMul, Nat.reduceLeDiff, Nat.reduceLT, Nat.reduceEqDiff, Nat.reduceBneDiff, Int.reduceLE, Int.reduceLT, Int.reduceToNat, Int.reduceBEq, Int.reduceBNe, Int.reduceAdd, Int.reduceSub, Int.cast_ofNat_Int]
set_option maxHeartbeats 4000000 in
theorem part_order (it : ItV) (h : IOK it) (x y : AV) (hi : itemE it = 0) (h3 : (it.kind == 3) = true) : AC 7 [itA it, x, y] (boo true) := by
  have I := itemValid_c it h
  have AW := awake40_c
  have c00 : ((0 : Int) != 0) = false := rfl
  have c01 : ((0 : Int) == 0) = true := rfl
  have kn := h.key
  have ki := h.keyi
  have SC := score_c it h ⟨it.id, it.key.reverse, 0, [], false⟩ ⟨by simpa using kn, by simpa using ki, by simp, by unfold inI; simp⟩
  rw [back_score hi h3] at SC
  rw [hi] at I
  have k2 : 2 ≤ it.key.length := by
    have k3 := (item_ok hi).key3 (by simpa using h3)
    simp only [key3, Bool.and_eq_true, beq_iff_eq] at k3
    have q := of_decide_eq_true k3.1.1
    have := k3.1.2
    omega
  have w0 : IntKind.i64.wrap (((it.key.length : Nat) : Int) - 1) = downI it.key.length 0 := by rw [IntWalk.i64_in _ (by omega)]; unfold downI; omega
  refine ACalls.of ⟨111, [], []⟩ (fn := Tryz.f7) Tryz.func7 rfl rfl rfl (by kernel_rfl) (by kernel_rfl) (Nat.le_of_ble_eq_true rfl) ?_
  simp (maxSteps := 1000000) -implicitDefEqProofs only [go_sem, awp_seq, Nat.reduceBNe, Nat.reduceBEq, Nat.reduceAdd, Nat.reduceSub, Nat.reduceMul, Nat.reduceLeDiff, Nat.reduceLT, Nat.reduceEqDiff, Nat.reduceBneDiff, Int.reduceLE, Int.reduceLT, Int.reduceToNat, Int.reduceBEq, Int.reduceBNe, Int.reduceAdd, Int.reduceSub, Int.cast_ofNat_Int]
  refine callA_mk I ?_
  simp (maxSteps := 1000000) -implicitDefEqProofs only [c00, h3, w0, List.length_map, go_sem, awp_seq, Nat.reduceBNe, Nat.reduceBEq, Nat.reduceAdd, Nat.reduceSub, Nat.reduceMul, Nat.reduceLeDiff, Nat.reduceLT, Nat.reduceEqDiff, Nat.reduceBneDiff, Int.reduceLE, Int.reduceLT, Int.reduceToNat, Int.reduceBEq, Int.reduceBNe, Int.reduceAdd, Int.reduceSub, Int.cast_ofNat_Int]
  refine loop_mk (α := {k : Nat // k ≤ it.key.length}) (fun k => [(0, some (.av (itA it))), (3, some (.ref 3 0)), (6, some (.av (boo false))), (7, some (gT 45 k.1)), (8, some (.av (i64 (downI it.key.length k.1))))]) (fun _ => [(3, itC it)]) (fun k => gQ 45 k.1 (intE (it.key.reverse.take k.1))) (fun k => it.key.length - k.1) ⟨0, Nat.zero_le _⟩ ?_ ?_
  · simp (maxSteps := 1000000) -implicitDefEqProofs only [gT, gQ, show ((0 : Nat) == 0) = true from rfl, cond_true, go_sem, awp_seq, Nat.reduceBNe, Nat.reduceBEq, Nat.reduceAdd, Nat.reduceSub, Nat.reduceMul, Nat.reduceLeDiff, Nat.reduceLT, Nat.reduceEqDiff, Nat.reduceBneDiff, Int.reduceLE, Int.reduceLT, Int.reduceToNat, Int.reduceBEq, Int.reduceBNe, Int.reduceAdd, Int.reduceSub, Int.cast_ofNat_Int]
  · rintro ⟨k, hk⟩
    by_cases hlt : k < it.key.length
    · obtain ⟨m, hm, hml⟩ : ∃ m : Nat, m < it.key.length ∧ it.key.length - 1 - k = m := ⟨_, by omega, rfl⟩
      have hI : downI it.key.length k = ((m : Nat) : Int) := by unfold downI; omega
      have g1 : decide ((0 : Int) ≤ ((m : Nat) : Int)) = true := by simp
      have e1 := ints_get it.key m
      rw [List.getElem?_eq_getElem hm] at e1
      simp only [Option.map_some] at e1
      have w1 : IntKind.i64.wrap (((m : Nat) : Int) - 1) = downI it.key.length (k + 1) := by rw [IntWalk.i64_in _ (by omega)]; unfold downI; omega
      have eE : intE (it.key.reverse.take (k + 1)) = intE (it.key.reverse.take k) ++ [i64 it.key[m]] := by
        unfold intE
        rw [List.take_succ_eq_append_getElem (by simpa using hlt), List.map_append, List.getElem_reverse]
        simp only [hml]
        rfl
      have hle : (intE (it.key.reverse.take k)).length = k := by simp; omega
      generalize it.key[m] = z at *
      cases k with
      | zero =>
        have eE1 : intE (it.key.reverse.take 1) = [i64 z] := eE
        simp (maxSteps := 1000000) -implicitDefEqProofs only [gT, gQ, show ((0 : Nat) == 0) = true from rfl, cond_true, hI, g1, e1, w1, Int.toNat_natCast, Int.natCast_nonneg, go_sem, awp_seq, Nat.reduceBNe, Nat.reduceBEq, Nat.reduceAdd, Nat.reduceSub, Nat.reduceMul, Nat.reduceLeDiff, Nat.reduceLT, Nat.reduceEqDiff, Nat.reduceBneDiff, Int.reduceLE, Int.reduceLT, Int.reduceToNat, Int.reduceBEq, Int.reduceBNe, Int.reduceAdd, Int.reduceSub, Int.cast_ofNat_Int]
        refine roundK_mk ⟨1, by omega⟩ ?_ (by show it.key.length - 1 < it.key.length - 0; omega)
        simp (maxSteps := 1000000) -implicitDefEqProofs only [gT, gQ, show ((1 : Nat) == 0) = false from rfl, eE1, cond_false, go_sem, awp_seq, Nat.reduceBNe, Nat.reduceBEq, Nat.reduceAdd, Nat.reduceSub, Nat.reduceMul, Nat.reduceLeDiff, Nat.reduceLT, Nat.reduceEqDiff, Nat.reduceBneDiff, Int.reduceLE, Int.reduceLT, Int.reduceToNat, Int.reduceBEq, Int.reduceBNe, Int.reduceAdd, Int.reduceSub, Int.cast_ofNat_Int]
      | succ k =>
        have hk0 : (k + 1 == 0) = false := rfl
        simp (maxSteps := 1000000) -implicitDefEqProofs only [gT, gQ, hk0, cond_false, hle, hI, g1, e1, w1, Int.toNat_natCast, Int.natCast_nonneg, go_sem, awp_seq, Nat.reduceBNe, Nat.reduceBEq, Nat.reduceAdd, Nat.reduceSub, Nat.reduceMul, Nat.reduceLeDiff, Nat.reduceLT, Nat.reduceEqDiff, Nat.reduceBneDiff, Int.reduceLE, Int.reduceLT, Int.reduceToNat, Int.reduceBEq, Int.reduceBNe, Int.reduceAdd, Int.reduceSub, Int.cast_ofNat_Int]
        refine ⟨by omega, by omega, ?_⟩
        refine roundK_mk ⟨k + 1 + 1, by omega⟩ ?_ (by show it.key.length - (k + 1 + 1) < it.key.length - (k + 1); omega)
        simp (maxSteps := 1000000) -implicitDefEqProofs only [gT, gQ, show (k + 1 + 1 == 0) = false from rfl, eE, cond_false, go_sem, awp_seq, Nat.reduceBNe, Nat.reduceBEq, Nat.reduceAdd, Nat.reduceSub, Nat.reduceMul, Nat.reduceLeDiff, Nat.reduceLT, Nat.reduceEqDiff, Nat.reduceBneDiff, Int.reduceLE, Int.reduceLT, Int.reduceToNat, Int.reduceBEq, Int.reduceBNe, Int.reduceAdd, Int.reduceSub, Int.cast_ofNat_Int]
    · have hk2 : k = it.key.length := by omega
      subst hk2
      have g1 : decide ((0 : Int) ≤ downI it.key.length it.key.length) = false := by unfold downI; simp; omega
      have hl0 : (it.key.length == 0) = false := by simp; intro e; rw [e] at k2; simp at k2
      have eT : it.key.reverse.take it.key.length = it.key.reverse := List.take_of_length_le (by simp)
      have eT2 : List.take it.key.length (intE it.key.reverse) = intE it.key.reverse := List.take_of_length_le (by simp)
      have hle2 : it.key.length ≤ (intE it.key.reverse).length := by simp
      simp (maxSteps := 1000000) -implicitDefEqProofs only [gT, gQ, hl0, cond_false, eT, eT2, hle2, if_true, true_and, g1, go_sem, awp_seq, Nat.reduceBNe, Nat.reduceBEq, Nat.reduceAdd, Nat.reduceSub, Nat.reduceMul, Nat.reduceLeDiff, Nat.reduceLT, Nat.reduceEqDiff, Nat.reduceBneDiff, Int.reduceLE, Int.reduceLT, Int.reduceToNat, Int.reduceBEq, Int.reduceBNe, Int.reduceAdd, Int.reduceSub, Int.cast_ofNat_Int]
      refine callA_mk SC ?_
      simp (maxSteps := 1000000) -implicitDefEqProofs only [c00, c01, go_sem, awp_seq, Nat.reduceBNe, Nat.reduceBEq, Nat.reduceAdd, Nat.reduceSub, Nat.reduceMul, Nat.reduceLeDiff, Nat.reduceLT, Nat.reduceEqDiff, Nat.reduceBneDiff, Int.reduceLE, Int.reduceLT, Int.reduceToNat, Int.reduceBEq, Int.reduceBNe, Int.reduceAdd, Int.reduceSub, Int.cast_ofNat_Int]
      refine callA_mk AW ?_
      simp (maxSteps := 1000000) -implicitDefEqProofs only [go_sem, awp_seq, Nat.reduceBNe, Nat.reduceBEq, Nat.reduceAdd, Nat.reduceSub, Nat.reduceMul, Nat.reduceLeDiff, Nat.reduceLT, Nat.reduceEqDiff, Nat.reduceBneDiff, Int.reduceLE, Int.reduceLT, Int.reduceToNat, Int.reduceBEq, Int.reduceBNe, Int.reduceAdd, Int.reduceSub, Int.cast_ofNat_Int]
set_option maxHeartbeats 4000000 in
theorem part_multi (it : ItV) (h : IOK it) (b m : Int) (hb : 0 ≤ b ∧ b ≤ 65535) (hm : 0 ≤ m ∧ m ≤ 255) (hi : itemE it = 0) (h2 : (it.kind == 2) = true) : AC 7 [itA it, .lit (.int .u16 b), .lit (.int .u8 m)] (boo true) := by
  have I := itemValid_c it h
  have AW := awake40_c
  have c00 : ((0 : Int) != 0) = false := rfl
  have c01 : ((0 : Int) == 0) = true := rfl
  have hk : it.kind = 2 := by simpa using h2
  have h3 : (it.kind == 3) = false := by rw [hk]; rfl
  have n2 : (it.kind != 2) = false := by rw [hk]; rfl
  have on := h.opts
  rw [hi] at I
  refine ACalls.of ⟨111, [], []⟩ (fn := Tryz.f7) Tryz.func7 rfl rfl rfl (by kernel_rfl) (by kernel_rfl) (Nat.le_of_ble_eq_true rfl) ?_
  simp (maxSteps := 1000000) -implicitDefEqProofs only [go_sem, awp_seq, Nat.reduceBNe, Nat.reduceBEq, Nat.reduceAdd, Nat.reduceSub, Nat.reduceMul, Nat.reduceLeDiff, Nat.reduceLT, Nat.reduceEqDiff, Nat.reduceBneDiff, Int.reduceLE, Int.reduceLT, Int.reduceToNat, Int.reduceBEq, Int.reduceBNe, Int.reduceAdd, Int.reduceSub, Int.cast_ofNat_Int]
  refine callA_mk I ?_
  have k2 := (item_ok hi).key2 hk
  simp only [key2, Bool.and_eq_true] at k2
  have q1 := of_decide_eq_true k2.1.1
  have q2 := of_decide_eq_true k2.1.2
  unfold lastI at q1
  have wm : IntKind.i64.wrap m = m := by rw [IntWalk.i64_in _ (by omega)]
  obtain ⟨e, he, hem⟩ : ∃ e : Nat, e < it.opts.length ∧ m.tmod ((it.opts.length : Nat) : Int) = (e : Int) := by
    refine ⟨(m.tmod ((it.opts.length : Nat) : Int)).toNat, ?_, ?_⟩
    · have h1 := Int.tmod_lt_of_pos m (show (0 : Int) < (it.opts.length : Nat) by omega)
      omega
    · have h1 := Int.tmod_nonneg ((it.opts.length : Nat) : Int) hm.1
      omega
  simp (maxSteps := 1000000) -implicitDefEqProofs only [c00, h3, n2, wm, hem, List.length_map, go_sem, awp_seq, Nat.reduceBNe, Nat.reduceBEq, Nat.reduceAdd, Nat.reduceSub, Nat.reduceMul, Nat.reduceLeDiff, Nat.reduceLT, Nat.reduceEqDiff, Nat.reduceBneDiff, Int.reduceLE, Int.reduceLT, Int.reduceToNat, Int.reduceBEq, Int.reduceBNe, Int.reduceAdd, Int.reduceSub, Int.cast_ofNat_Int]
  refine ⟨by omega, ?_⟩
  refine loop_mk (α := {k : Nat // k ≤ it.opts.length}) (fun k => [(0, some (.av (itA it))), (1, some (.av (.lit (.int .u16 b)))), (3, some (.ref 3 0)), (6, some (.av (boo false))), (11, some (.av (i64 (e : Nat)))), (12, some (gT 95 (chF (inP b e) k.1).length)), (13, some (gT 105 (chF (inQ b e) k.1).length)), (14, some (.av (boo false))), (76, some (.av (i64 (it.opts.length : Nat)))), (77, some (.av (i64 (k.1 : Nat))))]) (fun _ => [(3, itC it)]) (fun k => gQ 95 (chF (inP b e) k.1).length (intE (chF (inP b e) k.1)) ++ gQ 105 (chF (inQ b e) k.1).length (intE (chF (inQ b e) k.1))) (fun k => it.opts.length - k.1) ⟨0, Nat.zero_le _⟩ ?_ ?_
  · simp (maxSteps := 1000000) -implicitDefEqProofs only [gT, gQ, chF_zero, List.length_nil, List.nil_append, show ((0 : Nat) == 0) = true from rfl, cond_true, Int.cast_ofNat_Int, go_sem, awp_seq, Nat.reduceBNe, Nat.reduceBEq, Nat.reduceAdd, Nat.reduceSub, Nat.reduceMul, Nat.reduceLeDiff, Nat.reduceLT, Nat.reduceEqDiff, Nat.reduceBneDiff, Int.reduceLE, Int.reduceLT, Int.reduceToNat, Int.reduceBEq, Int.reduceBNe, Int.reduceAdd, Int.reduceSub, Int.cast_ofNat_Int]
  · rintro ⟨k, hk⟩
    by_cases hlt : k < it.opts.length
    · have g1 : decide (((k : Nat) : Int) < (it.opts.length : Nat)) = true := by simp; omega
      have w1 : IntKind.i64.wrap ((k : Int) + 1) = ((k + 1 : Nat) : Int) := by rw [IntWalk.i64_in _ (by omega)]; omega
      have w2 : IntKind.u64.wrap ((k : Nat) : Int) = ((k : Nat) : Int) := by rw [IntWalk.u64_in _ (by omega)]
      have hB : andV (b.fdiv (2 ^ min k 16)) = bitV b k := rfl
      have eF := chF_succ (inP b e) k
      have eL := chF_succ (inQ b e) k
      have lF := chF_len (inP b e) k
      have lL := chF_len (inQ b e) k
      have dP : inP b e k = ((bitV b k == 1) && !(k == e)) := rfl
      have dQ : inQ b e k = (((bitV b k == 1) && !(k == e)) || k == e) := rfl
      rw [dP] at eF
      rw [dQ] at eL
      generalize chF (inP b e) k = F at *
      generalize chF (inQ b e) k = L at *
      generalize bitV b k = V at *
      have hle : (intE F).length = F.length := by simp
      have hle2 : (intE L).length = L.length := by simp
      have zz : ((0 : Nat) == 0) = true := rfl
      have z1 : ∀ n : Nat, (n + 1 == 0) = false := fun n => rfl
      by_cases hke : k = e
      · have nk : (((k : Nat) : Int) != ((e : Nat) : Int)) = false := by simp [hke]
        have ek : (((k : Nat) : Int) == ((e : Nat) : Int)) = true := by simp [hke]
        have be : (k == e) = true := by simp [hke]
        simp only [be, Bool.not_true, Bool.and_false, Bool.false_or, cond_true, cond_false, List.append_nil] at eF eL
        cases c1 : V == 1 with
        | true =>
          cases hF : F.length == 0 with
          | true =>
            have hF2 : F = [] := by simpa using hF
            subst hF2
            cases hL : L.length == 0 with
            | true =>
              have hL2 : L = [] := by simpa using hL
              subst hL2
              simp (maxSteps := 1000000) -implicitDefEqProofs only [gT, gQ, stale_gT, Option.bind_some, g1, w1, w2, hB, binK_and16, c1, nk, ek, List.nil_append, List.cons_append, List.append_nil, cond_true, cond_false, Int.toNat_natCast, Int.natCast_nonneg, zz, zz, List.length_nil, List.map_nil, List.length_nil, List.map_nil, go_sem, awp_seq, Nat.reduceBNe, Nat.reduceBEq, Nat.reduceAdd, Nat.reduceSub, Nat.reduceMul, Nat.reduceLeDiff, Nat.reduceLT, Nat.reduceEqDiff, Nat.reduceBneDiff, Int.reduceLE, Int.reduceLT, Int.reduceToNat, Int.reduceBEq, Int.reduceBNe, Int.reduceAdd, Int.reduceSub, Int.cast_ofNat_Int]
              refine roundK_mk ⟨k + 1, by omega⟩ ?_ (by show it.opts.length - (k + 1) < it.opts.length - k; omega)
              simp (maxSteps := 1000000) -implicitDefEqProofs only [gT, gQ, eF, eL, z1, List.length_append, List.length_cons, List.length_nil, Nat.zero_add, List.map_append, List.map_cons, List.map_nil, List.nil_append, List.cons_append, List.append_nil, cond_true, cond_false, show ((1 : Nat) == 0) = false from rfl, zz, zz, go_sem, awp_seq, Nat.reduceBNe, Nat.reduceBEq, Nat.reduceAdd, Nat.reduceSub, Nat.reduceMul, Nat.reduceLeDiff, Nat.reduceLT, Nat.reduceEqDiff, Nat.reduceBneDiff, Int.reduceLE, Int.reduceLT, Int.reduceToNat, Int.reduceBEq, Int.reduceBNe, Int.reduceAdd, Int.reduceSub, Int.cast_ofNat_Int]
            | false =>
              have L0 : (L.length == 0) = false := hL
              simp (maxSteps := 1000000) -implicitDefEqProofs only [gT, gQ, stale_gT, Option.bind_some, g1, w1, w2, hB, binK_and16, c1, nk, ek, List.nil_append, List.cons_append, List.append_nil, cond_true, cond_false, Int.toNat_natCast, Int.natCast_nonneg, zz, L0, hle2, List.length_nil, List.map_nil, go_sem, awp_seq, Nat.reduceBNe, Nat.reduceBEq, Nat.reduceAdd, Nat.reduceSub, Nat.reduceMul, Nat.reduceLeDiff, Nat.reduceLT, Nat.reduceEqDiff, Nat.reduceBneDiff, Int.reduceLE, Int.reduceLT, Int.reduceToNat, Int.reduceBEq, Int.reduceBNe, Int.reduceAdd, Int.reduceSub, Int.cast_ofNat_Int]
              refine ⟨by omega, by omega, ?_⟩
              refine roundK_mk ⟨k + 1, by omega⟩ ?_ (by show it.opts.length - (k + 1) < it.opts.length - k; omega)
              simp (maxSteps := 1000000) -implicitDefEqProofs only [gT, gQ, eF, eL, z1, List.length_append, List.length_cons, List.length_nil, Nat.zero_add, List.map_append, List.map_cons, List.map_nil, List.nil_append, List.cons_append, List.append_nil, cond_true, cond_false, show ((1 : Nat) == 0) = false from rfl, zz, L0, hle2, go_sem, awp_seq, Nat.reduceBNe, Nat.reduceBEq, Nat.reduceAdd, Nat.reduceSub, Nat.reduceMul, Nat.reduceLeDiff, Nat.reduceLT, Nat.reduceEqDiff, Nat.reduceBneDiff, Int.reduceLE, Int.reduceLT, Int.reduceToNat, Int.reduceBEq, Int.reduceBNe, Int.reduceAdd, Int.reduceSub, Int.cast_ofNat_Int]
          | false =>
            have F0 : (F.length == 0) = false := hF
            cases hL : L.length == 0 with
            | true =>
              have hL2 : L = [] := by simpa using hL
              subst hL2
              simp (maxSteps := 1000000) -implicitDefEqProofs only [gT, gQ, stale_gT, Option.bind_some, g1, w1, w2, hB, binK_and16, c1, nk, ek, List.nil_append, List.cons_append, List.append_nil, cond_true, cond_false, Int.toNat_natCast, Int.natCast_nonneg, F0, hle, zz, List.length_nil, List.map_nil, go_sem, awp_seq, Nat.reduceBNe, Nat.reduceBEq, Nat.reduceAdd, Nat.reduceSub, Nat.reduceMul, Nat.reduceLeDiff, Nat.reduceLT, Nat.reduceEqDiff, Nat.reduceBneDiff, Int.reduceLE, Int.reduceLT, Int.reduceToNat, Int.reduceBEq, Int.reduceBNe, Int.reduceAdd, Int.reduceSub, Int.cast_ofNat_Int]
              refine roundK_mk ⟨k + 1, by omega⟩ ?_ (by show it.opts.length - (k + 1) < it.opts.length - k; omega)
              simp (maxSteps := 1000000) -implicitDefEqProofs only [gT, gQ, eF, eL, z1, List.length_append, List.length_cons, List.length_nil, Nat.zero_add, List.map_append, List.map_cons, List.map_nil, List.nil_append, List.cons_append, List.append_nil, cond_true, cond_false, show ((1 : Nat) == 0) = false from rfl, F0, hle, zz, go_sem, awp_seq, Nat.reduceBNe, Nat.reduceBEq, Nat.reduceAdd, Nat.reduceSub, Nat.reduceMul, Nat.reduceLeDiff, Nat.reduceLT, Nat.reduceEqDiff, Nat.reduceBneDiff, Int.reduceLE, Int.reduceLT, Int.reduceToNat, Int.reduceBEq, Int.reduceBNe, Int.reduceAdd, Int.reduceSub, Int.cast_ofNat_Int]
            | false =>
              have L0 : (L.length == 0) = false := hL
              simp (maxSteps := 1000000) -implicitDefEqProofs only [gT, gQ, stale_gT, Option.bind_some, g1, w1, w2, hB, binK_and16, c1, nk, ek, List.nil_append, List.cons_append, List.append_nil, cond_true, cond_false, Int.toNat_natCast, Int.natCast_nonneg, F0, hle, L0, hle2, go_sem, awp_seq, Nat.reduceBNe, Nat.reduceBEq, Nat.reduceAdd, Nat.reduceSub, Nat.reduceMul, Nat.reduceLeDiff, Nat.reduceLT, Nat.reduceEqDiff, Nat.reduceBneDiff, Int.reduceLE, Int.reduceLT, Int.reduceToNat, Int.reduceBEq, Int.reduceBNe, Int.reduceAdd, Int.reduceSub, Int.cast_ofNat_Int]
              refine ⟨by omega, by omega, ?_⟩
              refine roundK_mk ⟨k + 1, by omega⟩ ?_ (by show it.opts.length - (k + 1) < it.opts.length - k; omega)
              simp (maxSteps := 1000000) -implicitDefEqProofs only [gT, gQ, eF, eL, z1, List.length_append, List.length_cons, List.length_nil, Nat.zero_add, List.map_append, List.map_cons, List.map_nil, List.nil_append, List.cons_append, List.append_nil, cond_true, cond_false, show ((1 : Nat) == 0) = false from rfl, F0, hle, L0, hle2, go_sem, awp_seq, Nat.reduceBNe, Nat.reduceBEq, Nat.reduceAdd, Nat.reduceSub, Nat.reduceMul, Nat.reduceLeDiff, Nat.reduceLT, Nat.reduceEqDiff, Nat.reduceBneDiff, Int.reduceLE, Int.reduceLT, Int.reduceToNat, Int.reduceBEq, Int.reduceBNe, Int.reduceAdd, Int.reduceSub, Int.cast_ofNat_Int]
        | false =>
          cases hF : F.length == 0 with
          | true =>
            have hF2 : F = [] := by simpa using hF
            subst hF2
            cases hL : L.length == 0 with
            | true =>
              have hL2 : L = [] := by simpa using hL
              subst hL2
              simp (maxSteps := 1000000) -implicitDefEqProofs only [gT, gQ, stale_gT, Option.bind_some, g1, w1, w2, hB, binK_and16, c1, nk, ek, List.nil_append, List.cons_append, List.append_nil, cond_true, cond_false, Int.toNat_natCast, Int.natCast_nonneg, zz, zz, List.length_nil, List.map_nil, List.length_nil, List.map_nil, go_sem, awp_seq, Nat.reduceBNe, Nat.reduceBEq, Nat.reduceAdd, Nat.reduceSub, Nat.reduceMul, Nat.reduceLeDiff, Nat.reduceLT, Nat.reduceEqDiff, Nat.reduceBneDiff, Int.reduceLE, Int.reduceLT, Int.reduceToNat, Int.reduceBEq, Int.reduceBNe, Int.reduceAdd, Int.reduceSub, Int.cast_ofNat_Int]
              refine roundK_mk ⟨k + 1, by omega⟩ ?_ (by show it.opts.length - (k + 1) < it.opts.length - k; omega)
              simp (maxSteps := 1000000) -implicitDefEqProofs only [gT, gQ, eF, eL, z1, List.length_append, List.length_cons, List.length_nil, Nat.zero_add, List.map_append, List.map_cons, List.map_nil, List.nil_append, List.cons_append, List.append_nil, cond_true, cond_false, show ((1 : Nat) == 0) = false from rfl, zz, zz, go_sem, awp_seq, Nat.reduceBNe, Nat.reduceBEq, Nat.reduceAdd, Nat.reduceSub, Nat.reduceMul, Nat.reduceLeDiff, Nat.reduceLT, Nat.reduceEqDiff, Nat.reduceBneDiff, Int.reduceLE, Int.reduceLT, Int.reduceToNat, Int.reduceBEq, Int.reduceBNe, Int.reduceAdd, Int.reduceSub, Int.cast_ofNat_Int]
            | false =>
              have L0 : (L.length == 0) = false := hL
              simp (maxSteps := 1000000) -implicitDefEqProofs only [gT, gQ, stale_gT, Option.bind_some, g1, w1, w2, hB, binK_and16, c1, nk, ek, List.nil_append, List.cons_append, List.append_nil, cond_true, cond_false, Int.toNat_natCast, Int.natCast_nonneg, zz, L0, hle2, List.length_nil, List.map_nil, go_sem, awp_seq, Nat.reduceBNe, Nat.reduceBEq, Nat.reduceAdd, Nat.reduceSub, Nat.reduceMul, Nat.reduceLeDiff, Nat.reduceLT, Nat.reduceEqDiff, Nat.reduceBneDiff, Int.reduceLE, Int.reduceLT, Int.reduceToNat, Int.reduceBEq, Int.reduceBNe, Int.reduceAdd, Int.reduceSub, Int.cast_ofNat_Int]
              refine ⟨by omega, by omega, ?_⟩
              refine roundK_mk ⟨k + 1, by omega⟩ ?_ (by show it.opts.length - (k + 1) < it.opts.length - k; omega)
              simp (maxSteps := 1000000) -implicitDefEqProofs only [gT, gQ, eF, eL, z1, List.length_append, List.length_cons, List.length_nil, Nat.zero_add, List.map_append, List.map_cons, List.map_nil, List.nil_append, List.cons_append, List.append_nil, cond_true, cond_false, show ((1 : Nat) == 0) = false from rfl, zz, L0, hle2, go_sem, awp_seq, Nat.reduceBNe, Nat.reduceBEq, Nat.reduceAdd, Nat.reduceSub, Nat.reduceMul, Nat.reduceLeDiff, Nat.reduceLT, Nat.reduceEqDiff, Nat.reduceBneDiff, Int.reduceLE, Int.reduceLT, Int.reduceToNat, Int.reduceBEq, Int.reduceBNe, Int.reduceAdd, Int.reduceSub, Int.cast_ofNat_Int]
          | false =>
            have F0 : (F.length == 0) = false := hF
            cases hL : L.length == 0 with
            | true =>
              have hL2 : L = [] := by simpa using hL
              subst hL2
              simp (maxSteps := 1000000) -implicitDefEqProofs only [gT, gQ, stale_gT, Option.bind_some, g1, w1, w2, hB, binK_and16, c1, nk, ek, List.nil_append, List.cons_append, List.append_nil, cond_true, cond_false, Int.toNat_natCast, Int.natCast_nonneg, F0, hle, zz, List.length_nil, List.map_nil, go_sem, awp_seq, Nat.reduceBNe, Nat.reduceBEq, Nat.reduceAdd, Nat.reduceSub, Nat.reduceMul, Nat.reduceLeDiff, Nat.reduceLT, Nat.reduceEqDiff, Nat.reduceBneDiff, Int.reduceLE, Int.reduceLT, Int.reduceToNat, Int.reduceBEq, Int.reduceBNe, Int.reduceAdd, Int.reduceSub, Int.cast_ofNat_Int]
              refine roundK_mk ⟨k + 1, by omega⟩ ?_ (by show it.opts.length - (k + 1) < it.opts.length - k; omega)
              simp (maxSteps := 1000000) -implicitDefEqProofs only [gT, gQ, eF, eL, z1, List.length_append, List.length_cons, List.length_nil, Nat.zero_add, List.map_append, List.map_cons, List.map_nil, List.nil_append, List.cons_append, List.append_nil, cond_true, cond_false, show ((1 : Nat) == 0) = false from rfl, F0, hle, zz, go_sem, awp_seq, Nat.reduceBNe, Nat.reduceBEq, Nat.reduceAdd, Nat.reduceSub, Nat.reduceMul, Nat.reduceLeDiff, Nat.reduceLT, Nat.reduceEqDiff, Nat.reduceBneDiff, Int.reduceLE, Int.reduceLT, Int.reduceToNat, Int.reduceBEq, Int.reduceBNe, Int.reduceAdd, Int.reduceSub, Int.cast_ofNat_Int]
            | false =>
              have L0 : (L.length == 0) = false := hL
              simp (maxSteps := 1000000) -implicitDefEqProofs only [gT, gQ, stale_gT, Option.bind_some, g1, w1, w2, hB, binK_and16, c1, nk, ek, List.nil_append, List.cons_append, List.append_nil, cond_true, cond_false, Int.toNat_natCast, Int.natCast_nonneg, F0, hle, L0, hle2, go_sem, awp_seq, Nat.reduceBNe, Nat.reduceBEq, Nat.reduceAdd, Nat.reduceSub, Nat.reduceMul, Nat.reduceLeDiff, Nat.reduceLT, Nat.reduceEqDiff, Nat.reduceBneDiff, Int.reduceLE, Int.reduceLT, Int.reduceToNat, Int.reduceBEq, Int.reduceBNe, Int.reduceAdd, Int.reduceSub, Int.cast_ofNat_Int]
              refine ⟨by omega, by omega, ?_⟩
              refine roundK_mk ⟨k + 1, by omega⟩ ?_ (by show it.opts.length - (k + 1) < it.opts.length - k; omega)
              simp (maxSteps := 1000000) -implicitDefEqProofs only [gT, gQ, eF, eL, z1, List.length_append, List.length_cons, List.length_nil, Nat.zero_add, List.map_append, List.map_cons, List.map_nil, List.nil_append, List.cons_append, List.append_nil, cond_true, cond_false, show ((1 : Nat) == 0) = false from rfl, F0, hle, L0, hle2, go_sem, awp_seq, Nat.reduceBNe, Nat.reduceBEq, Nat.reduceAdd, Nat.reduceSub, Nat.reduceMul, Nat.reduceLeDiff, Nat.reduceLT, Nat.reduceEqDiff, Nat.reduceBneDiff, Int.reduceLE, Int.reduceLT, Int.reduceToNat, Int.reduceBEq, Int.reduceBNe, Int.reduceAdd, Int.reduceSub, Int.cast_ofNat_Int]
      · have nk : (((k : Nat) : Int) != ((e : Nat) : Int)) = true := by simp; omega
        have ek : (((k : Nat) : Int) == ((e : Nat) : Int)) = false := by simp; omega
        have be : (k == e) = false := by simpa using hke
        simp only [be, Bool.not_false, Bool.and_true, Bool.or_false] at eF eL
        cases c1 : V == 1 with
        | true =>
          simp only [c1, cond_true] at eF eL
          cases hF : F.length == 0 with
          | true =>
            have hF2 : F = [] := by simpa using hF
            subst hF2
            cases hL : L.length == 0 with
            | true =>
              have hL2 : L = [] := by simpa using hL
              subst hL2
              simp (maxSteps := 1000000) -implicitDefEqProofs only [gT, gQ, stale_gT, Option.bind_some, g1, w1, w2, hB, binK_and16, c1, nk, ek, List.nil_append, List.cons_append, List.append_nil, cond_true, cond_false, Int.toNat_natCast, Int.natCast_nonneg, zz, zz, List.length_nil, List.map_nil, List.length_nil, List.map_nil, go_sem, awp_seq, Nat.reduceBNe, Nat.reduceBEq, Nat.reduceAdd, Nat.reduceSub, Nat.reduceMul, Nat.reduceLeDiff, Nat.reduceLT, Nat.reduceEqDiff, Nat.reduceBneDiff, Int.reduceLE, Int.reduceLT, Int.reduceToNat, Int.reduceBEq, Int.reduceBNe, Int.reduceAdd, Int.reduceSub, Int.cast_ofNat_Int]
              refine roundK_mk ⟨k + 1, by omega⟩ ?_ (by show it.opts.length - (k + 1) < it.opts.length - k; omega)
              simp (maxSteps := 1000000) -implicitDefEqProofs only [gT, gQ, eF, eL, z1, List.length_append, List.length_cons, List.length_nil, Nat.zero_add, List.map_append, List.map_cons, List.map_nil, List.nil_append, List.cons_append, List.append_nil, cond_true, cond_false, show ((1 : Nat) == 0) = false from rfl, zz, zz, go_sem, awp_seq, Nat.reduceBNe, Nat.reduceBEq, Nat.reduceAdd, Nat.reduceSub, Nat.reduceMul, Nat.reduceLeDiff, Nat.reduceLT, Nat.reduceEqDiff, Nat.reduceBneDiff, Int.reduceLE, Int.reduceLT, Int.reduceToNat, Int.reduceBEq, Int.reduceBNe, Int.reduceAdd, Int.reduceSub, Int.cast_ofNat_Int]
            | false =>
              have L0 : (L.length == 0) = false := hL
              simp (maxSteps := 1000000) -implicitDefEqProofs only [gT, gQ, stale_gT, Option.bind_some, g1, w1, w2, hB, binK_and16, c1, nk, ek, List.nil_append, List.cons_append, List.append_nil, cond_true, cond_false, Int.toNat_natCast, Int.natCast_nonneg, zz, L0, hle2, List.length_nil, List.map_nil, go_sem, awp_seq, Nat.reduceBNe, Nat.reduceBEq, Nat.reduceAdd, Nat.reduceSub, Nat.reduceMul, Nat.reduceLeDiff, Nat.reduceLT, Nat.reduceEqDiff, Nat.reduceBneDiff, Int.reduceLE, Int.reduceLT, Int.reduceToNat, Int.reduceBEq, Int.reduceBNe, Int.reduceAdd, Int.reduceSub, Int.cast_ofNat_Int]
              refine ⟨by omega, by omega, ?_⟩
              refine roundK_mk ⟨k + 1, by omega⟩ ?_ (by show it.opts.length - (k + 1) < it.opts.length - k; omega)
              simp (maxSteps := 1000000) -implicitDefEqProofs only [gT, gQ, eF, eL, z1, List.length_append, List.length_cons, List.length_nil, Nat.zero_add, List.map_append, List.map_cons, List.map_nil, List.nil_append, List.cons_append, List.append_nil, cond_true, cond_false, show ((1 : Nat) == 0) = false from rfl, zz, L0, hle2, go_sem, awp_seq, Nat.reduceBNe, Nat.reduceBEq, Nat.reduceAdd, Nat.reduceSub, Nat.reduceMul, Nat.reduceLeDiff, Nat.reduceLT, Nat.reduceEqDiff, Nat.reduceBneDiff, Int.reduceLE, Int.reduceLT, Int.reduceToNat, Int.reduceBEq, Int.reduceBNe, Int.reduceAdd, Int.reduceSub, Int.cast_ofNat_Int]
          | false =>
            have F0 : (F.length == 0) = false := hF
            cases hL : L.length == 0 with
            | true =>
              have hL2 : L = [] := by simpa using hL
              subst hL2
              simp (maxSteps := 1000000) -implicitDefEqProofs only [gT, gQ, stale_gT, Option.bind_some, g1, w1, w2, hB, binK_and16, c1, nk, ek, List.nil_append, List.cons_append, List.append_nil, cond_true, cond_false, Int.toNat_natCast, Int.natCast_nonneg, F0, hle, zz, List.length_nil, List.map_nil, go_sem, awp_seq, Nat.reduceBNe, Nat.reduceBEq, Nat.reduceAdd, Nat.reduceSub, Nat.reduceMul, Nat.reduceLeDiff, Nat.reduceLT, Nat.reduceEqDiff, Nat.reduceBneDiff, Int.reduceLE, Int.reduceLT, Int.reduceToNat, Int.reduceBEq, Int.reduceBNe, Int.reduceAdd, Int.reduceSub, Int.cast_ofNat_Int]
              refine ⟨by omega, by omega, ?_⟩
              refine roundK_mk ⟨k + 1, by omega⟩ ?_ (by show it.opts.length - (k + 1) < it.opts.length - k; omega)
              simp (maxSteps := 1000000) -implicitDefEqProofs only [gT, gQ, eF, eL, z1, List.length_append, List.length_cons, List.length_nil, Nat.zero_add, List.map_append, List.map_cons, List.map_nil, List.nil_append, List.cons_append, List.append_nil, cond_true, cond_false, show ((1 : Nat) == 0) = false from rfl, F0, hle, zz, go_sem, awp_seq, Nat.reduceBNe, Nat.reduceBEq, Nat.reduceAdd, Nat.reduceSub, Nat.reduceMul, Nat.reduceLeDiff, Nat.reduceLT, Nat.reduceEqDiff, Nat.reduceBneDiff, Int.reduceLE, Int.reduceLT, Int.reduceToNat, Int.reduceBEq, Int.reduceBNe, Int.reduceAdd, Int.reduceSub, Int.cast_ofNat_Int]
            | false =>
              have L0 : (L.length == 0) = false := hL
              simp (maxSteps := 1000000) -implicitDefEqProofs only [gT, gQ, stale_gT, Option.bind_some, g1, w1, w2, hB, binK_and16, c1, nk, ek, List.nil_append, List.cons_append, List.append_nil, cond_true, cond_false, Int.toNat_natCast, Int.natCast_nonneg, F0, hle, L0, hle2, go_sem, awp_seq, Nat.reduceBNe, Nat.reduceBEq, Nat.reduceAdd, Nat.reduceSub, Nat.reduceMul, Nat.reduceLeDiff, Nat.reduceLT, Nat.reduceEqDiff, Nat.reduceBneDiff, Int.reduceLE, Int.reduceLT, Int.reduceToNat, Int.reduceBEq, Int.reduceBNe, Int.reduceAdd, Int.reduceSub, Int.cast_ofNat_Int]
              refine ⟨by omega, by omega, by omega, by omega, ?_⟩
              refine roundK_mk ⟨k + 1, by omega⟩ ?_ (by show it.opts.length - (k + 1) < it.opts.length - k; omega)
              simp (maxSteps := 1000000) -implicitDefEqProofs only [gT, gQ, eF, eL, z1, List.length_append, List.length_cons, List.length_nil, Nat.zero_add, List.map_append, List.map_cons, List.map_nil, List.nil_append, List.cons_append, List.append_nil, cond_true, cond_false, show ((1 : Nat) == 0) = false from rfl, F0, hle, L0, hle2, go_sem, awp_seq, Nat.reduceBNe, Nat.reduceBEq, Nat.reduceAdd, Nat.reduceSub, Nat.reduceMul, Nat.reduceLeDiff, Nat.reduceLT, Nat.reduceEqDiff, Nat.reduceBneDiff, Int.reduceLE, Int.reduceLT, Int.reduceToNat, Int.reduceBEq, Int.reduceBNe, Int.reduceAdd, Int.reduceSub, Int.cast_ofNat_Int]
        | false =>
          simp only [c1, cond_false, List.append_nil] at eF eL
          cases hF : F.length == 0 with
          | true =>
            have hF2 : F = [] := by simpa using hF
            subst hF2
            cases hL : L.length == 0 with
            | true =>
              have hL2 : L = [] := by simpa using hL
              subst hL2
              simp (maxSteps := 1000000) -implicitDefEqProofs only [gT, gQ, stale_gT, Option.bind_some, g1, w1, w2, hB, binK_and16, c1, nk, ek, List.nil_append, List.cons_append, List.append_nil, cond_true, cond_false, Int.toNat_natCast, Int.natCast_nonneg, zz, zz, List.length_nil, List.map_nil, List.length_nil, List.map_nil, go_sem, awp_seq, Nat.reduceBNe, Nat.reduceBEq, Nat.reduceAdd, Nat.reduceSub, Nat.reduceMul, Nat.reduceLeDiff, Nat.reduceLT, Nat.reduceEqDiff, Nat.reduceBneDiff, Int.reduceLE, Int.reduceLT, Int.reduceToNat, Int.reduceBEq, Int.reduceBNe, Int.reduceAdd, Int.reduceSub, Int.cast_ofNat_Int]
              refine roundK_mk ⟨k + 1, by omega⟩ ?_ (by show it.opts.length - (k + 1) < it.opts.length - k; omega)
              simp (maxSteps := 1000000) -implicitDefEqProofs only [gT, gQ, eF, eL, z1, List.length_append, List.length_cons, List.length_nil, Nat.zero_add, List.map_append, List.map_cons, List.map_nil, List.nil_append, List.cons_append, List.append_nil, cond_true, cond_false, show ((1 : Nat) == 0) = false from rfl, zz, zz, go_sem, awp_seq, Nat.reduceBNe, Nat.reduceBEq, Nat.reduceAdd, Nat.reduceSub, Nat.reduceMul, Nat.reduceLeDiff, Nat.reduceLT, Nat.reduceEqDiff, Nat.reduceBneDiff, Int.reduceLE, Int.reduceLT, Int.reduceToNat, Int.reduceBEq, Int.reduceBNe, Int.reduceAdd, Int.reduceSub, Int.cast_ofNat_Int]
            | false =>
              have L0 : (L.length == 0) = false := hL
              simp (maxSteps := 1000000) -implicitDefEqProofs only [gT, gQ, stale_gT, Option.bind_some, g1, w1, w2, hB, binK_and16, c1, nk, ek, List.nil_append, List.cons_append, List.append_nil, cond_true, cond_false, Int.toNat_natCast, Int.natCast_nonneg, zz, L0, hle2, List.length_nil, List.map_nil, go_sem, awp_seq, Nat.reduceBNe, Nat.reduceBEq, Nat.reduceAdd, Nat.reduceSub, Nat.reduceMul, Nat.reduceLeDiff, Nat.reduceLT, Nat.reduceEqDiff, Nat.reduceBneDiff, Int.reduceLE, Int.reduceLT, Int.reduceToNat, Int.reduceBEq, Int.reduceBNe, Int.reduceAdd, Int.reduceSub, Int.cast_ofNat_Int]
              refine roundK_mk ⟨k + 1, by omega⟩ ?_ (by show it.opts.length - (k + 1) < it.opts.length - k; omega)
              simp (maxSteps := 1000000) -implicitDefEqProofs only [gT, gQ, eF, eL, z1, List.length_append, List.length_cons, List.length_nil, Nat.zero_add, List.map_append, List.map_cons, List.map_nil, List.nil_append, List.cons_append, List.append_nil, cond_true, cond_false, show ((1 : Nat) == 0) = false from rfl, zz, L0, hle2, go_sem, awp_seq, Nat.reduceBNe, Nat.reduceBEq, Nat.reduceAdd, Nat.reduceSub, Nat.reduceMul, Nat.reduceLeDiff, Nat.reduceLT, Nat.reduceEqDiff, Nat.reduceBneDiff, Int.reduceLE, Int.reduceLT, Int.reduceToNat, Int.reduceBEq, Int.reduceBNe, Int.reduceAdd, Int.reduceSub, Int.cast_ofNat_Int]
          | false =>
            have F0 : (F.length == 0) = false := hF
            cases hL : L.length == 0 with
            | true =>
              have hL2 : L = [] := by simpa using hL
              subst hL2
              simp (maxSteps := 1000000) -implicitDefEqProofs only [gT, gQ, stale_gT, Option.bind_some, g1, w1, w2, hB, binK_and16, c1, nk, ek, List.nil_append, List.cons_append, List.append_nil, cond_true, cond_false, Int.toNat_natCast, Int.natCast_nonneg, F0, hle, zz, List.length_nil, List.map_nil, go_sem, awp_seq, Nat.reduceBNe, Nat.reduceBEq, Nat.reduceAdd, Nat.reduceSub, Nat.reduceMul, Nat.reduceLeDiff, Nat.reduceLT, Nat.reduceEqDiff, Nat.reduceBneDiff, Int.reduceLE, Int.reduceLT, Int.reduceToNat, Int.reduceBEq, Int.reduceBNe, Int.reduceAdd, Int.reduceSub, Int.cast_ofNat_Int]
              refine roundK_mk ⟨k + 1, by omega⟩ ?_ (by show it.opts.length - (k + 1) < it.opts.length - k; omega)
              simp (maxSteps := 1000000) -implicitDefEqProofs only [gT, gQ, eF, eL, z1, List.length_append, List.length_cons, List.length_nil, Nat.zero_add, List.map_append, List.map_cons, List.map_nil, List.nil_append, List.cons_append, List.append_nil, cond_true, cond_false, show ((1 : Nat) == 0) = false from rfl, F0, hle, zz, go_sem, awp_seq, Nat.reduceBNe, Nat.reduceBEq, Nat.reduceAdd, Nat.reduceSub, Nat.reduceMul, Nat.reduceLeDiff, Nat.reduceLT, Nat.reduceEqDiff, Nat.reduceBneDiff, Int.reduceLE, Int.reduceLT, Int.reduceToNat, Int.reduceBEq, Int.reduceBNe, Int.reduceAdd, Int.reduceSub, Int.cast_ofNat_Int]
            | false =>
              have L0 : (L.length == 0) = false := hL
              simp (maxSteps := 1000000) -implicitDefEqProofs only [gT, gQ, stale_gT, Option.bind_some, g1, w1, w2, hB, binK_and16, c1, nk, ek, List.nil_append, List.cons_append, List.append_nil, cond_true, cond_false, Int.toNat_natCast, Int.natCast_nonneg, F0, hle, L0, hle2, go_sem, awp_seq, Nat.reduceBNe, Nat.reduceBEq, Nat.reduceAdd, Nat.reduceSub, Nat.reduceMul, Nat.reduceLeDiff, Nat.reduceLT, Nat.reduceEqDiff, Nat.reduceBneDiff, Int.reduceLE, Int.reduceLT, Int.reduceToNat, Int.reduceBEq, Int.reduceBNe, Int.reduceAdd, Int.reduceSub, Int.cast_ofNat_Int]
              refine roundK_mk ⟨k + 1, by omega⟩ ?_ (by show it.opts.length - (k + 1) < it.opts.length - k; omega)
              simp (maxSteps := 1000000) -implicitDefEqProofs only [gT, gQ, eF, eL, z1, List.length_append, List.length_cons, List.length_nil, Nat.zero_add, List.map_append, List.map_cons, List.map_nil, List.nil_append, List.cons_append, List.append_nil, cond_true, cond_false, show ((1 : Nat) == 0) = false from rfl, F0, hle, L0, hle2, go_sem, awp_seq, Nat.reduceBNe, Nat.reduceBEq, Nat.reduceAdd, Nat.reduceSub, Nat.reduceMul, Nat.reduceLeDiff, Nat.reduceLT, Nat.reduceEqDiff, Nat.reduceBneDiff, Int.reduceLE, Int.reduceLT, Int.reduceToNat, Int.reduceBEq, Int.reduceBNe, Int.reduceAdd, Int.reduceSub, Int.cast_ofNat_Int]
    · have g1 : decide (((k : Nat) : Int) < (it.opts.length : Nat)) = false := by simp; omega
      have hk2 : k = it.opts.length := by omega
      subst hk2
      have kn := h.key
      have lF := chF_len (inP b e) it.opts.length
      have lL := chF_len (inQ b e) it.opts.length
      have mF := chF_mem (inP b e) it.opts.length
      have mL := chF_mem (inQ b e) it.opts.length
      have SF := score_c it h ⟨it.id, chF (inP b e) it.opts.length, 0, [], false⟩ ⟨by dsimp only; omega, fun z hz => by have := mF z hz; unfold inI; omega, by simp, by unfold inI; simp⟩
      have SL := score_c it h ⟨it.id, chF (inQ b e) it.opts.length, 0, [], false⟩ ⟨by dsimp only; omega, fun z hz => by have := mL z hz; unfold inI; omega, by simp, by unfold inI; simp⟩
      rw [multi_valid hi h2 (inP b e)] at SF
      rw [multi_valid hi h2 (inQ b e)] at SL
      have hp := (item_ok hi).pts
      have more : netM it.key (chF (inQ b e) it.opts.length) = netM it.key (chF (inP b e) it.opts.length) + dM it.key (e : Int) := by
        have := netM_more it.key (inP b e) e (by simp [inP]) it.opts.length
        rw [if_pos he] at this
        exact this
      have up : it.key.contains (e : Int) = true → decide (multiV it (chF (inP b e) it.opts.length) ≤ multiV it (chF (inQ b e) it.opts.length)) = true := fun hc => by
        have := multi_mono (it := it) (by omega) (by omega) (a := chF (inP b e) it.opts.length) (b := chF (inQ b e) it.opts.length) (by rw [more]; unfold dM; rw [hc, cond_true]; omega)
        simpa using this
      have down : it.key.contains (e : Int) = false → decide (multiV it (chF (inQ b e) it.opts.length) ≤ multiV it (chF (inP b e) it.opts.length)) = true := fun hc => by
        have := multi_mono (it := it) (by omega) (by omega) (a := chF (inQ b e) it.opts.length) (b := chF (inP b e) it.opts.length) (by rw [more]; unfold dM; rw [hc, cond_false]; omega)
        simpa using this
      clear more mF mL
      generalize chF (inP b e) it.opts.length = F at *
      generalize chF (inQ b e) it.opts.length = L at *
      have hle : (intE F).length = F.length := by simp
      have hle2 : (intE L).length = L.length := by simp
      simp (maxSteps := 1000000) -implicitDefEqProofs only [stale_gT, Option.bind_some, g1, List.length_map, go_sem, awp_seq, Nat.reduceBNe, Nat.reduceBEq, Nat.reduceAdd, Nat.reduceSub, Nat.reduceMul, Nat.reduceLeDiff, Nat.reduceLT, Nat.reduceEqDiff, Nat.reduceBneDiff, Int.reduceLE, Int.reduceLT, Int.reduceToNat, Int.reduceBEq, Int.reduceBNe, Int.reduceAdd, Int.reduceSub, Int.cast_ofNat_Int]
      refine loop_mk (α := {j : Nat // j ≤ it.key.length}) (fun j => [(0, some (.av (itA it))), (3, some (.ref 3 0)), (6, some (.av (boo false))), (11, some (.av (i64 (e : Nat)))), (12, some (gT 95 F.length)), (13, some (gT 105 L.length)), (14, some (.av (boo ((it.key.take j.1).contains (e : Int))))), (108, some (.av (ints it.key))), (109, some (.av (i64 (it.key.length : Nat)))), (110, some (.av (i64 (j.1 : Nat))))]) (fun _ => [(3, itC it)]) (fun _ => gQ 95 F.length (intE F) ++ gQ 105 L.length (intE L)) (fun j => it.key.length - j.1) ⟨0, Nat.zero_le _⟩ ?_ ?_
      · simp (maxSteps := 1000000) -implicitDefEqProofs only [stale_gT, Option.bind_some, List.length_map, List.take_zero, List.contains_nil, Int.cast_ofNat_Int, go_sem, awp_seq, Nat.reduceBNe, Nat.reduceBEq, Nat.reduceAdd, Nat.reduceSub, Nat.reduceMul, Nat.reduceLeDiff, Nat.reduceLT, Nat.reduceEqDiff, Nat.reduceBneDiff, Int.reduceLE, Int.reduceLT, Int.reduceToNat, Int.reduceBEq, Int.reduceBNe, Int.reduceAdd, Int.reduceSub, Int.cast_ofNat_Int]
        exact ⟨slot_same, slot_same, leM_gQ2⟩
      · rintro ⟨j, hj⟩
        by_cases hjl : j < it.key.length
        · have g2 : decide (((j : Nat) : Int) < (it.key.length : Nat)) = true := by simp; omega
          have e1 := ints_get it.key j
          rw [List.getElem?_eq_getElem hjl] at e1
          simp only [Option.map_some] at e1
          have w1 : IntKind.i64.wrap ((j : Int) + 1) = ((j + 1 : Nat) : Int) := by rw [IntWalk.i64_in _ (by omega)]; omega
          have eC : (it.key.take (j + 1)).contains (e : Int) = ((it.key.take j).contains (e : Int) || (it.key[j] == (e : Int))) := by
            rw [List.take_succ_eq_append_getElem hjl, List.contains_eq_any_beq, List.contains_eq_any_beq, List.any_append]
            simp only [List.any_cons, List.any_nil, Bool.or_false]
            congr 1
            rw [Bool.eq_iff_iff, beq_iff_eq, beq_iff_eq]
            exact eq_comm
          generalize it.key[j] = z at *
          generalize (it.key.take j).contains (e : Int) = r at *
          cases r with
          | true =>
            simp (maxSteps := 1000000) -implicitDefEqProofs only [stale_gT, Option.bind_some, g2, e1, w1, Int.toNat_natCast, Int.natCast_nonneg, go_sem, awp_seq, Nat.reduceBNe, Nat.reduceBEq, Nat.reduceAdd, Nat.reduceSub, Nat.reduceMul, Nat.reduceLeDiff, Nat.reduceLT, Nat.reduceEqDiff, Nat.reduceBneDiff, Int.reduceLE, Int.reduceLT, Int.reduceToNat, Int.reduceBEq, Int.reduceBNe, Int.reduceAdd, Int.reduceSub, Int.cast_ofNat_Int]
            refine roundK_mk ⟨j + 1, by omega⟩ ?_ (by show it.key.length - (j + 1) < it.key.length - j; omega)
            simp (maxSteps := 1000000) -implicitDefEqProofs only [stale_gT, Option.bind_some, eC, Bool.true_or, go_sem, awp_seq, Nat.reduceBNe, Nat.reduceBEq, Nat.reduceAdd, Nat.reduceSub, Nat.reduceMul, Nat.reduceLeDiff, Nat.reduceLT, Nat.reduceEqDiff, Nat.reduceBneDiff, Int.reduceLE, Int.reduceLT, Int.reduceToNat, Int.reduceBEq, Int.reduceBNe, Int.reduceAdd, Int.reduceSub, Int.cast_ofNat_Int]
            exact ⟨slot_same, slot_same, leM_gQ2⟩
          | false =>
            simp (maxSteps := 1000000) -implicitDefEqProofs only [stale_gT, Option.bind_some, g2, e1, w1, Int.toNat_natCast, Int.natCast_nonneg, go_sem, awp_seq, Nat.reduceBNe, Nat.reduceBEq, Nat.reduceAdd, Nat.reduceSub, Nat.reduceMul, Nat.reduceLeDiff, Nat.reduceLT, Nat.reduceEqDiff, Nat.reduceBneDiff, Int.reduceLE, Int.reduceLT, Int.reduceToNat, Int.reduceBEq, Int.reduceBNe, Int.reduceAdd, Int.reduceSub, Int.cast_ofNat_Int]
            refine roundK_mk ⟨j + 1, by omega⟩ ?_ (by show it.key.length - (j + 1) < it.key.length - j; omega)
            simp (maxSteps := 1000000) -implicitDefEqProofs only [stale_gT, Option.bind_some, eC, Bool.false_or, go_sem, awp_seq, Nat.reduceBNe, Nat.reduceBEq, Nat.reduceAdd, Nat.reduceSub, Nat.reduceMul, Nat.reduceLeDiff, Nat.reduceLT, Nat.reduceEqDiff, Nat.reduceBneDiff, Int.reduceLE, Int.reduceLT, Int.reduceToNat, Int.reduceBEq, Int.reduceBNe, Int.reduceAdd, Int.reduceSub, Int.cast_ofNat_Int]
            exact ⟨slot_same, slot_same, leM_gQ2⟩
        · have g2 : decide (((j : Nat) : Int) < (it.key.length : Nat)) = false := by simp; omega
          have hj2 : it.key.take j = it.key := List.take_of_length_le (by omega)
          rw [hj2]
          have tF : List.take F.length (intE F) = intE F := List.take_of_length_le (by simp)
          have tL : List.take L.length (intE L) = intE L := List.take_of_length_le (by simp)
          have kF : F.length ≤ (intE F).length := by simp
          have kL : L.length ≤ (intE L).length := by simp
          have zz : ((0 : Nat) == 0) = true := rfl
          cases hr : it.key.contains (e : Int) with
          | true =>
            have up2 := up hr
            cases hF : F.length == 0 with
            | true =>
              have hF2 : F = [] := by simpa using hF
              subst hF2
              cases hL : L.length == 0 with
              | true =>
                have hL2 : L = [] := by simpa using hL
                subst hL2
                simp (maxSteps := 1000000) -implicitDefEqProofs only [gT, gQ, g2, cond_true, cond_false, List.nil_append, List.cons_append, List.append_nil, if_true, true_and, List.length_nil, List.map_nil, zz, go_sem, awp_seq, Nat.reduceBNe, Nat.reduceBEq, Nat.reduceAdd, Nat.reduceSub, Nat.reduceMul, Nat.reduceLeDiff, Nat.reduceLT, Nat.reduceEqDiff, Nat.reduceBneDiff, Int.reduceLE, Int.reduceLT, Int.reduceToNat, Int.reduceBEq, Int.reduceBNe, Int.reduceAdd, Int.reduceSub, Int.cast_ofNat_Int]
                refine callA_mk SF ?_
                simp (maxSteps := 1000000) -implicitDefEqProofs only [gT, gQ, g2, cond_true, cond_false, List.nil_append, List.cons_append, List.append_nil, if_true, true_and, List.length_nil, List.map_nil, zz, go_sem, awp_seq, Nat.reduceBNe, Nat.reduceBEq, Nat.reduceAdd, Nat.reduceSub, Nat.reduceMul, Nat.reduceLeDiff, Nat.reduceLT, Nat.reduceEqDiff, Nat.reduceBneDiff, Int.reduceLE, Int.reduceLT, Int.reduceToNat, Int.reduceBEq, Int.reduceBNe, Int.reduceAdd, Int.reduceSub, Int.cast_ofNat_Int]
                refine callA_mk SL ?_
                simp (maxSteps := 1000000) -implicitDefEqProofs only [gT, gQ, g2, cond_true, cond_false, List.nil_append, List.cons_append, List.append_nil, if_true, true_and, List.length_nil, List.map_nil, zz, c00, c01, Bool.not_true, Bool.not_false, up2, go_sem, awp_seq, Nat.reduceBNe, Nat.reduceBEq, Nat.reduceAdd, Nat.reduceSub, Nat.reduceMul, Nat.reduceLeDiff, Nat.reduceLT, Nat.reduceEqDiff, Nat.reduceBneDiff, Int.reduceLE, Int.reduceLT, Int.reduceToNat, Int.reduceBEq, Int.reduceBNe, Int.reduceAdd, Int.reduceSub, Int.cast_ofNat_Int]
                refine callA_mk AW ?_
                simp (maxSteps := 1000000) -implicitDefEqProofs only [go_sem, awp_seq, Nat.reduceBNe, Nat.reduceBEq, Nat.reduceAdd, Nat.reduceSub, Nat.reduceMul, Nat.reduceLeDiff, Nat.reduceLT, Nat.reduceEqDiff, Nat.reduceBneDiff, Int.reduceLE, Int.reduceLT, Int.reduceToNat, Int.reduceBEq, Int.reduceBNe, Int.reduceAdd, Int.reduceSub, Int.cast_ofNat_Int]
              | false =>
                have L0 : (L.length == 0) = false := hL
                simp (maxSteps := 1000000) -implicitDefEqProofs only [gT, gQ, g2, cond_true, cond_false, List.nil_append, List.cons_append, List.append_nil, if_true, true_and, List.length_nil, List.map_nil, zz, L0, hle2, tL, kL, go_sem, awp_seq, Nat.reduceBNe, Nat.reduceBEq, Nat.reduceAdd, Nat.reduceSub, Nat.reduceMul, Nat.reduceLeDiff, Nat.reduceLT, Nat.reduceEqDiff, Nat.reduceBneDiff, Int.reduceLE, Int.reduceLT, Int.reduceToNat, Int.reduceBEq, Int.reduceBNe, Int.reduceAdd, Int.reduceSub, Int.cast_ofNat_Int]
                refine callA_mk SF ?_
                simp (maxSteps := 1000000) -implicitDefEqProofs only [gT, gQ, g2, cond_true, cond_false, List.nil_append, List.cons_append, List.append_nil, if_true, true_and, List.length_nil, List.map_nil, zz, L0, hle2, tL, kL, go_sem, awp_seq, Nat.reduceBNe, Nat.reduceBEq, Nat.reduceAdd, Nat.reduceSub, Nat.reduceMul, Nat.reduceLeDiff, Nat.reduceLT, Nat.reduceEqDiff, Nat.reduceBneDiff, Int.reduceLE, Int.reduceLT, Int.reduceToNat, Int.reduceBEq, Int.reduceBNe, Int.reduceAdd, Int.reduceSub, Int.cast_ofNat_Int]
                refine callA_mk SL ?_
                simp (maxSteps := 1000000) -implicitDefEqProofs only [gT, gQ, g2, cond_true, cond_false, List.nil_append, List.cons_append, List.append_nil, if_true, true_and, List.length_nil, List.map_nil, zz, L0, hle2, tL, kL, c00, c01, Bool.not_true, Bool.not_false, up2, go_sem, awp_seq, Nat.reduceBNe, Nat.reduceBEq, Nat.reduceAdd, Nat.reduceSub, Nat.reduceMul, Nat.reduceLeDiff, Nat.reduceLT, Nat.reduceEqDiff, Nat.reduceBneDiff, Int.reduceLE, Int.reduceLT, Int.reduceToNat, Int.reduceBEq, Int.reduceBNe, Int.reduceAdd, Int.reduceSub, Int.cast_ofNat_Int]
                refine callA_mk AW ?_
                simp (maxSteps := 1000000) -implicitDefEqProofs only [go_sem, awp_seq, Nat.reduceBNe, Nat.reduceBEq, Nat.reduceAdd, Nat.reduceSub, Nat.reduceMul, Nat.reduceLeDiff, Nat.reduceLT, Nat.reduceEqDiff, Nat.reduceBneDiff, Int.reduceLE, Int.reduceLT, Int.reduceToNat, Int.reduceBEq, Int.reduceBNe, Int.reduceAdd, Int.reduceSub, Int.cast_ofNat_Int]
            | false =>
              have F0 : (F.length == 0) = false := hF
              cases hL : L.length == 0 with
              | true =>
                have hL2 : L = [] := by simpa using hL
                subst hL2
                simp (maxSteps := 1000000) -implicitDefEqProofs only [gT, gQ, g2, cond_true, cond_false, List.nil_append, List.cons_append, List.append_nil, if_true, true_and, List.length_nil, List.map_nil, zz, F0, hle, tF, kF, go_sem, awp_seq, Nat.reduceBNe, Nat.reduceBEq, Nat.reduceAdd, Nat.reduceSub, Nat.reduceMul, Nat.reduceLeDiff, Nat.reduceLT, Nat.reduceEqDiff, Nat.reduceBneDiff, Int.reduceLE, Int.reduceLT, Int.reduceToNat, Int.reduceBEq, Int.reduceBNe, Int.reduceAdd, Int.reduceSub, Int.cast_ofNat_Int]
                refine callA_mk SF ?_
                simp (maxSteps := 1000000) -implicitDefEqProofs only [gT, gQ, g2, cond_true, cond_false, List.nil_append, List.cons_append, List.append_nil, if_true, true_and, List.length_nil, List.map_nil, zz, F0, hle, tF, kF, go_sem, awp_seq, Nat.reduceBNe, Nat.reduceBEq, Nat.reduceAdd, Nat.reduceSub, Nat.reduceMul, Nat.reduceLeDiff, Nat.reduceLT, Nat.reduceEqDiff, Nat.reduceBneDiff, Int.reduceLE, Int.reduceLT, Int.reduceToNat, Int.reduceBEq, Int.reduceBNe, Int.reduceAdd, Int.reduceSub, Int.cast_ofNat_Int]
                refine callA_mk SL ?_
                simp (maxSteps := 1000000) -implicitDefEqProofs only [gT, gQ, g2, cond_true, cond_false, List.nil_append, List.cons_append, List.append_nil, if_true, true_and, List.length_nil, List.map_nil, zz, F0, hle, tF, kF, c00, c01, Bool.not_true, Bool.not_false, up2, go_sem, awp_seq, Nat.reduceBNe, Nat.reduceBEq, Nat.reduceAdd, Nat.reduceSub, Nat.reduceMul, Nat.reduceLeDiff, Nat.reduceLT, Nat.reduceEqDiff, Nat.reduceBneDiff, Int.reduceLE, Int.reduceLT, Int.reduceToNat, Int.reduceBEq, Int.reduceBNe, Int.reduceAdd, Int.reduceSub, Int.cast_ofNat_Int]
                refine callA_mk AW ?_
                simp (maxSteps := 1000000) -implicitDefEqProofs only [go_sem, awp_seq, Nat.reduceBNe, Nat.reduceBEq, Nat.reduceAdd, Nat.reduceSub, Nat.reduceMul, Nat.reduceLeDiff, Nat.reduceLT, Nat.reduceEqDiff, Nat.reduceBneDiff, Int.reduceLE, Int.reduceLT, Int.reduceToNat, Int.reduceBEq, Int.reduceBNe, Int.reduceAdd, Int.reduceSub, Int.cast_ofNat_Int]
              | false =>
                have L0 : (L.length == 0) = false := hL
                simp (maxSteps := 1000000) -implicitDefEqProofs only [gT, gQ, g2, cond_true, cond_false, List.nil_append, List.cons_append, List.append_nil, if_true, true_and, F0, hle, tF, kF, L0, hle2, tL, kL, go_sem, awp_seq, Nat.reduceBNe, Nat.reduceBEq, Nat.reduceAdd, Nat.reduceSub, Nat.reduceMul, Nat.reduceLeDiff, Nat.reduceLT, Nat.reduceEqDiff, Nat.reduceBneDiff, Int.reduceLE, Int.reduceLT, Int.reduceToNat, Int.reduceBEq, Int.reduceBNe, Int.reduceAdd, Int.reduceSub, Int.cast_ofNat_Int]
                refine callA_mk SF ?_
                simp (maxSteps := 1000000) -implicitDefEqProofs only [gT, gQ, g2, cond_true, cond_false, List.nil_append, List.cons_append, List.append_nil, if_true, true_and, F0, hle, tF, kF, L0, hle2, tL, kL, go_sem, awp_seq, Nat.reduceBNe, Nat.reduceBEq, Nat.reduceAdd, Nat.reduceSub, Nat.reduceMul, Nat.reduceLeDiff, Nat.reduceLT, Nat.reduceEqDiff, Nat.reduceBneDiff, Int.reduceLE, Int.reduceLT, Int.reduceToNat, Int.reduceBEq, Int.reduceBNe, Int.reduceAdd, Int.reduceSub, Int.cast_ofNat_Int]
                refine callA_mk SL ?_
                simp (maxSteps := 1000000) -implicitDefEqProofs only [gT, gQ, g2, cond_true, cond_false, List.nil_append, List.cons_append, List.append_nil, if_true, true_and, F0, hle, tF, kF, L0, hle2, tL, kL, c00, c01, Bool.not_true, Bool.not_false, up2, go_sem, awp_seq, Nat.reduceBNe, Nat.reduceBEq, Nat.reduceAdd, Nat.reduceSub, Nat.reduceMul, Nat.reduceLeDiff, Nat.reduceLT, Nat.reduceEqDiff, Nat.reduceBneDiff, Int.reduceLE, Int.reduceLT, Int.reduceToNat, Int.reduceBEq, Int.reduceBNe, Int.reduceAdd, Int.reduceSub, Int.cast_ofNat_Int]
                refine callA_mk AW ?_
                simp (maxSteps := 1000000) -implicitDefEqProofs only [go_sem, awp_seq, Nat.reduceBNe, Nat.reduceBEq, Nat.reduceAdd, Nat.reduceSub, Nat.reduceMul, Nat.reduceLeDiff, Nat.reduceLT, Nat.reduceEqDiff, Nat.reduceBneDiff, Int.reduceLE, Int.reduceLT, Int.reduceToNat, Int.reduceBEq, Int.reduceBNe, Int.reduceAdd, Int.reduceSub, Int.cast_ofNat_Int]
          | false =>
            have down2 := down hr
            cases hF : F.length == 0 with
            | true =>
              have hF2 : F = [] := by simpa using hF
              subst hF2
              cases hL : L.length == 0 with
              | true =>
                have hL2 : L = [] := by simpa using hL
                subst hL2
                simp (maxSteps := 1000000) -implicitDefEqProofs only [gT, gQ, g2, cond_true, cond_false, List.nil_append, List.cons_append, List.append_nil, if_true, true_and, List.length_nil, List.map_nil, zz, go_sem, awp_seq, Nat.reduceBNe, Nat.reduceBEq, Nat.reduceAdd, Nat.reduceSub, Nat.reduceMul, Nat.reduceLeDiff, Nat.reduceLT, Nat.reduceEqDiff, Nat.reduceBneDiff, Int.reduceLE, Int.reduceLT, Int.reduceToNat, Int.reduceBEq, Int.reduceBNe, Int.reduceAdd, Int.reduceSub, Int.cast_ofNat_Int]
                refine callA_mk SF ?_
                simp (maxSteps := 1000000) -implicitDefEqProofs only [gT, gQ, g2, cond_true, cond_false, List.nil_append, List.cons_append, List.append_nil, if_true, true_and, List.length_nil, List.map_nil, zz, go_sem, awp_seq, Nat.reduceBNe, Nat.reduceBEq, Nat.reduceAdd, Nat.reduceSub, Nat.reduceMul, Nat.reduceLeDiff, Nat.reduceLT, Nat.reduceEqDiff, Nat.reduceBneDiff, Int.reduceLE, Int.reduceLT, Int.reduceToNat, Int.reduceBEq, Int.reduceBNe, Int.reduceAdd, Int.reduceSub, Int.cast_ofNat_Int]
                refine callA_mk SL ?_
                simp (maxSteps := 1000000) -implicitDefEqProofs only [gT, gQ, g2, cond_true, cond_false, List.nil_append, List.cons_append, List.append_nil, if_true, true_and, List.length_nil, List.map_nil, zz, c00, c01, Bool.not_true, Bool.not_false, down2, go_sem, awp_seq, Nat.reduceBNe, Nat.reduceBEq, Nat.reduceAdd, Nat.reduceSub, Nat.reduceMul, Nat.reduceLeDiff, Nat.reduceLT, Nat.reduceEqDiff, Nat.reduceBneDiff, Int.reduceLE, Int.reduceLT, Int.reduceToNat, Int.reduceBEq, Int.reduceBNe, Int.reduceAdd, Int.reduceSub, Int.cast_ofNat_Int]
                refine callA_mk AW ?_
                simp (maxSteps := 1000000) -implicitDefEqProofs only [go_sem, awp_seq, Nat.reduceBNe, Nat.reduceBEq, Nat.reduceAdd, Nat.reduceSub, Nat.reduceMul, Nat.reduceLeDiff, Nat.reduceLT, Nat.reduceEqDiff, Nat.reduceBneDiff, Int.reduceLE, Int.reduceLT, Int.reduceToNat, Int.reduceBEq, Int.reduceBNe, Int.reduceAdd, Int.reduceSub, Int.cast_ofNat_Int]
              | false =>
                have L0 : (L.length == 0) = false := hL
                simp (maxSteps := 1000000) -implicitDefEqProofs only [gT, gQ, g2, cond_true, cond_false, List.nil_append, List.cons_append, List.append_nil, if_true, true_and, List.length_nil, List.map_nil, zz, L0, hle2, tL, kL, go_sem, awp_seq, Nat.reduceBNe, Nat.reduceBEq, Nat.reduceAdd, Nat.reduceSub, Nat.reduceMul, Nat.reduceLeDiff, Nat.reduceLT, Nat.reduceEqDiff, Nat.reduceBneDiff, Int.reduceLE, Int.reduceLT, Int.reduceToNat, Int.reduceBEq, Int.reduceBNe, Int.reduceAdd, Int.reduceSub, Int.cast_ofNat_Int]
                refine callA_mk SF ?_
                simp (maxSteps := 1000000) -implicitDefEqProofs only [gT, gQ, g2, cond_true, cond_false, List.nil_append, List.cons_append, List.append_nil, if_true, true_and, List.length_nil, List.map_nil, zz, L0, hle2, tL, kL, go_sem, awp_seq, Nat.reduceBNe, Nat.reduceBEq, Nat.reduceAdd, Nat.reduceSub, Nat.reduceMul, Nat.reduceLeDiff, Nat.reduceLT, Nat.reduceEqDiff, Nat.reduceBneDiff, Int.reduceLE, Int.reduceLT, Int.reduceToNat, Int.reduceBEq, Int.reduceBNe, Int.reduceAdd, Int.reduceSub, Int.cast_ofNat_Int]
                refine callA_mk SL ?_
                simp (maxSteps := 1000000) -implicitDefEqProofs only [gT, gQ, g2, cond_true, cond_false, List.nil_append, List.cons_append, List.append_nil, if_true, true_and, List.length_nil, List.map_nil, zz, L0, hle2, tL, kL, c00, c01, Bool.not_true, Bool.not_false, down2, go_sem, awp_seq, Nat.reduceBNe, Nat.reduceBEq, Nat.reduceAdd, Nat.reduceSub, Nat.reduceMul, Nat.reduceLeDiff, Nat.reduceLT, Nat.reduceEqDiff, Nat.reduceBneDiff, Int.reduceLE, Int.reduceLT, Int.reduceToNat, Int.reduceBEq, Int.reduceBNe, Int.reduceAdd, Int.reduceSub, Int.cast_ofNat_Int]
                refine callA_mk AW ?_
                simp (maxSteps := 1000000) -implicitDefEqProofs only [go_sem, awp_seq, Nat.reduceBNe, Nat.reduceBEq, Nat.reduceAdd, Nat.reduceSub, Nat.reduceMul, Nat.reduceLeDiff, Nat.reduceLT, Nat.reduceEqDiff, Nat.reduceBneDiff, Int.reduceLE, Int.reduceLT, Int.reduceToNat, Int.reduceBEq, Int.reduceBNe, Int.reduceAdd, Int.reduceSub, Int.cast_ofNat_Int]
            | false =>
              have F0 : (F.length == 0) = false := hF
              cases hL : L.length == 0 with
              | true =>
                have hL2 : L = [] := by simpa using hL
                subst hL2
                simp (maxSteps := 1000000) -implicitDefEqProofs only [gT, gQ, g2, cond_true, cond_false, List.nil_append, List.cons_append, List.append_nil, if_true, true_and, List.length_nil, List.map_nil, zz, F0, hle, tF, kF, go_sem, awp_seq, Nat.reduceBNe, Nat.reduceBEq, Nat.reduceAdd, Nat.reduceSub, Nat.reduceMul, Nat.reduceLeDiff, Nat.reduceLT, Nat.reduceEqDiff, Nat.reduceBneDiff, Int.reduceLE, Int.reduceLT, Int.reduceToNat, Int.reduceBEq, Int.reduceBNe, Int.reduceAdd, Int.reduceSub, Int.cast_ofNat_Int]
                refine callA_mk SF ?_
                simp (maxSteps := 1000000) -implicitDefEqProofs only [gT, gQ, g2, cond_true, cond_false, List.nil_append, List.cons_append, List.append_nil, if_true, true_and, List.length_nil, List.map_nil, zz, F0, hle, tF, kF, go_sem, awp_seq, Nat.reduceBNe, Nat.reduceBEq, Nat.reduceAdd, Nat.reduceSub, Nat.reduceMul, Nat.reduceLeDiff, Nat.reduceLT, Nat.reduceEqDiff, Nat.reduceBneDiff, Int.reduceLE, Int.reduceLT, Int.reduceToNat, Int.reduceBEq, Int.reduceBNe, Int.reduceAdd, Int.reduceSub, Int.cast_ofNat_Int]
                refine callA_mk SL ?_
                simp (maxSteps := 1000000) -implicitDefEqProofs only [gT, gQ, g2, cond_true, cond_false, List.nil_append, List.cons_append, List.append_nil, if_true, true_and, List.length_nil, List.map_nil, zz, F0, hle, tF, kF, c00, c01, Bool.not_true, Bool.not_false, down2, go_sem, awp_seq, Nat.reduceBNe, Nat.reduceBEq, Nat.reduceAdd, Nat.reduceSub, Nat.reduceMul, Nat.reduceLeDiff, Nat.reduceLT, Nat.reduceEqDiff, Nat.reduceBneDiff, Int.reduceLE, Int.reduceLT, Int.reduceToNat, Int.reduceBEq, Int.reduceBNe, Int.reduceAdd, Int.reduceSub, Int.cast_ofNat_Int]
                refine callA_mk AW ?_
                simp (maxSteps := 1000000) -implicitDefEqProofs only [go_sem, awp_seq, Nat.reduceBNe, Nat.reduceBEq, Nat.reduceAdd, Nat.reduceSub, Nat.reduceMul, Nat.reduceLeDiff, Nat.reduceLT, Nat.reduceEqDiff, Nat.reduceBneDiff, Int.reduceLE, Int.reduceLT, Int.reduceToNat, Int.reduceBEq, Int.reduceBNe, Int.reduceAdd, Int.reduceSub, Int.cast_ofNat_Int]
              | false =>
                have L0 : (L.length == 0) = false := hL
                simp (maxSteps := 1000000) -implicitDefEqProofs only [gT, gQ, g2, cond_true, cond_false, List.nil_append, List.cons_append, List.append_nil, if_true, true_and, F0, hle, tF, kF, L0, hle2, tL, kL, go_sem, awp_seq, Nat.reduceBNe, Nat.reduceBEq, Nat.reduceAdd, Nat.reduceSub, Nat.reduceMul, Nat.reduceLeDiff, Nat.reduceLT, Nat.reduceEqDiff, Nat.reduceBneDiff, Int.reduceLE, Int.reduceLT, Int.reduceToNat, Int.reduceBEq, Int.reduceBNe, Int.reduceAdd, Int.reduceSub, Int.cast_ofNat_Int]
                refine callA_mk SF ?_
                simp (maxSteps := 1000000) -implicitDefEqProofs only [gT, gQ, g2, cond_true, cond_false, List.nil_append, List.cons_append, List.append_nil, if_true, true_and, F0, hle, tF, kF, L0, hle2, tL, kL, go_sem, awp_seq, Nat.reduceBNe, Nat.reduceBEq, Nat.reduceAdd, Nat.reduceSub, Nat.reduceMul, Nat.reduceLeDiff, Nat.reduceLT, Nat.reduceEqDiff, Nat.reduceBneDiff, Int.reduceLE, Int.reduceLT, Int.reduceToNat, Int.reduceBEq, Int.reduceBNe, Int.reduceAdd, Int.reduceSub, Int.cast_ofNat_Int]
                refine callA_mk SL ?_
                simp (maxSteps := 1000000) -implicitDefEqProofs only [gT, gQ, g2, cond_true, cond_false, List.nil_append, List.cons_append, List.append_nil, if_true, true_and, F0, hle, tF, kF, L0, hle2, tL, kL, c00, c01, Bool.not_true, Bool.not_false, down2, go_sem, awp_seq, Nat.reduceBNe, Nat.reduceBEq, Nat.reduceAdd, Nat.reduceSub, Nat.reduceMul, Nat.reduceLeDiff, Nat.reduceLT, Nat.reduceEqDiff, Nat.reduceBneDiff, Int.reduceLE, Int.reduceLT, Int.reduceToNat, Int.reduceBEq, Int.reduceBNe, Int.reduceAdd, Int.reduceSub, Int.cast_ofNat_Int]
                refine callA_mk AW ?_
                simp (maxSteps := 1000000) -implicitDefEqProofs only [go_sem, awp_seq, Nat.reduceBNe, Nat.reduceBEq, Nat.reduceAdd, Nat.reduceSub, Nat.reduceMul, Nat.reduceLeDiff, Nat.reduceLT, Nat.reduceEqDiff, Nat.reduceBneDiff, Int.reduceLE, Int.reduceLT, Int.reduceToNat, Int.reduceBEq, Int.reduceBNe, Int.reduceAdd, Int.reduceSub, Int.cast_ofNat_Int]
end Go.Proofs.YtkmicjpoekbhfaaGreatDoor

/- Chapter 40: KeyingPartial for all arguments. -/
set_option linter.unusedSimpArgs false
set_option linter.unusedVariables false
namespace Go.Proofs.YtkmicjpoekbhfaaGreatDoor
open Go.RowKit Lim

theorem Ok.anyInt {B : Nat} {cs : List AV} {k : IntKind} (h : Ok B (.int k) cs) : ∃ z : Int, cs = [.lit (.int k z)] ∧ k.min ≤ z ∧ z ≤ k.max := by
  cases h with | int h => exact ⟨_, rfl, h⟩
theorem keyingPartial_c (it : ItV) (h : IOK it) (b m : Int) (hb : 0 ≤ b ∧ b ≤ 65535) (hm : 0 ≤ m ∧ m ≤ 255) : AC 7 [itA it, .lit (.int .u16 b), .lit (.int .u8 m)] (boo true) := by
  cases ci : itemE it != 0 with
  | true => exact part_no it h _ _ (.inl ci)
  | false =>
  have hi : itemE it = 0 := by simpa using ci
  cases h3 : it.kind == 3 with
  | true => exact part_order it h _ _ hi h3
  | false =>
  cases h2 : it.kind == 2 with
  | true => exact part_multi it h b m hb hm hi h2
  | false => exact part_no it h _ _ (.inr ⟨h3, h2⟩)
theorem okA_three {B : Nat} {s t u : SH} {as' : List AV} (h : OkA B [s, t, u] as') : ∃ a b c, as' = [s.top a, t.top b, u.top c] ∧ Ok B s a ∧ Ok B t b ∧ Ok B u c := by
  cases h with | cons h1 h2 => obtain ⟨b, c, rfl, h3, h4⟩ := okA_two h2; exact ⟨_, b, c, rfl, h1, h3, h4⟩
theorem kPartial.law (as' : List AV) (h : OkA 1048576 [shItem, .int .u16, .int .u8] as') : AC 7 as' (boo true) := by
  obtain ⟨a, b, c, rfl, h1, h2, h3⟩ := okA_three h
  obtain ⟨it, rfl, hi⟩ := h1.item (by omega)
  obtain ⟨z, rfl, hz⟩ := h2.anyInt
  obtain ⟨m, rfl, hm⟩ := h3.anyInt
  exact keyingPartial_c it hi z m hz hm
end Go.Proofs.YtkmicjpoekbhfaaGreatDoor
