import Derived.Test.YtkmicjpoekbhfaaGreatDoorP3
/- Texts merged: WkL WkM WkQ. -/
/- Chapter 40: the law KeyingNormal, plain. INTS -/
set_option linter.unusedSimpArgs false
set_option linter.unusedVariables false
namespace Go.Proofs.YtkmicjpoekbhfaaGreatDoor
open Go.RowKit Lim

/-- Normalized texts, as they are built. -/
inductive Gd : List UInt8 → Prop
  | nil : Gd []
  | one {out : List UInt8} {c : UInt8} (h : Gd out) (h1 : upB c = false) (h2 : (loB c || dgB c) = true) : Gd (out ++ [c])
  | two {out : List UInt8} {c : UInt8} (h : Gd out) (h0 : out ≠ []) (h1 : upB c = false) (h2 : (loB c || dgB c) = true) : Gd (out ++ [32, c])
theorem Gd.fold {t : List UInt8} (h : Gd t) : t.foldl nstep ([], false) = (t, false) := by
  induction h with
  | nil => rfl
  | one h h1 h2 ih => rw [List.foldl_append, ih, List.foldl_cons, List.foldl_nil, nstep_emit h1 h2]; rfl
  | @two out c h h0 h1 h2 ih =>
    have hlen : 0 < out.length := List.length_pos_iff.2 h0
    have hd : decide ((0 : Int) < (out.length : Nat)) = true := by simp; omega
    rw [List.foldl_append, ih, List.foldl_cons, nstep_blank (by decide) (by decide) rfl, hd, List.foldl_cons, List.foldl_nil, nstep_emit h1 h2]
    rfl
theorem Gd.norm {t : List UInt8} (h : Gd t) : normV t = t := by unfold normV; rw [h.fold]
theorem ld_ne {c : UInt8} (h2 : (loB c || dgB c) = true) : c ≠ 32 := by
  intro e; subst e; exact absurd h2 (by decide)
theorem up_ld {c : UInt8} (h : upB c = true) : upB (c + 32) = false ∧ (loB (c + 32) || dgB (c + 32)) = true := by
  simp only [upB, Bool.and_eq_true, decide_eq_true_eq] at h
  have e : (c + 32).toNat = c.toNat + 32 := by
    rw [UInt8.toNat_add]
    show (c.toNat + 32) % 256 = _
    omega
  simp only [upB, loB, dgB, e, Bool.and_eq_false_iff, decide_eq_false_iff_not, Bool.or_eq_true, Bool.and_eq_true, decide_eq_true_eq]
  omega
theorem Gd.put {out : List UInt8} {bl : Bool} {c : UInt8} (h : Gd out) (hb : bl = true → out ≠ []) (h1 : upB c = false) (h2 : (loB c || dgB c) = true) : Gd (nput out bl c) := by
  cases bl with
  | true => exact .two h (hb rfl) h1 h2
  | false => exact .one h h1 h2
theorem put_len (out : List UInt8) (bl : Bool) (c : UInt8) : (nput out bl c).length = out.length + bl.toNat + 1 := by cases bl <;> simp [nput]
theorem Gd.step : ∀ (s out : List UInt8) (bl : Bool), Gd out → (bl = true → out ≠ []) → Gd (s.foldl nstep (out, bl)).1 ∧ (s.foldl nstep (out, bl)).1.length ≤ out.length + bl.toNat + s.length
  | [], out, bl, h, _ => ⟨h, by simp⟩
  | c :: r, out, bl, h, hb => by
    rw [List.foldl_cons]
    have hp := put_len out bl
    cases c1 : upB c with
    | true =>
      rw [nstep_up c1]
      have q := up_ld c1
      have ih := Gd.step r (nput out bl (c + 32)) false (h.put hb q.1 q.2) (fun h => by cases h)
      rw [hp] at ih
      exact ⟨ih.1, by have := ih.2; simp at this ⊢; omega⟩
    | false =>
    cases c2 : loB c || dgB c with
    | true =>
      rw [nstep_emit c1 c2]
      have ih := Gd.step r (nput out bl c) false (h.put hb c1 c2) (fun h => by cases h)
      rw [hp] at ih
      exact ⟨ih.1, by have := ih.2; simp at this ⊢; omega⟩
    | false =>
    cases c3 : (c.toNat : Int) == 32 with
    | true =>
      rw [nstep_blank c1 c2 c3]
      have ih := Gd.step r out (decide ((0 : Int) < (out.length : Nat))) h (fun h e => by subst e; simp at h)
      refine ⟨ih.1, ?_⟩
      have := ih.2
      have hle : (decide ((0 : Int) < (out.length : Nat))).toNat ≤ 1 := Bool.toNat_le _
      simp only [List.length_cons]
      omega
    | false =>
      rw [nstep_skip c1 c2 c3]
      have ih := Gd.step r out bl h hb
      refine ⟨ih.1, ?_⟩
      have := ih.2
      simp only [List.length_cons]
      omega
theorem normV_gd (s : List UInt8) : Gd (normV s) ∧ (normV s).length ≤ s.length := by
  have := Gd.step s [] false .nil (fun h => by cases h)
  exact ⟨this.1, by have h := this.2; simp at h; exact h⟩
/-- What the law asks of each byte. -/
theorem Gd.at {t : List UInt8} (h : Gd t) : ∀ i (hi : i < t.length), (t[i] = 32 → i ≠ 0 ∧ i + 1 ≠ t.length ∧ t[i - 1]? ≠ some 32) ∧ (t[i] ≠ 32 → (loB t[i] || dgB t[i]) = true) := by
  induction h with
  | nil => intro i hi; simp at hi
  | @one out c h h1 h2 ih =>
    intro i hi
    simp only [List.length_append, List.length_cons, List.length_nil] at hi
    by_cases hio : i < out.length
    · have e := ih i hio
      rw [List.getElem_append_left hio]
      refine ⟨fun h32 => ?_, e.2⟩
      have q := e.1 h32
      refine ⟨q.1, by simp; omega, ?_⟩
      rw [List.getElem?_append_left (by omega)]
      exact q.2.2
    · have hi2 : i = out.length := by omega
      subst hi2
      rw [List.getElem_append_right (by omega)]
      simp only [Nat.sub_self, List.getElem_cons_zero]
      exact ⟨fun e => absurd e (ld_ne h2), fun _ => h2⟩
  | @two out c h h0 h1 h2 ih =>
    intro i hi
    have hlen : 0 < out.length := List.length_pos_iff.2 h0
    simp only [List.length_append, List.length_cons, List.length_nil] at hi
    by_cases hio : i < out.length
    · have e := ih i hio
      rw [List.getElem_append_left hio]
      refine ⟨fun h32 => ?_, e.2⟩
      have q := e.1 h32
      refine ⟨q.1, by simp; omega, ?_⟩
      rw [List.getElem?_append_left (by omega)]
      exact q.2.2
    · by_cases hi2 : i = out.length
      · subst hi2
        rw [List.getElem_append_right (by omega)]
        simp only [Nat.sub_self, List.getElem_cons_zero]
        refine ⟨fun _ => ⟨by omega, by simp, ?_⟩, fun h => absurd rfl h⟩
        rw [List.getElem?_append_left (by omega), List.getElem?_eq_getElem (by omega)]
        intro e
        have := (ih (out.length - 1) (by omega)).1 (Option.some.inj e)
        omega
      · have hi3 : i = out.length + 1 := by omega
        subst hi3
        rw [List.getElem_append_right (by omega)]
        simp only [Nat.add_sub_cancel_left, List.getElem_cons_succ, List.getElem_cons_zero]
        exact ⟨fun e => absurd e (ld_ne h2), fun _ => h2⟩
/-- The score of a text. -/
theorem text_score {it : ItV} (hi : itemE it = 0) (h5 : (it.kind == 5) = true) (s : List UInt8) : scoreV it ⟨it.id, [], 0, s, false⟩ = (bif decide ((200 : Int) < (s.length : Nat)) then (0, 5) else bif it.texts.contains (normV s) then (it.pts, 0) else (0, 0)) := by
  have hk : it.kind = 5 := by simpa using h5
  have hb : badB it ⟨it.id, [], 0, s, false⟩ = false := by simp [badB, hk, hasTxB]
  have hv : validE it ⟨it.id, [], 0, s, false⟩ = bif decide ((200 : Int) < (s.length : Nat)) then 5 else 0 := by
    unfold validE
    rw [hi, hb, hk]
    simp only [show ((0 : Int) != 0) = false from rfl, show (it.id != it.id) = false by simp, cond_false]
    rfl
  unfold scoreV
  rw [hv, hk]
  cases decide ((200 : Int) < (s.length : Nat)) with
  | true => rfl
  | false =>
    have : rightB it ⟨it.id, [], 0, s, false⟩ = it.texts.contains (normV s) := by unfold rightB; rw [hk]; rfl
    rw [this]
    rfl
theorem texts_norm {it : ItV} (hi : itemE it = 0) (h5 : (it.kind == 5) = true) : ∀ x ∈ it.texts, normV x = x := by
  intro x hx
  have k5 := (item_ok hi).key5 (by simpa using h5)
  unfold txtsB at k5
  rw [Bool.and_eq_true] at k5
  obtain ⟨i, hi', rfl⟩ := List.getElem_of_mem hx
  have := List.all_eq_true.1 k5.1 i (List.mem_range.2 hi')
  unfold txtAt at this
  rw [List.getElem?_eq_getElem hi', Option.getD_some, Bool.and_eq_true] at this
  exact normV_id this.1
end Go.Proofs.YtkmicjpoekbhfaaGreatDoor

/- Chapter 40: the law KeyingNormal, its walk. INTS -/
set_option linter.unusedSimpArgs false
set_option linter.unusedVariables false
namespace Go.Proofs.YtkmicjpoekbhfaaGreatDoor
open Go.RowKit Lim

theorem u32_beq (c : UInt8) : (((c.toNat : Nat) : Int) == 32) = decide (c = 32) := by
  rw [Bool.eq_iff_iff]
  simp only [beq_iff_eq, decide_eq_true_eq]
  constructor
  · intro h; apply UInt8.toNat_inj.1; simp; omega
  · intro h; subst h; rfl
set_option maxHeartbeats 8000000 in
theorem keyingNormal_c (s : List UInt8) (hs : s.length ≤ 2000000) (it : ItV) (h : IOK it) : AC 6 [str s, itA it] (boo true) := by
  have I := itemValid_c it h
  have AW := awake40_c
  have N1 := normal_c s hs
  have G := normV_gd s
  have N2 := normal_c (normV s) (by omega)
  rw [G.1.norm] at N2
  have AT := G.1.at
  have SC := score_c it h ⟨it.id, [], 0, s, false⟩ ⟨by simp, by simp, by simpa using hs, by unfold inI; simp⟩
  have TS := fun hi h5 => text_score (it := it) hi h5 s
  have glen := G.2
  obtain ⟨t, ht⟩ : ∃ t, normV s = t := ⟨_, rfl⟩
  rw [ht] at N1 N2 AT glen TS
  have l1 : decide (((s.length : Nat) : Int) < (t.length : Nat)) = false := by simp; omega
  have tb : (t == t) = true := by simp
  have c00 : ((0 : Int) != 0) = false := rfl
  have c01 : ((0 : Int) == 0) = true := rfl
  refine ACalls.of ⟨88, [], []⟩ (fn := Tryz.f6) Tryz.func6 rfl rfl rfl (by kernel_rfl) (by kernel_rfl) (Nat.le_of_ble_eq_true rfl) ?_
  simp (maxSteps := 1000000) -implicitDefEqProofs only [go_sem, awp_seq, Nat.reduceBNe, Nat.reduceBEq, Nat.reduceAdd, Nat.reduceSub, Nat.reduceMul, Nat.reduceLeDiff, Nat.reduceLT, Nat.reduceEqDiff, Nat.reduceBneDiff, Int.reduceLE, Int.reduceLT, Int.reduceToNat, Int.reduceBEq, Int.reduceBNe, Int.reduceAdd, Int.reduceSub, Int.cast_ofNat_Int]
  refine callA_t N1 ?_
  simp (maxSteps := 1000000) -implicitDefEqProofs only [go_sem, awp_seq, Nat.reduceBNe, Nat.reduceBEq, Nat.reduceAdd, Nat.reduceSub, Nat.reduceMul, Nat.reduceLeDiff, Nat.reduceLT, Nat.reduceEqDiff, Nat.reduceBneDiff, Int.reduceLE, Int.reduceLT, Int.reduceToNat, Int.reduceBEq, Int.reduceBNe, Int.reduceAdd, Int.reduceSub, Int.cast_ofNat_Int]
  refine callA_t N2 ?_
  simp (maxSteps := 1000000) -implicitDefEqProofs only [toList_bs, bs_size, tb, l1, Bool.not_true, Bool.not_false, go_sem, awp_seq, Nat.reduceBNe, Nat.reduceBEq, Nat.reduceAdd, Nat.reduceSub, Nat.reduceMul, Nat.reduceLeDiff, Nat.reduceLT, Nat.reduceEqDiff, Nat.reduceBneDiff, Int.reduceLE, Int.reduceLT, Int.reduceToNat, Int.reduceBEq, Int.reduceBNe, Int.reduceAdd, Int.reduceSub, Int.cast_ofNat_Int]
  refine loop_mk (α := {k : Nat // k ≤ t.length}) (fun k => [(0, some (.av (str s))), (1, some (.av (itA it))), (3, some (.ref 3 0)), (4, some (.av (boo false))), (5, some (.av (str t))), (6, some (.av (i64 (k.1 : Nat))))]) (fun _ => [(3, itC it)]) (fun _ => []) (fun k => t.length - k.1) ⟨0, Nat.zero_le _⟩ ?_ ?_
  · simp (maxSteps := 1000000) -implicitDefEqProofs only [Int.cast_ofNat_Int, go_sem, awp_seq, Nat.reduceBNe, Nat.reduceBEq, Nat.reduceAdd, Nat.reduceSub, Nat.reduceMul, Nat.reduceLeDiff, Nat.reduceLT, Nat.reduceEqDiff, Nat.reduceBneDiff, Int.reduceLE, Int.reduceLT, Int.reduceToNat, Int.reduceBEq, Int.reduceBNe, Int.reduceAdd, Int.reduceSub, Int.cast_ofNat_Int]
  · rintro ⟨k, hk⟩
    by_cases hlt : k < t.length
    · have g1 : decide (((k : Nat) : Int) < (t.length : Nat)) = true := by simp; omega
      have e1 : t[k]? = some t[k] := List.getElem?_eq_getElem hlt
      have w1 : IntKind.i64.wrap ((k : Int) + 1) = ((k + 1 : Nat) : Int) := by rw [IntWalk.i64_in _ (by omega)]; omega
      have w2 : IntKind.i64.wrap (((t.length : Nat) : Int) - 1) = ((t.length : Nat) : Int) - 1 := by rw [IntWalk.i64_in _ (by omega)]
      have A := AT k hlt
      by_cases c32 : t[k] = 32
      · have q := A.1 c32
        have k1 : k - 1 < t.length := by omega
        have e2 : t[k - 1]? = some t[k - 1] := List.getElem?_eq_getElem k1
        have w3 : IntKind.i64.wrap (((k : Nat) : Int) - 1) = ((k - 1 : Nat) : Int) := by rw [IntWalk.i64_in _ (by omega)]; omega
        have z1 : (((k : Nat) : Int) == 0) = false := by simp; exact q.1
        have z2 : (((k : Nat) : Int) == ((t.length : Nat) : Int) - 1) = false := by
          rw [beq_eq_false_iff_ne]; have := q.2.1; omega
        have z3 : (((t[k - 1].toNat : Nat) : Int) == 32) = false := by
          rw [u32_beq]
          have := q.2.2
          rw [e2] at this
          simpa using this
        have z4 : (((t[k].toNat : Nat) : Int) == 32) = true := by rw [u32_beq]; simpa using c32
        have z5 : (((t[k].toNat : Nat) : Int) != 32) = false := by simp only [bne, z4, Bool.not_true]
        generalize t[k] = c at *
        generalize t[k - 1] = d at *
        simp (maxSteps := 1000000) -implicitDefEqProofs only [bs_size, strK_bs, g1, e1, e2, w1, w2, w3, z1, z2, z3, z4, z5, Int.toNat_natCast, Int.natCast_nonneg, go_sem, awp_seq, Nat.reduceBNe, Nat.reduceBEq, Nat.reduceAdd, Nat.reduceSub, Nat.reduceMul, Nat.reduceLeDiff, Nat.reduceLT, Nat.reduceEqDiff, Nat.reduceBneDiff, Int.reduceLE, Int.reduceLT, Int.reduceToNat, Int.reduceBEq, Int.reduceBNe, Int.reduceAdd, Int.reduceSub, Int.cast_ofNat_Int]
        refine roundK_mk ⟨k + 1, by omega⟩ ?_ (by show t.length - (k + 1) < t.length - k; omega)
        simp (maxSteps := 1000000) -implicitDefEqProofs only [go_sem, awp_seq, Nat.reduceBNe, Nat.reduceBEq, Nat.reduceAdd, Nat.reduceSub, Nat.reduceMul, Nat.reduceLeDiff, Nat.reduceLT, Nat.reduceEqDiff, Nat.reduceBneDiff, Int.reduceLE, Int.reduceLT, Int.reduceToNat, Int.reduceBEq, Int.reduceBNe, Int.reduceAdd, Int.reduceSub, Int.cast_ofNat_Int]
      · have q := A.2 c32
        have z4 : (((t[k].toNat : Nat) : Int) == 32) = false := by rw [u32_beq]; simpa using c32
        have z5 : (((t[k].toNat : Nat) : Int) != 32) = true := by simp only [bne, z4, Bool.not_false]
        generalize t[k] = c at *
        simp only [loB, dgB, Bool.or_eq_true, Bool.and_eq_true, decide_eq_true_eq] at q
        rcases q with q | q
        · have y1 : decide ((c.toNat : Int) < 97) = false := by simp; omega
          have y2 : decide ((122 : Int) < (c.toNat : Int)) = false := by simp; omega
          simp (maxSteps := 1000000) -implicitDefEqProofs only [bs_size, strK_bs, g1, e1, w1, y1, y2, z4, z5, Int.toNat_natCast, Int.natCast_nonneg, go_sem, awp_seq, Nat.reduceBNe, Nat.reduceBEq, Nat.reduceAdd, Nat.reduceSub, Nat.reduceMul, Nat.reduceLeDiff, Nat.reduceLT, Nat.reduceEqDiff, Nat.reduceBneDiff, Int.reduceLE, Int.reduceLT, Int.reduceToNat, Int.reduceBEq, Int.reduceBNe, Int.reduceAdd, Int.reduceSub, Int.cast_ofNat_Int]
          refine roundK_mk ⟨k + 1, by omega⟩ ?_ (by show t.length - (k + 1) < t.length - k; omega)
          simp (maxSteps := 1000000) -implicitDefEqProofs only [go_sem, awp_seq, Nat.reduceBNe, Nat.reduceBEq, Nat.reduceAdd, Nat.reduceSub, Nat.reduceMul, Nat.reduceLeDiff, Nat.reduceLT, Nat.reduceEqDiff, Nat.reduceBneDiff, Int.reduceLE, Int.reduceLT, Int.reduceToNat, Int.reduceBEq, Int.reduceBNe, Int.reduceAdd, Int.reduceSub, Int.cast_ofNat_Int]
        · have y1 : decide ((c.toNat : Int) < 97) = true := by simp; omega
          have y2 : decide ((c.toNat : Int) < 48) = false := by simp; omega
          have y3 : decide ((57 : Int) < (c.toNat : Int)) = false := by simp; omega
          simp (maxSteps := 1000000) -implicitDefEqProofs only [bs_size, strK_bs, g1, e1, w1, y1, y2, y3, z4, z5, Int.toNat_natCast, Int.natCast_nonneg, go_sem, awp_seq, Nat.reduceBNe, Nat.reduceBEq, Nat.reduceAdd, Nat.reduceSub, Nat.reduceMul, Nat.reduceLeDiff, Nat.reduceLT, Nat.reduceEqDiff, Nat.reduceBneDiff, Int.reduceLE, Int.reduceLT, Int.reduceToNat, Int.reduceBEq, Int.reduceBNe, Int.reduceAdd, Int.reduceSub, Int.cast_ofNat_Int]
          refine roundK_mk ⟨k + 1, by omega⟩ ?_ (by show t.length - (k + 1) < t.length - k; omega)
          simp (maxSteps := 1000000) -implicitDefEqProofs only [go_sem, awp_seq, Nat.reduceBNe, Nat.reduceBEq, Nat.reduceAdd, Nat.reduceSub, Nat.reduceMul, Nat.reduceLeDiff, Nat.reduceLT, Nat.reduceEqDiff, Nat.reduceBneDiff, Int.reduceLE, Int.reduceLT, Int.reduceToNat, Int.reduceBEq, Int.reduceBNe, Int.reduceAdd, Int.reduceSub, Int.cast_ofNat_Int]
    · have g1 : decide (((k : Nat) : Int) < (t.length : Nat)) = false := by simp; omega
      cases ci : itemE it != 0 with
      | true =>
        generalize itemE it = ie at *
        simp (maxSteps := 1000000) -implicitDefEqProofs only [bs_size, g1, go_sem, awp_seq, Nat.reduceBNe, Nat.reduceBEq, Nat.reduceAdd, Nat.reduceSub, Nat.reduceMul, Nat.reduceLeDiff, Nat.reduceLT, Nat.reduceEqDiff, Nat.reduceBneDiff, Int.reduceLE, Int.reduceLT, Int.reduceToNat, Int.reduceBEq, Int.reduceBNe, Int.reduceAdd, Int.reduceSub, Int.cast_ofNat_Int]
        refine callA_mk I ?_
        simp (maxSteps := 1000000) -implicitDefEqProofs only [ci, go_sem, awp_seq, Nat.reduceBNe, Nat.reduceBEq, Nat.reduceAdd, Nat.reduceSub, Nat.reduceMul, Nat.reduceLeDiff, Nat.reduceLT, Nat.reduceEqDiff, Nat.reduceBneDiff, Int.reduceLE, Int.reduceLT, Int.reduceToNat, Int.reduceBEq, Int.reduceBNe, Int.reduceAdd, Int.reduceSub, Int.cast_ofNat_Int]
        refine callA_mk AW ?_
        simp (maxSteps := 1000000) -implicitDefEqProofs only [go_sem, awp_seq, Nat.reduceBNe, Nat.reduceBEq, Nat.reduceAdd, Nat.reduceSub, Nat.reduceMul, Nat.reduceLeDiff, Nat.reduceLT, Nat.reduceEqDiff, Nat.reduceBneDiff, Int.reduceLE, Int.reduceLT, Int.reduceToNat, Int.reduceBEq, Int.reduceBNe, Int.reduceAdd, Int.reduceSub, Int.cast_ofNat_Int]
      | false =>
      have hi : itemE it = 0 := by simpa using ci
      rw [hi] at I
      cases h5 : it.kind == 5 with
      | false =>
        have n5 : (it.kind != 5) = true := by simp only [bne, h5, Bool.not_false]
        simp (maxSteps := 1000000) -implicitDefEqProofs only [bs_size, g1, go_sem, awp_seq, Nat.reduceBNe, Nat.reduceBEq, Nat.reduceAdd, Nat.reduceSub, Nat.reduceMul, Nat.reduceLeDiff, Nat.reduceLT, Nat.reduceEqDiff, Nat.reduceBneDiff, Int.reduceLE, Int.reduceLT, Int.reduceToNat, Int.reduceBEq, Int.reduceBNe, Int.reduceAdd, Int.reduceSub, Int.cast_ofNat_Int]
        refine callA_mk I ?_
        simp (maxSteps := 1000000) -implicitDefEqProofs only [c00, n5, go_sem, awp_seq, Nat.reduceBNe, Nat.reduceBEq, Nat.reduceAdd, Nat.reduceSub, Nat.reduceMul, Nat.reduceLeDiff, Nat.reduceLT, Nat.reduceEqDiff, Nat.reduceBneDiff, Int.reduceLE, Int.reduceLT, Int.reduceToNat, Int.reduceBEq, Int.reduceBNe, Int.reduceAdd, Int.reduceSub, Int.cast_ofNat_Int]
        refine callA_mk AW ?_
        simp (maxSteps := 1000000) -implicitDefEqProofs only [go_sem, awp_seq, Nat.reduceBNe, Nat.reduceBEq, Nat.reduceAdd, Nat.reduceSub, Nat.reduceMul, Nat.reduceLeDiff, Nat.reduceLT, Nat.reduceEqDiff, Nat.reduceBneDiff, Int.reduceLE, Int.reduceLT, Int.reduceToNat, Int.reduceBEq, Int.reduceBNe, Int.reduceAdd, Int.reduceSub, Int.cast_ofNat_Int]
      | true =>
        have n5 : (it.kind != 5) = false := by simp only [bne, h5, Bool.not_true]
        have TN := texts_norm hi h5
        have tl := h.texts
        have tll := h.textl
        have TS := TS hi h5
        have IO := item_ok hi
        have hp := IO.pts
        rw [TS] at SC
        have bad : ∀ k (hk : k < it.texts.length), (it.texts[k] == t) = true → it.texts.contains t = true := fun k hk hb => by
          rw [List.contains_iff_mem]
          rw [← eq_of_beq hb]
          exact List.getElem_mem hk
        simp (maxSteps := 1000000) -implicitDefEqProofs only [bs_size, g1, go_sem, awp_seq, Nat.reduceBNe, Nat.reduceBEq, Nat.reduceAdd, Nat.reduceSub, Nat.reduceMul, Nat.reduceLeDiff, Nat.reduceLT, Nat.reduceEqDiff, Nat.reduceBneDiff, Int.reduceLE, Int.reduceLT, Int.reduceToNat, Int.reduceBEq, Int.reduceBNe, Int.reduceAdd, Int.reduceSub, Int.cast_ofNat_Int]
        refine callA_mk I ?_
        simp (maxSteps := 1000000) -implicitDefEqProofs only [c00, n5, List.length_map, go_sem, awp_seq, Nat.reduceBNe, Nat.reduceBEq, Nat.reduceAdd, Nat.reduceSub, Nat.reduceMul, Nat.reduceLeDiff, Nat.reduceLT, Nat.reduceEqDiff, Nat.reduceBneDiff, Int.reduceLE, Int.reduceLT, Int.reduceToNat, Int.reduceBEq, Int.reduceBNe, Int.reduceAdd, Int.reduceSub, Int.cast_ofNat_Int]
        refine loop_mk (α := {k : Nat // k ≤ it.texts.length}) (fun k => [(0, some (.av (str s))), (3, some (.ref 3 0)), (4, some (.av (boo false))), (5, some (.av (str t))), (8, some (.av (boo ((it.texts.take k.1).contains t)))), (85, some (.av (strs it.texts))), (86, some (.av (i64 (it.texts.length : Nat)))), (87, some (.av (i64 (k.1 : Nat))))]) (fun _ => [(3, itC it)]) (fun _ => []) (fun k => it.texts.length - k.1) ⟨0, Nat.zero_le _⟩ ?_ ?_
        · simp (maxSteps := 1000000) -implicitDefEqProofs only [List.length_map, List.take_zero, List.contains_nil, Int.cast_ofNat_Int, go_sem, awp_seq, Nat.reduceBNe, Nat.reduceBEq, Nat.reduceAdd, Nat.reduceSub, Nat.reduceMul, Nat.reduceLeDiff, Nat.reduceLT, Nat.reduceEqDiff, Nat.reduceBneDiff, Int.reduceLE, Int.reduceLT, Int.reduceToNat, Int.reduceBEq, Int.reduceBNe, Int.reduceAdd, Int.reduceSub, Int.cast_ofNat_Int]
        · rintro ⟨j, hj⟩
          by_cases hjl : j < it.texts.length
          · have g2 : decide (((j : Nat) : Int) < (it.texts.length : Nat)) = true := by simp; omega
            have e1 := strs_get it.texts j
            rw [List.getElem?_eq_getElem hjl] at e1
            simp only [Option.map_some] at e1
            have w1 : IntKind.i64.wrap ((j : Int) + 1) = ((j + 1 : Nat) : Int) := by rw [IntWalk.i64_in _ (by omega)]; omega
            have NX := normal_c it.texts[j] (tll _ (List.getElem_mem hjl))
            rw [TN _ (List.getElem_mem hjl)] at NX
            have eC : (it.texts.take (j + 1)).contains t = ((it.texts.take j).contains t || (it.texts[j] == t)) := by
              rw [List.take_succ_eq_append_getElem hjl, List.contains_eq_any_beq, List.contains_eq_any_beq, List.any_append]
              simp only [List.any_cons, List.any_nil, Bool.or_false]
              congr 1
              rw [Bool.eq_iff_iff, beq_iff_eq, beq_iff_eq]
              exact eq_comm
            have xx : (it.texts[j] == it.texts[j]) = true := by simp
            generalize it.texts[j] = x at *
            generalize (it.texts.take j).contains t = r at *
            cases r with
            | true =>
              simp (maxSteps := 1000000) -implicitDefEqProofs only [List.length_map, g2, e1, w1, Int.toNat_natCast, Int.natCast_nonneg, go_sem, awp_seq, Nat.reduceBNe, Nat.reduceBEq, Nat.reduceAdd, Nat.reduceSub, Nat.reduceMul, Nat.reduceLeDiff, Nat.reduceLT, Nat.reduceEqDiff, Nat.reduceBneDiff, Int.reduceLE, Int.reduceLT, Int.reduceToNat, Int.reduceBEq, Int.reduceBNe, Int.reduceAdd, Int.reduceSub, Int.cast_ofNat_Int]
              refine callA_t NX ?_
              simp (maxSteps := 1000000) -implicitDefEqProofs only [toList_bs, xx, w1, Bool.not_true, go_sem, awp_seq, Nat.reduceBNe, Nat.reduceBEq, Nat.reduceAdd, Nat.reduceSub, Nat.reduceMul, Nat.reduceLeDiff, Nat.reduceLT, Nat.reduceEqDiff, Nat.reduceBneDiff, Int.reduceLE, Int.reduceLT, Int.reduceToNat, Int.reduceBEq, Int.reduceBNe, Int.reduceAdd, Int.reduceSub, Int.cast_ofNat_Int]
              refine roundK_mk ⟨j + 1, by omega⟩ ?_ (by show it.texts.length - (j + 1) < it.texts.length - j; omega)
              simp (maxSteps := 1000000) -implicitDefEqProofs only [eC, Bool.true_or, go_sem, awp_seq, Nat.reduceBNe, Nat.reduceBEq, Nat.reduceAdd, Nat.reduceSub, Nat.reduceMul, Nat.reduceLeDiff, Nat.reduceLT, Nat.reduceEqDiff, Nat.reduceBneDiff, Int.reduceLE, Int.reduceLT, Int.reduceToNat, Int.reduceBEq, Int.reduceBNe, Int.reduceAdd, Int.reduceSub, Int.cast_ofNat_Int]
            | false =>
              simp (maxSteps := 1000000) -implicitDefEqProofs only [List.length_map, g2, e1, w1, Int.toNat_natCast, Int.natCast_nonneg, go_sem, awp_seq, Nat.reduceBNe, Nat.reduceBEq, Nat.reduceAdd, Nat.reduceSub, Nat.reduceMul, Nat.reduceLeDiff, Nat.reduceLT, Nat.reduceEqDiff, Nat.reduceBneDiff, Int.reduceLE, Int.reduceLT, Int.reduceToNat, Int.reduceBEq, Int.reduceBNe, Int.reduceAdd, Int.reduceSub, Int.cast_ofNat_Int]
              refine callA_t NX ?_
              simp (maxSteps := 1000000) -implicitDefEqProofs only [toList_bs, xx, w1, Bool.not_true, go_sem, awp_seq, Nat.reduceBNe, Nat.reduceBEq, Nat.reduceAdd, Nat.reduceSub, Nat.reduceMul, Nat.reduceLeDiff, Nat.reduceLT, Nat.reduceEqDiff, Nat.reduceBneDiff, Int.reduceLE, Int.reduceLT, Int.reduceToNat, Int.reduceBEq, Int.reduceBNe, Int.reduceAdd, Int.reduceSub, Int.cast_ofNat_Int]
              refine roundK_mk ⟨j + 1, by omega⟩ ?_ (by show it.texts.length - (j + 1) < it.texts.length - j; omega)
              simp (maxSteps := 1000000) -implicitDefEqProofs only [eC, Bool.false_or, go_sem, awp_seq, Nat.reduceBNe, Nat.reduceBEq, Nat.reduceAdd, Nat.reduceSub, Nat.reduceMul, Nat.reduceLeDiff, Nat.reduceLT, Nat.reduceEqDiff, Nat.reduceBneDiff, Int.reduceLE, Int.reduceLT, Int.reduceToNat, Int.reduceBEq, Int.reduceBNe, Int.reduceAdd, Int.reduceSub, Int.cast_ofNat_Int]
          · have g2 : decide (((j : Nat) : Int) < (it.texts.length : Nat)) = false := by simp; omega
            have hj2 : it.texts.take j = it.texts := List.take_of_length_le (by omega)
            rw [hj2]
            have pp : (it.pts == it.pts) = true := by simp
            have btt : (true == true) = true := rfl
            have bff : (false == false) = true := rfl
            have p0 : ((0 : Int) == it.pts) = false := by rw [beq_eq_false_iff_ne]; omega
            cases c200 : decide ((200 : Int) < (s.length : Nat)) with
            | true =>
              rw [c200] at SC
              simp only [cond_true] at SC
              generalize it.texts.contains t = r at *
              simp (maxSteps := 1000000) -implicitDefEqProofs only [bs_size, g2, go_sem, awp_seq, Nat.reduceBNe, Nat.reduceBEq, Nat.reduceAdd, Nat.reduceSub, Nat.reduceMul, Nat.reduceLeDiff, Nat.reduceLT, Nat.reduceEqDiff, Nat.reduceBneDiff, Int.reduceLE, Int.reduceLT, Int.reduceToNat, Int.reduceBEq, Int.reduceBNe, Int.reduceAdd, Int.reduceSub, Int.cast_ofNat_Int]
              refine callA_mk SC ?_
              simp (maxSteps := 1000000) -implicitDefEqProofs only [bs_size, c200, c01, go_sem, awp_seq, Nat.reduceBNe, Nat.reduceBEq, Nat.reduceAdd, Nat.reduceSub, Nat.reduceMul, Nat.reduceLeDiff, Nat.reduceLT, Nat.reduceEqDiff, Nat.reduceBneDiff, Int.reduceLE, Int.reduceLT, Int.reduceToNat, Int.reduceBEq, Int.reduceBNe, Int.reduceAdd, Int.reduceSub, Int.cast_ofNat_Int]
              refine callA_mk AW ?_
              simp (maxSteps := 1000000) -implicitDefEqProofs only [go_sem, awp_seq, Nat.reduceBNe, Nat.reduceBEq, Nat.reduceAdd, Nat.reduceSub, Nat.reduceMul, Nat.reduceLeDiff, Nat.reduceLT, Nat.reduceEqDiff, Nat.reduceBneDiff, Int.reduceLE, Int.reduceLT, Int.reduceToNat, Int.reduceBEq, Int.reduceBNe, Int.reduceAdd, Int.reduceSub, Int.cast_ofNat_Int]
            | false =>
              rw [c200] at SC
              simp only [cond_false] at SC
              cases cr : it.texts.contains t with
              | true =>
                rw [cr] at SC
                simp only [cond_true] at SC
                simp (maxSteps := 1000000) -implicitDefEqProofs only [bs_size, g2, go_sem, awp_seq, Nat.reduceBNe, Nat.reduceBEq, Nat.reduceAdd, Nat.reduceSub, Nat.reduceMul, Nat.reduceLeDiff, Nat.reduceLT, Nat.reduceEqDiff, Nat.reduceBneDiff, Int.reduceLE, Int.reduceLT, Int.reduceToNat, Int.reduceBEq, Int.reduceBNe, Int.reduceAdd, Int.reduceSub, Int.cast_ofNat_Int]
                refine callA_mk SC ?_
                simp (maxSteps := 1000000) -implicitDefEqProofs only [bs_size, c200, c01, pp, cr, btt, go_sem, awp_seq, Nat.reduceBNe, Nat.reduceBEq, Nat.reduceAdd, Nat.reduceSub, Nat.reduceMul, Nat.reduceLeDiff, Nat.reduceLT, Nat.reduceEqDiff, Nat.reduceBneDiff, Int.reduceLE, Int.reduceLT, Int.reduceToNat, Int.reduceBEq, Int.reduceBNe, Int.reduceAdd, Int.reduceSub, Int.cast_ofNat_Int]
                refine callA_mk AW ?_
                simp (maxSteps := 1000000) -implicitDefEqProofs only [go_sem, awp_seq, Nat.reduceBNe, Nat.reduceBEq, Nat.reduceAdd, Nat.reduceSub, Nat.reduceMul, Nat.reduceLeDiff, Nat.reduceLT, Nat.reduceEqDiff, Nat.reduceBneDiff, Int.reduceLE, Int.reduceLT, Int.reduceToNat, Int.reduceBEq, Int.reduceBNe, Int.reduceAdd, Int.reduceSub, Int.cast_ofNat_Int]
              | false =>
                rw [cr] at SC
                simp only [cond_false] at SC
                simp (maxSteps := 1000000) -implicitDefEqProofs only [bs_size, g2, go_sem, awp_seq, Nat.reduceBNe, Nat.reduceBEq, Nat.reduceAdd, Nat.reduceSub, Nat.reduceMul, Nat.reduceLeDiff, Nat.reduceLT, Nat.reduceEqDiff, Nat.reduceBneDiff, Int.reduceLE, Int.reduceLT, Int.reduceToNat, Int.reduceBEq, Int.reduceBNe, Int.reduceAdd, Int.reduceSub, Int.cast_ofNat_Int]
                refine callA_mk SC ?_
                simp (maxSteps := 1000000) -implicitDefEqProofs only [bs_size, c200, c01, p0, cr, bff, go_sem, awp_seq, Nat.reduceBNe, Nat.reduceBEq, Nat.reduceAdd, Nat.reduceSub, Nat.reduceMul, Nat.reduceLeDiff, Nat.reduceLT, Nat.reduceEqDiff, Nat.reduceBneDiff, Int.reduceLE, Int.reduceLT, Int.reduceToNat, Int.reduceBEq, Int.reduceBNe, Int.reduceAdd, Int.reduceSub, Int.cast_ofNat_Int]
                refine callA_mk AW ?_
                simp (maxSteps := 1000000) -implicitDefEqProofs only [go_sem, awp_seq, Nat.reduceBNe, Nat.reduceBEq, Nat.reduceAdd, Nat.reduceSub, Nat.reduceMul, Nat.reduceLeDiff, Nat.reduceLT, Nat.reduceEqDiff, Nat.reduceBneDiff, Int.reduceLE, Int.reduceLT, Int.reduceToNat, Int.reduceBEq, Int.reduceBNe, Int.reduceAdd, Int.reduceSub, Int.cast_ofNat_Int]
end Go.Proofs.YtkmicjpoekbhfaaGreatDoor

/- Chapter 40: KeyingNormal for all arguments. -/
set_option linter.unusedSimpArgs false
set_option linter.unusedVariables false
namespace Go.Proofs.YtkmicjpoekbhfaaGreatDoor
open Go.RowKit Lim

theorem kNormal.law (as' : List AV) (h : OkA 1048576 [.str, shItem] as') : AC 6 as' (boo true) := by
  obtain ⟨a, b, rfl, h1, h2⟩ := okA_two h
  obtain ⟨s, rfl, hs⟩ := h1.s
  obtain ⟨it, rfl, hi⟩ := h2.item (by omega)
  exact keyingNormal_c s (by omega) it hi
end Go.Proofs.YtkmicjpoekbhfaaGreatDoor
