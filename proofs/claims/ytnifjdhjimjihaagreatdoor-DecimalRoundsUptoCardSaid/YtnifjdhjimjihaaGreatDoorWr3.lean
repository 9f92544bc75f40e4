import Derived.Test.YtnifjdhjimjihaaGreatDoorWr2
/- The document's natural numbers, continued: Mul, Pow. -/
set_option linter.unusedSimpArgs false
set_option linter.unusedVariables false
namespace Go.Proofs.YtnifjdhjimjihaaGreatDoor
open Go.RowKit Lim

theorem mul_in {b p : List Nat} {i k c A V z y u v : Nat} (hk : i + k < p.length) (hz : p.getD (i + k) 0 = z) (hy : b.getD k 0 = y) (ht : z + A * y + c = u + 4294967296 * v)
    (h : val p + pw (i + k) * c = V + pw i * (A * val (b.take k))) : val (p.set (i + k) u) + pw (i + (k + 1)) * v = V + pw i * (A * val (b.take (k + 1))) := by
  have h1 := val_set p (i + k) u hk
  rw [show p[i + k] = z by rw [← hz, List.getD_eq_getElem?_getD, List.getElem?_eq_getElem hk]; rfl] at h1
  rw [take_getD, hy, ← Nat.add_assoc, pw_succ]
  rw [pw_add] at h h1 ⊢
  generalize val (p.set (i + k) u) = S at *
  generalize val p = T at *
  generalize val (b.take k) = W at *
  generalize pw i = P at *
  generalize pw k = Q at *
  have e3 : P * Q * (z + A * y + c) = P * Q * (u + 4294967296 * v) := by rw [ht]
  grind
theorem row_get {p : List Nat} {j N : Nat} (h : j < p.length) : (p ++ List.replicate N 0)[j]? = some (p.getD j 0) := by
  rw [List.getElem?_append_left h]; exact getD_some h
theorem row_set {p : List Nat} {j N x : Nat} (h : j < p.length) : (p ++ List.replicate (N - p.length) 0).set j x = p.set j x ++ List.replicate (N - (p.set j x).length) 0 := by
  rw [List.set_append_left _ _ h, List.length_set]
def frow (N : Nat) (p : List Nat) : List Nat := p ++ List.replicate (N - p.length) 0
theorem frow_len {N : Nat} {p : List Nat} (h : p.length ≤ N) : (frow N p).length = N := by simp [frow]; omega
theorem frow_get {N : Nat} {p : List Nat} {j : Nat} (h : j < p.length) : (frow N p)[j]? = some (p.getD j 0) := row_get h
theorem frow_set {N : Nat} {p : List Nat} {j x : Nat} (h : j < p.length) : (frow N p).set j x = frow N (p.set j x) := row_set h
theorem frow_put {N : Nat} {p : List Nat} {x j : Nat} (hj : j = p.length) (h : p.length < N) : (frow N p).set j x = frow N (p ++ [x]) := by
  subst hj; unfold frow; rw [set_fill p N x h]; simp
theorem frow_full {N : Nat} {p : List Nat} (h : p.length = N) : frow N p = p := by simp [frow, h]
theorem frow_start {N k : Nat} (h : k ≤ N) : List.replicate N 0 = frow N (List.replicate k 0) := by
  unfold frow; rw [List.replicate_append_replicate, List.length_replicate]; congr 1; omega
theorem prod_lt {x y z c : Nat} (hx : x < 4294967296) (hy : y < 4294967296) (hz : z < 4294967296) (hc : c < 4294967296) : z + x * y + c < 18446744073709551616 ∧ x * y < 18446744073709551616 ∧ z + x * y < 18446744073709551616 := by
  have : x * y ≤ 4294967295 * 4294967295 := Nat.mul_le_mul (by omega) (by omega)
  omega
set_option maxHeartbeats 4000000 in
theorem r1mul_c (a b : List Nat) (ha : Dig a) (hb : Dig b) (hlab : a.length + b.length < 1000000000000) : AT 76 [.nat a, .nat b] (natN (val a * val b)) := by
  have w0 : IntKind.i64.wrap ((a.length : Int) + (b.length : Int)) = ((a.length + b.length : Nat) : Int) := by rw [IntWalk.i64_in _ (by omega)]; omega
  generalize hN : a.length + b.length = N at *
  have m1 : (N : Int) * ((4 : Nat) : Int) ≤ 140737488355328 := by omega
  have m2 : (N : Int) ≤ 9223372036854775807 := by omega
  refine ACalls.of 10 (fn := Tryz.f76) Tryz.func76 rfl rfl rfl (by kernel_rfl) (by kernel_rfl) (Nat.le_of_ble_eq_true rfl) ?_
  simp -implicitDefEqProofs only [w0, Int.toNat_natCast, Int.natCast_nonneg, Int.le_refl, m1, m2, go_sem, awp_seq, Nat.reduceBNe, Nat.reduceBEq, Nat.reduceAdd, Nat.reduceSub, Nat.reduceMul, Nat.reduceLeDiff, Nat.reduceLT, Nat.reduceEqDiff, Nat.reduceBneDiff]
  refine loop_mk (α := {x : Nat × List Nat // x.1 ≤ a.length ∧ x.2.length = x.1 + b.length ∧ Dig x.2 ∧ val x.2 = val (a.take x.1) * val b}) (fun x => [(0, some (.av (.nat a))), (1, some (.av (.nat b))), (5, some (.osl 15 1 0 N)), (6, some (.av (i64 (x.1.1 : Nat))))]) (fun _ => []) (fun x => [(15, .limb 55 (frow N x.1.2))]) (fun x => a.length - x.1.1) ⟨(0, List.replicate b.length 0), by simp, by simp, dig_replicate _, by simp [val, val_replicate]⟩ ?_ ?_
  · simp -implicitDefEqProofs only [frow_start (show b.length ≤ N by omega), go_sem, awp_seq, Nat.reduceBNe, Nat.reduceBEq, Nat.reduceAdd, Nat.reduceSub, Nat.reduceMul, Nat.reduceLeDiff, Nat.reduceLT, Nat.reduceEqDiff, Nat.reduceBneDiff]
    exact rfl
  · rintro ⟨⟨i, p⟩, hi, hp, hdp, hv⟩
    dsimp only at hi hp hdp hv
    have p1 : IntKind.i64.wrap ((i : Int) + 1) = ((i + 1 : Nat) : Int) := by rw [IntWalk.i64_in _ (by omega)]; omega
    by_cases hlt : i < a.length
    · have f1 : decide ((i : Int) < (a.length : Nat)) = true := by simp; omega
      have dA := dig_getD ha i
      have hA := getD_some hlt
      have hTA := take_getD a i
      generalize a.getD i 0 = A at *
      have nA : IntKind.u64.wrap (A : Int) = (A : Int) := IntWalk.u64_in _ (by omega)
      simp -implicitDefEqProofs only [f1, go_sem, awp_seq, Nat.reduceBNe, Nat.reduceBEq, Nat.reduceAdd, Nat.reduceSub, Nat.reduceMul, Nat.reduceLeDiff, Nat.reduceLT, Nat.reduceEqDiff, Nat.reduceBneDiff]
      refine loop_mk (α := {x : Nat × List Nat × Nat // x.1 ≤ b.length ∧ x.2.1.length = i + b.length ∧ Dig x.2.1 ∧ x.2.2 < 4294967296 ∧ val x.2.1 + pw (i + x.1) * x.2.2 = val (a.take i) * val b + pw i * (A * val (b.take x.1))}) (fun x => [(0, some (.av (.nat a))), (1, some (.av (.nat b))), (5, some (.osl 15 1 0 N)), (6, some (.av (i64 (i : Nat)))), (7, some (.av (u64 (x.1.2.2 : Nat)))), (8, some (.av (i64 (x.1.1 : Nat))))]) (fun _ => []) (fun x => [(15, .limb 55 (frow N x.1.2.1))]) (fun x => b.length - x.1.1) ⟨(0, p, 0), by simp, hp, hdp, by simp, by simp [val, hv]⟩ ?_ ?_
      · simp -implicitDefEqProofs only [go_sem, awp_seq, Nat.reduceBNe, Nat.reduceBEq, Nat.reduceAdd, Nat.reduceSub, Nat.reduceMul, Nat.reduceLeDiff, Nat.reduceLT, Nat.reduceEqDiff, Nat.reduceBneDiff]
        exact ⟨rfl, rfl⟩
      · rintro ⟨⟨k, r, c⟩, hk, hr, hdr, hc, hw⟩
        dsimp only at hk hr hdr hc hw
        by_cases hklt : k < b.length
        · have g1 : decide ((k : Int) < (b.length : Nat)) = true := by simp; omega
          have q1 : IntKind.i64.wrap ((k : Int) + 1) = ((k + 1 : Nat) : Int) := by rw [IntWalk.i64_in _ (by omega)]; omega
          have q2 : IntKind.i64.wrap ((i : Int) + (k : Int)) = ((i + k : Nat) : Int) := by rw [IntWalk.i64_in _ (by omega)]; omega
          obtain ⟨y, hy⟩ : ∃ y, b.getD k 0 = y := ⟨_, rfl⟩
          obtain ⟨z, hz⟩ : ∃ z, r.getD (i + k) 0 = z := ⟨_, rfl⟩
          have dy := dig_getD hb k
          have dz := dig_getD hdr (i + k)
          have hgy := getD_some hklt
          have hgz := frow_get (N := N) (show i + k < r.length by omega)
          rw [hy] at dy hgy
          rw [hz] at dz hgz
          have hb3 := prod_lt dA dy dz hc
          have ny : IntKind.u64.wrap (y : Int) = (y : Int) := IntWalk.u64_in _ (by omega)
          have nz : IntKind.u64.wrap (z : Int) = (z : Int) := IntWalk.u64_in _ (by omega)
          have hin := fun u v ht => mul_in (A := A) (u := u) (v := v) (show i + k < r.length by omega) hz hy ht hw
          have n1 : IntKind.u64.wrap ((A : Int) * (y : Int)) = ((A * y : Nat) : Int) := by rw [← Int.natCast_mul, w64 hb3.2.1]
          have n2 : IntKind.u64.wrap ((z : Int) + ((A * y : Nat) : Int)) = ((z + A * y : Nat) : Int) := by rw [← Int.natCast_add, w64 hb3.2.2]
          have n3 : IntKind.u64.wrap (((z + A * y : Nat) : Int) + (c : Int)) = ((z + A * y + c : Nat) : Int) := by rw [← Int.natCast_add, w64 hb3.1]
          obtain ⟨t, ht⟩ : ∃ t, z + A * y + c = t := ⟨_, rfl⟩
          rw [ht] at n3 hb3 hin
          have m3 : ((t % 4294967296 : Nat) : Int) < 4294967296 := by omega
          have m4 : i + k < N := by omega
          simp -implicitDefEqProofs only [g1, q1, q2, nA, ny, nz, n1, n2, n3, hA, hgy, hgz, two32, shr32, w32, le32, Int.toNat_natCast, Int.natCast_nonneg, m3, m4, frow_len (show r.length ≤ N by omega), frow_set (show i + k < r.length by omega), go_sem, awp_seq, Nat.reduceBNe, Nat.reduceBEq, Nat.reduceAdd, Nat.reduceSub, Nat.reduceMul, Nat.reduceLeDiff, Nat.reduceLT, Nat.reduceEqDiff, Nat.reduceBneDiff]
          refine roundK_mk ⟨(k + 1, r.set (i + k) (t % 4294967296), t / 4294967296), ?_⟩ ?_ (by show b.length - (k + 1) < b.length - k; omega)
          · have h1 : t / 4294967296 < 4294967296 := by omega
            exact ⟨hklt, by simp [hr], dig_set hdr _ (by omega), h1, hin (t % 4294967296) (t / 4294967296) (by omega)⟩
          · simp -implicitDefEqProofs only [go_sem, awp_seq, Nat.reduceBNe, Nat.reduceBEq, Nat.reduceAdd, Nat.reduceSub, Nat.reduceMul, Nat.reduceLeDiff, Nat.reduceLT, Nat.reduceEqDiff, Nat.reduceBneDiff]
        · have g1 : decide ((b.length : Int) < (b.length : Nat)) = false := by simp
          obtain rfl : k = b.length := by omega
          have q2 : IntKind.i64.wrap ((i : Int) + (b.length : Int)) = ((i + b.length : Nat) : Int) := by rw [IntWalk.i64_in _ (by omega)]; omega
          have n5 : c % 4294967296 = c := Nat.mod_eq_of_lt hc
          have m3 : (c : Int) < 4294967296 := by omega
          have m4 : i + b.length < N := by omega
          simp -implicitDefEqProofs only [g1, q2, w32, n5, p1, Int.toNat_natCast, Int.natCast_nonneg, m3, m4, frow_len (show r.length ≤ N by omega), frow_put hr.symm (show r.length < N by omega), go_sem, awp_seq, Nat.reduceBNe, Nat.reduceBEq, Nat.reduceAdd, Nat.reduceSub, Nat.reduceMul, Nat.reduceLeDiff, Nat.reduceLT, Nat.reduceEqDiff, Nat.reduceBneDiff]
          refine roundK_mk ⟨(i + 1, r ++ [c]), ?_⟩ ?_ (by show a.length - (i + 1) < a.length - i; omega)
          · refine ⟨hlt, by simp [hr]; omega, dig_snoc hdr hc, ?_⟩
            show val (r ++ [c]) = val (a.take (i + 1)) * val b
            rw [val_snoc, hr, hw, List.take_length, hTA]
            grind
          · simp -implicitDefEqProofs only [go_sem, awp_seq, Nat.reduceBNe, Nat.reduceBEq, Nat.reduceAdd, Nat.reduceSub, Nat.reduceMul, Nat.reduceLeDiff, Nat.reduceLT, Nat.reduceEqDiff, Nat.reduceBneDiff]
    · have f1 : decide ((a.length : Int) < (a.length : Nat)) = false := by simp
      obtain rfl : i = a.length := by omega
      rw [List.take_length] at hv
      have hl : p.length = N := by omega
      have htake : p.take N = p := by rw [← hl, List.take_length]
      simp -implicitDefEqProofs only [f1, frow_full hl, htake, hl, Nat.le_refl, go_sem, awp_seq, Nat.reduceBNe, Nat.reduceBEq, Nat.reduceAdd, Nat.reduceSub, Nat.reduceMul, Nat.reduceLeDiff, Nat.reduceLT, Nat.reduceEqDiff, Nat.reduceBneDiff]
      refine callA_rowTT (r1norm_c p hdp (by omega)) ?_ ?_ <;> simp -implicitDefEqProofs only [hv, frow_full hl, htake, hl, go_sem, awp_seq, Nat.reduceBNe, Nat.reduceBEq, Nat.reduceAdd, Nat.reduceSub, Nat.reduceMul, Nat.reduceLeDiff, Nat.reduceLT, Nat.reduceEqDiff, Nat.reduceBneDiff]
theorem dig_one {n : Nat} (h : n < 4294967296) : Dig [n] := dig_cons.2 ⟨h, dig_nil⟩
theorem nlen_pow' (n k : Nat) : nlen (n ^ k) ≤ k * nlen n + 1 := by
  induction k with
  | zero => simp [nlen_one]
  | succ k ih =>
    rw [Nat.pow_succ, Nat.succ_mul]
    have := nlen_mul (n ^ k) n
    omega
set_option maxHeartbeats 2000000 in
theorem r1pow_c (a : List Nat) (ha : Dig a) (k : Nat) (hk : k ≤ 512) (hl : k * a.length + 600 < 1000000000) (hla : a.length < 1000000000) : AT 78 [.nat a, i64 (k : Nat)] (.tup [natN (val a ^ k), boo true]) := by
  have f1 : decide ((k : Int) < 0) = false := by simp
  have f2 : decide ((512 : Int) < (k : Nat)) = false := by simp; omega
  refine ACalls.of 8 (fn := Tryz.f78) Tryz.func78 rfl rfl rfl (by kernel_rfl) (by kernel_rfl) (Nat.le_of_ble_eq_true rfl) ?_
  simp -implicitDefEqProofs only [f1, f2, go_sem, awp_seq, Nat.reduceBNe, Nat.reduceBEq, Nat.reduceAdd, Nat.reduceSub, Nat.reduceMul, Nat.reduceLeDiff, Nat.reduceLT, Nat.reduceEqDiff, Nat.reduceBneDiff]
  refine callA_tt (r1of_c 1 (by omega)) ?_
  simp -implicitDefEqProofs only [go_sem, awp_seq, Nat.reduceBNe, Nat.reduceBEq, Nat.reduceAdd, Nat.reduceSub, Nat.reduceMul, Nat.reduceLeDiff, Nat.reduceLT, Nat.reduceEqDiff, Nat.reduceBneDiff]
  refine loop_mk (α := {j : Nat // j ≤ k}) (fun j => [(0, some (.av (.nat a))), (1, some (.av (i64 (k : Nat)))), (6, some (.av (natN (val a ^ j.1)))), (7, some (.av (i64 (j.1 : Nat))))]) (fun _ => []) (fun _ => []) (fun j => k - j.1) ⟨0, Nat.zero_le _⟩ ?_ ?_
  · simp -implicitDefEqProofs only [Nat.pow_zero, go_sem, awp_seq, Nat.reduceBNe, Nat.reduceBEq, Nat.reduceAdd, Nat.reduceSub, Nat.reduceMul, Nat.reduceLeDiff, Nat.reduceLT, Nat.reduceEqDiff, Nat.reduceBneDiff]
    exact rfl
  · rintro ⟨j, hj⟩
    by_cases hlt : j < k
    · have g1 : decide ((j : Int) < (k : Nat)) = true := by simp; omega
      have q1 : IntKind.i64.wrap ((j : Int) + 1) = ((j + 1 : Nat) : Int) := by rw [IntWalk.i64_in _ (by omega)]; omega
      have h1 := nlen_pow' (val a) j
      have h2 := nlen_val ha
      have h3 : j * nlen (val a) ≤ k * a.length := Nat.mul_le_mul hj h2
      simp -implicitDefEqProofs only [g1, go_sem, awp_seq, Nat.reduceBNe, Nat.reduceBEq, Nat.reduceAdd, Nat.reduceSub, Nat.reduceMul, Nat.reduceLeDiff, Nat.reduceLT, Nat.reduceEqDiff, Nat.reduceBneDiff]
      refine callA_tt (r1mul_c _ a (dig_limbs _) ha (by show nlen _ + _ < _; omega)) ?_
      simp -implicitDefEqProofs only [q1, val_limbs, ← Nat.pow_succ, go_sem, awp_seq, Nat.reduceBNe, Nat.reduceBEq, Nat.reduceAdd, Nat.reduceSub, Nat.reduceMul, Nat.reduceLeDiff, Nat.reduceLT, Nat.reduceEqDiff, Nat.reduceBneDiff]
      refine roundK_mk ⟨j + 1, hlt⟩ ?_ (by show k - (j + 1) < k - j; omega)
      simp -implicitDefEqProofs only [go_sem, awp_seq, Nat.reduceBNe, Nat.reduceBEq, Nat.reduceAdd, Nat.reduceSub, Nat.reduceMul, Nat.reduceLeDiff, Nat.reduceLT, Nat.reduceEqDiff, Nat.reduceBneDiff]
    · have g1 : decide ((k : Int) < (k : Nat)) = false := by simp
      obtain rfl : j = k := by omega
      simp -implicitDefEqProofs only [g1, go_sem, awp_seq, Nat.reduceBNe, Nat.reduceBEq, Nat.reduceAdd, Nat.reduceSub, Nat.reduceMul, Nat.reduceLeDiff, Nat.reduceLT, Nat.reduceEqDiff, Nat.reduceBneDiff]
end Go.Proofs.YtnifjdhjimjihaaGreatDoor
