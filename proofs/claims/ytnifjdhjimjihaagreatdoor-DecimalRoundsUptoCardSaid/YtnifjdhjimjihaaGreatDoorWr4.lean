import Derived.Test.YtnifjdhjimjihaaGreatDoorWr3
/- The document's natural numbers, continued: Shift, DivMod, Gcd. -/
set_option linter.unusedSimpArgs false
set_option linter.unusedVariables false
namespace Go.Proofs.YtnifjdhjimjihaaGreatDoor
open Go.RowKit Lim

theorem or_nat {z m sh : Nat} (hz : z < 2 ^ sh) : z ||| 2 ^ sh * m = z + 2 ^ sh * m := by
  rw [Nat.or_comm, ← Nat.two_pow_add_eq_or_of_lt hz, Nat.add_comm]
theorem binK_or32 {b : Bool} {z y : Nat} {K : Value → Prop} : binK b .or (.int .u32 (z : Int)) (.int .u32 (y : Int)) K = K (.int .u32 (((z % 4294967296 ||| y % 4294967296) % 4294967296 : Nat) : Int)) := by
  have h : (BitVec.ofInt IntKind.u32.bits (z : Int) ||| BitVec.ofInt IntKind.u32.bits (y : Int)).toNat = z % 4294967296 ||| y % 4294967296 := by
    rw [BitVec.ofInt_natCast, BitVec.ofInt_natCast, BitVec.toNat_or, BitVec.toNat_ofNat, BitVec.toNat_ofNat]
    rfl
  rw [binK_or, h, w32]
theorem or32 {z y m sh : Nat} (hz : z < 2 ^ sh) (hy : y = 2 ^ sh * m) (h : z + y < 4294967296) : (z % 4294967296 ||| y % 4294967296) % 4294967296 = z + y := by
  rw [Nat.mod_eq_of_lt (show z < 4294967296 by omega), Nat.mod_eq_of_lt (show y < 4294967296 by omega), hy, or_nat hz, ← hy, Nat.mod_eq_of_lt h]
theorem or32' {z y m sh : Nat} (hz : z < 2 ^ sh) (hy : y = 2 ^ sh * m) (h : z + y < 4294967296) : (y % 4294967296 ||| z % 4294967296) % 4294967296 = z + y := by
  rw [Nat.or_comm]; exact or32 hz hy h
theorem shift_next {a p : List Nat} {i w sh x z : Nat} (hi : a.getD i 0 = x) (hp : p.length = i + w + 1) (hz : p.getD (i + w) 0 = z) (h : val p = val (a.take i) * 2 ^ sh * pw w) :
    val (p.set (i + w) (z + x * 2 ^ sh % 4294967296) ++ [x * 2 ^ sh / 4294967296]) = val (a.take (i + 1)) * 2 ^ sh * pw w := by
  have h1 := val_set p (i + w) (z + x * 2 ^ sh % 4294967296) (by omega)
  rw [show p[i + w] = z by rw [← hz, List.getD_eq_getElem?_getD, List.getElem?_eq_getElem (show i + w < p.length by omega)]; rfl] at h1
  rw [val_snoc, List.length_set, hp, take_getD, hi, pw_succ]
  rw [pw_add] at h1 ⊢
  have e : x * 2 ^ sh = x * 2 ^ sh % 4294967296 + 4294967296 * (x * 2 ^ sh / 4294967296) := by omega
  generalize x * 2 ^ sh % 4294967296 = u at *
  generalize x * 2 ^ sh / 4294967296 = v at *
  generalize val (p.set (i + w) (z + u)) = V at *
  generalize 2 ^ sh = T at *
  generalize pw i = P at *
  generalize pw w = Q at *
  have e2 : P * Q * (x * T) = P * Q * (u + 4294967296 * v) := by rw [← e]
  grind
set_option maxHeartbeats 4000000 in
theorem r1shift_c (a : List Nat) (n : Nat) (ha : Dig a) (hla : a.length < 100000000000) (hn : n < 10000000000000) : AT 142 [.nat a, i64 (n : Nat)] (natN (val a * 2 ^ n)) := by
  obtain ⟨w, hw⟩ : ∃ w, n / 32 = w := ⟨_, rfl⟩
  obtain ⟨sh, hsh⟩ : ∃ sh, n % 32 = sh := ⟨_, rfl⟩
  have hn2 : n = 32 * w + sh := by omega
  have d1 : IntKind.i64.wrap ((n : Int).tdiv 32) = (w : Int) := by rw [Int.tdiv_eq_ediv_of_nonneg (by omega), IntWalk.i64_in _ (by omega)]; omega
  have d2 : (n : Int).tmod 32 = (sh : Int) := by rw [Int.tmod_eq_emod_of_nonneg (by omega)]; omega
  have d3 : IntKind.u64.wrap (sh : Int) = (sh : Int) := IntWalk.u64_in _ (by omega)
  have d4 : min sh 64 = sh := by omega
  have d5 : ¬ ((32 : Int) = 0) := by omega
  have w0 : IntKind.i64.wrap ((a.length : Int) + (w : Int)) = ((a.length + w : Nat) : Int) := by rw [IntWalk.i64_in _ (by omega)]; omega
  have w1 : IntKind.i64.wrap (((a.length + w : Nat) : Int) + 1) = ((a.length + w + 1 : Nat) : Int) := by rw [IntWalk.i64_in _ (by omega)]; omega
  generalize hN : a.length + w + 1 = N at *
  have m1 : (N : Int) * ((4 : Nat) : Int) ≤ 140737488355328 := by omega
  have m2 : (N : Int) ≤ 9223372036854775807 := by omega
  have hpow : 2 ^ n = 2 ^ sh * pw w := by rw [hn2, Nat.pow_add, pw_two, Nat.mul_comm]
  have hT : 2 ^ sh ≤ 2147483648 := by
    have : 2 ^ sh ≤ 2 ^ 31 := Nat.pow_le_pow_right (by omega) (by omega)
    omega
  have hB : 4294967296 = 2 ^ sh * 2 ^ (32 - sh) := by rw [← Nat.pow_add, show sh + (32 - sh) = 32 by omega]
  refine ACalls.of 8 (fn := Tryz.f142) Tryz.func142 rfl rfl rfl (by kernel_rfl) (by kernel_rfl) (Nat.le_of_ble_eq_true rfl) ?_
  simp -implicitDefEqProofs only [d1, d5, w0, w1, Int.toNat_natCast, Int.natCast_nonneg, Int.le_refl, m1, m2, go_sem, awp_seq, Nat.reduceBNe, Nat.reduceBEq, Nat.reduceAdd, Nat.reduceSub, Nat.reduceMul, Nat.reduceLeDiff, Nat.reduceLT, Nat.reduceEqDiff, Nat.reduceBneDiff]
  refine loop_mk (α := {x : Nat × List Nat // x.1 ≤ a.length ∧ x.2.length = x.1 + w + 1 ∧ Dig x.2 ∧ val x.2 = val (a.take x.1) * 2 ^ sh * pw w ∧ x.2.getD (x.1 + w) 0 < 2 ^ sh}) (fun x => [(0, some (.av (.nat a))), (1, some (.av (i64 (n : Nat)))), (5, some (.osl 14 1 0 N)), (6, some (.av (i64 (x.1.1 : Nat))))]) (fun _ => []) (fun x => [(14, .limb 55 (frow N x.1.2))]) (fun x => a.length - x.1.1) ⟨(0, List.replicate (w + 1) 0), by simp, by simp, dig_replicate _, by simp [val, val_replicate], by simp [Nat.two_pow_pos]⟩ ?_ ?_
  · simp -implicitDefEqProofs only [frow_start (show w + 1 ≤ N by omega), go_sem, awp_seq, Nat.reduceBNe, Nat.reduceBEq, Nat.reduceAdd, Nat.reduceSub, Nat.reduceMul, Nat.reduceLeDiff, Nat.reduceLT, Nat.reduceEqDiff, Nat.reduceBneDiff]
    exact rfl
  · rintro ⟨⟨i, p⟩, hi, hp, hdp, hv, htop⟩
    dsimp only at hi hp hdp hv htop
    by_cases hlt : i < a.length
    · have f1 : decide ((i : Int) < (a.length : Nat)) = true := by simp; omega
      have p1 : IntKind.i64.wrap ((i : Int) + 1) = ((i + 1 : Nat) : Int) := by rw [IntWalk.i64_in _ (by omega)]; omega
      have q2 : IntKind.i64.wrap ((i : Int) + (w : Int)) = ((i + w : Nat) : Int) := by rw [IntWalk.i64_in _ (by omega)]; omega
      have q3 : IntKind.i64.wrap (((i + w : Nat) : Int) + 1) = ((i + w + 1 : Nat) : Int) := by rw [IntWalk.i64_in _ (by omega)]; omega
      obtain ⟨x, hx⟩ : ∃ x, a.getD i 0 = x := ⟨_, rfl⟩
      obtain ⟨z, hz⟩ : ∃ z, p.getD (i + w) 0 = z := ⟨_, rfl⟩
      have dx := dig_getD ha i
      have hgx := getD_some hlt
      have hgz := frow_get (N := N) (show i + w < p.length by omega)
      rw [hx] at dx hgx
      rw [hz] at htop hgz
      have hnext := shift_next hx hp hz hv
      have hxT : x * 2 ^ sh < 4294967296 * 2 ^ sh := Nat.mul_lt_mul_of_pos_right dx (Nat.two_pow_pos _)
      have nx : IntKind.u64.wrap (x : Int) = (x : Int) := IntWalk.u64_in _ (by omega)
      have n1 : IntKind.u64.wrap ((x : Int) * 2 ^ sh) = ((x * 2 ^ sh : Nat) : Int) := by
        rw [show (x : Int) * 2 ^ sh = ((x * 2 ^ sh : Nat) : Int) by simp, w64 (by omega)]
      have hmod : ∃ mm, x * 2 ^ sh % 4294967296 = 2 ^ sh * mm := by
        refine ⟨x % 2 ^ (32 - sh), ?_⟩
        rw [hB, Nat.mul_comm x, Nat.mul_mod_mul_left]
      have hdivT : x * 2 ^ sh / 4294967296 < 2 ^ sh := Nat.div_lt_of_lt_mul hxT
      obtain ⟨mm, hmm⟩ := hmod
      have hsum : z + 2 ^ sh * mm < 4294967296 := by
        have h1 : 2 ^ sh * mm < 2 ^ sh * 2 ^ (32 - sh) := by rw [← hmm, ← hB]; omega
        have h2 : mm < 2 ^ (32 - sh) := Nat.lt_of_mul_lt_mul_left h1
        have h3 : 2 ^ sh * (mm + 1) ≤ 2 ^ sh * 2 ^ (32 - sh) := Nat.mul_le_mul_left _ h2
        rw [Nat.mul_add, Nat.mul_one, ← hB] at h3
        omega
      rw [← hmm] at hsum
      have hor := or32 htop hmm hsum
      generalize x * 2 ^ sh = X at *
      have m3 : ((z + X % 4294967296 : Nat) : Int) < 4294967296 := by omega
      have n6 : (z + X % 4294967296) % 4294967296 = z + X % 4294967296 := Nat.mod_eq_of_lt hsum
      have n5 : X / 4294967296 % 4294967296 = X / 4294967296 := Nat.mod_eq_of_lt (by omega)
      have m4 : ((X / 4294967296 : Nat) : Int) < 4294967296 := by omega
      have m5 : i + w < N := by omega
      have m6 : i + w + 1 < N := by omega
      have l1 : (p.set (i + w) (z + X % 4294967296)).length = i + w + 1 := by simp [hp]
      simp -implicitDefEqProofs only [f1, d1, d2, d3, d4, d5, p1, q2, q3, nx, n1, hgx, hgz, binK_or32, hor, two32, shr32, w32, n5, n6, le32, Int.toNat_natCast, Int.natCast_nonneg, m3, m4, m5, m6, frow_len (show p.length ≤ N by omega), frow_set (show i + w < p.length by omega), frow_len (show (p.set (i + w) (z + X % 4294967296)).length ≤ N by omega), frow_put l1.symm (show (p.set (i + w) (z + X % 4294967296)).length < N by omega), go_sem, awp_seq, Nat.reduceBNe, Nat.reduceBEq, Nat.reduceAdd, Nat.reduceSub, Nat.reduceMul, Nat.reduceLeDiff, Nat.reduceLT, Nat.reduceEqDiff, Nat.reduceBneDiff]
      refine roundK_mk ⟨(i + 1, p.set (i + w) (z + X % 4294967296) ++ [X / 4294967296]), ?_⟩ ?_ (by show a.length - (i + 1) < a.length - i; omega)
      · refine ⟨hlt, by simp [hp]; omega, dig_snoc (dig_set hdp _ (by omega)) (by omega), hnext, ?_⟩
        show (p.set (i + w) (z + X % 4294967296) ++ [X / 4294967296]).getD (i + 1 + w) 0 < 2 ^ sh
        rw [List.getD_eq_getElem?_getD, List.getElem?_append_right (by omega), l1, show i + 1 + w - (i + w + 1) = 0 by omega]
        simpa using hdivT
      · simp -implicitDefEqProofs only [go_sem, awp_seq, Nat.reduceBNe, Nat.reduceBEq, Nat.reduceAdd, Nat.reduceSub, Nat.reduceMul, Nat.reduceLeDiff, Nat.reduceLT, Nat.reduceEqDiff, Nat.reduceBneDiff]
    · have f1 : decide ((a.length : Int) < (a.length : Nat)) = false := by simp
      obtain rfl : i = a.length := by omega
      rw [List.take_length, Nat.mul_assoc, ← hpow] at hv
      have hl : p.length = N := by omega
      have htake : p.take N = p := by rw [← hl, List.take_length]
      simp -implicitDefEqProofs only [f1, frow_full hl, htake, hl, Nat.le_refl, go_sem, awp_seq, Nat.reduceBNe, Nat.reduceBEq, Nat.reduceAdd, Nat.reduceSub, Nat.reduceMul, Nat.reduceLeDiff, Nat.reduceLT, Nat.reduceEqDiff, Nat.reduceBneDiff]
      refine callA_rowTT (r1norm_c p hdp (by omega)) ?_ ?_ <;> simp -implicitDefEqProofs only [hv, frow_full hl, htake, hl, go_sem, awp_seq, Nat.reduceBNe, Nat.reduceBEq, Nat.reduceAdd, Nat.reduceSub, Nat.reduceMul, Nat.reduceLeDiff, Nat.reduceLT, Nat.reduceEqDiff, Nat.reduceBneDiff]
end Go.Proofs.YtnifjdhjimjihaaGreatDoor
