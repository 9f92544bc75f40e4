/- The contracts of nat, integer, ratio and decimal, one by one. -/
import Derived.Test.YtnifjdhjimjihaaGreatDoorBr
namespace Go.Proofs.YtnifjdhjimjihaaGreatDoor
open Go.RowKit Lim

theorem nof_c (n : Nat) (hn : n < 18446744073709551616) : AC 57 [u64 (n : Nat)] (natN n) := by
  refine AC.mk (by exact ⟨Tryz.f57, Tryz.func57, by kernel_rfl, rfl⟩) fun w Z vs hE hr => ?_
  obtain ⟨_, rfl, h1⟩ := reps1 hr
  rw [h1.lit_eq]
  refine (of_any n hn w).mono ?_
  rintro e w' ⟨A, c, rfl, o1, b1⟩
  exact ⟨_, rfl, b1, fun _ => o1.rep⟩
theorem ncmp_c {a b : AV} {n k : Nat} (ha : IsN a n) (hb : IsN b k) : AC 62 [a, b] (i64 (cmpI n k)) := by
  refine AC.mk (by exact ⟨Tryz.f62, Tryz.func62, by kernel_rfl, rfl⟩) fun w Z vs hE hr => ?_
  obtain ⟨_, _, rfl, h1, h2⟩ := reps2 hr
  obtain ⟨A1, c1, l1, rfl, i1⟩ := rep_natI ha h1
  obtain ⟨A2, c2, l2, rfl, i2⟩ := rep_natI hb h2
  refine (cmp_any _ _ _ _ _ _ _ _ w i1 i2).mono ?_
  rintro e w' ⟨rfl, m, rfl⟩
  exact ⟨_, rfl, below_drewN (Below.refl _ _) m, fun _ => .lit rfl⟩
theorem nnorm_c {a : AV} {n : Nat} (ha : IsN a n) : AC 69 [a] (natN n) := by
  refine AC.mk (by exact ⟨Tryz.f69, Tryz.func69, by kernel_rfl, rfl⟩) fun w Z vs hE hr => ?_
  obtain ⟨_, rfl, h1⟩ := reps1 hr
  obtain ⟨A1, c1, l1, rfl, i1⟩ := rep_natI ha h1
  refine (norm_any _ _ _ _ w i1).mono ?_
  rintro e w' ⟨A, c, rfl, o1, b1⟩
  exact ⟨_, rfl, b1, fun _ => o1.rep⟩
theorem nadd_c {a b : AV} {n k : Nat} (ha : IsN a n) (hb : IsN b k) : AC 58 [a, b] (natN (n + k)) := by
  refine AC.mk (by exact ⟨Tryz.f58, Tryz.func58, by kernel_rfl, rfl⟩) fun w Z vs hE hr => ?_
  obtain ⟨_, _, rfl, h1, h2⟩ := reps2 hr
  obtain ⟨A1, c1, l1, rfl, i1⟩ := rep_natI ha h1
  obtain ⟨A2, c2, l2, rfl, i2⟩ := rep_natI hb h2
  refine (add_any _ _ _ _ _ _ _ _ w i1 i2).mono ?_
  rintro e w' ⟨A, c, rfl, o1, b1⟩
  exact ⟨_, rfl, b1, fun _ => o1.rep⟩
theorem nmul_c {a b : AV} {n k : Nat} (ha : IsN a n) (hb : IsN b k) : AC 59 [a, b] (natN (n * k)) := by
  refine AC.mk (by exact ⟨Tryz.f59, Tryz.func59, by kernel_rfl, rfl⟩) fun w Z vs hE hr => ?_
  obtain ⟨_, _, rfl, h1, h2⟩ := reps2 hr
  obtain ⟨A1, c1, l1, rfl, i1⟩ := rep_natI ha h1
  obtain ⟨A2, c2, l2, rfl, i2⟩ := rep_natI hb h2
  refine (mul_any _ _ _ _ _ _ _ _ w i1 i2).mono ?_
  rintro e w' ⟨A, c, rfl, o1, b1⟩
  exact ⟨_, rfl, b1, fun _ => o1.rep⟩
theorem nsub_yes {a b : AV} {n k : Nat} (ha : IsN a n) (hb : IsN b k) (h : k ≤ n) : AC 71 [a, b] (.tup [natN (n - k), boo true]) := by
  refine AC.mk (by exact ⟨Tryz.f71, Tryz.func71, by kernel_rfl, rfl⟩) fun w Z vs hE hr => ?_
  obtain ⟨_, _, rfl, h1, h2⟩ := reps2 hr
  obtain ⟨A1, c1, l1, rfl, i1⟩ := rep_natI ha h1
  obtain ⟨A2, c2, l2, rfl, i2⟩ := rep_natI hb h2
  refine (sub_yes _ _ _ _ _ _ _ _ w i1 i2 h).mono ?_
  rintro e w' ⟨A, c, rfl, o1, b1⟩
  exact ⟨_, rfl, b1, fun _ => rept2 o1.rep (.lit rfl)⟩
theorem nsub_no {a b : AV} {n k : Nat} (ha : IsN a n) (hb : IsN b k) (h : n < k) : AC 71 [a, b] (.tup [.nat [], boo false]) := by
  refine AC.mk (by exact ⟨Tryz.f71, Tryz.func71, by kernel_rfl, rfl⟩) fun w Z vs hE hr => ?_
  obtain ⟨_, _, rfl, h1, h2⟩ := reps2 hr
  obtain ⟨A1, c1, l1, rfl, i1⟩ := rep_natI ha h1
  obtain ⟨A2, c2, l2, rfl, i2⟩ := rep_natI hb h2
  refine (sub_no _ _ _ _ _ _ _ _ w i1 i2 h).mono ?_
  rintro e w' ⟨rfl, b1⟩
  exact ⟨_, rfl, b1, fun _ => rept2 (Rep.nat (l := []) (Rd.nil _ _) (by simp)) (.lit rfl)⟩
theorem ndivmod_c {a b : AV} {n k : Nat} (ha : IsN a n) (hb : IsN b k) (h : 0 < k) : AC 70 [a, b] (.tup [natN (n / k), natN (n % k), boo true]) := by
  refine AC.mk (by exact ⟨Tryz.f70, Tryz.func70, by kernel_rfl, rfl⟩) fun w Z vs hE hr => ?_
  obtain ⟨_, _, rfl, h1, h2⟩ := reps2 hr
  obtain ⟨A1, c1, l1, rfl, i1⟩ := rep_natI ha h1
  obtain ⟨A2, c2, l2, rfl, i2⟩ := rep_natI hb h2
  refine (divmod_any _ _ _ _ _ _ _ _ w i1 i2 h).mono ?_
  rintro e w' ⟨A, c, B, d, rfl, o1, o2, b1⟩
  exact ⟨_, rfl, b1, fun _ => rept3 o1.rep o2.rep (.lit rfl)⟩
theorem npow_c {a : AV} {n : Nat} (ha : IsN a n) (k : Nat) (hk : k ≤ 512) (hl : k * nlen n + 1 < 1099511627776) : AC 72 [a, i64 (k : Nat)] (.tup [natN (n ^ k), boo true]) := by
  refine AC.mk (by exact ⟨Tryz.f72, Tryz.func72, by kernel_rfl, rfl⟩) fun w Z vs hE hr => ?_
  obtain ⟨_, _, rfl, h1, h2⟩ := reps2 hr
  obtain ⟨A1, c1, l1, rfl, i1⟩ := rep_natI ha h1
  rw [h2.lit_eq]
  refine (pow_any _ _ _ k _ w i1 hk hl).mono ?_
  rintro e w' ⟨A, c, rfl, o1, b1⟩
  exact ⟨_, rfl, b1, fun _ => rept2 o1.rep (.lit rfl)⟩
theorem nprint_c {a : AV} {n : Nat} (ha : IsN a n) (hl : nlen n < 1099511627776) : AC 60 [a] (str (Lib.decDigits n)) := by
  refine AC.mk (by exact ⟨Tryz.f60, Tryz.func60, by kernel_rfl, rfl⟩) fun w Z vs hE hr => ?_
  obtain ⟨_, rfl, h1⟩ := reps1 hr
  obtain ⟨A1, c1, l1, rfl, i1⟩ := rep_natI ha h1
  refine (nprint_any _ _ _ _ w i1 hE.tab hl).mono ?_
  rintro e w' ⟨rfl, b1⟩
  exact ⟨_, rfl, b1, fun _ => .lit rfl⟩
theorem imake_c (t : Bool) {a : AV} {n : Nat} (ha : IsN a n) : AC 31 [boo t, a] (intN (sg t n)) := by
  refine AC.mk (by exact ⟨Tryz.f31, Tryz.func31, by kernel_rfl, rfl⟩) fun w Z vs hE hr => ?_
  obtain ⟨_, _, rfl, h1, h2⟩ := reps2 hr
  rw [h1.lit_eq]
  obtain ⟨A1, c1, l1, rfl, i1⟩ := rep_natI ha h2
  refine (make_any _ _ _ _ _ w i1).mono ?_
  rintro e w' ⟨t, A, c, l, rfl, o1, b1⟩
  exact ⟨_, rfl, b1, fun _ => o1.rep⟩
theorem isign_c {a : AV} {z : Int} (ha : IsI a z) : AC 35 [a] (i64 (sgnI z)) := by
  refine AC.mk (by exact ⟨Tryz.f35, Tryz.func35, by kernel_rfl, rfl⟩) fun w Z vs hE hr => ?_
  obtain ⟨_, rfl, h1⟩ := reps1 hr
  obtain ⟨t1, A1, c1, l1, rfl, i1⟩ := rep_intI ha h1
  refine (sign_any _ _ _ _ _ w i1).mono ?_
  rintro e w' ⟨rfl, b1⟩
  exact ⟨_, rfl, b1, fun _ => .lit rfl⟩
theorem ineg_c {a : AV} {z : Int} (ha : IsI a z) : AC 21 [a] (intN (-z)) := by
  refine AC.mk (by exact ⟨Tryz.f21, Tryz.func21, by kernel_rfl, rfl⟩) fun w Z vs hE hr => ?_
  obtain ⟨_, rfl, h1⟩ := reps1 hr
  obtain ⟨t1, A1, c1, l1, rfl, i1⟩ := rep_intI ha h1
  refine (ineg_any _ _ _ _ _ w i1).mono ?_
  rintro e w' ⟨t, A, c, l, rfl, o1, b1⟩
  exact ⟨_, rfl, b1, fun _ => o1.rep⟩
theorem iof_c (z : Int) (h1 : -9223372036854775808 ≤ z) (h2 : z ≤ 9223372036854775807) : AC 38 [i64 z] (intN z) := by
  refine AC.mk (by exact ⟨Tryz.f38, Tryz.func38, by kernel_rfl, rfl⟩) fun w Z vs hE hr => ?_
  obtain ⟨_, rfl, h⟩ := reps1 hr
  rw [h.lit_eq]
  refine (iof_any z h1 h2 w).mono ?_
  rintro e w' ⟨t, A, c, l, rfl, o1, b1⟩
  exact ⟨_, rfl, b1, fun _ => o1.rep⟩
theorem icmp_c {a b : AV} {z y : Int} (ha : IsI a z) (hb : IsI b y) : AC 18 [a, b] (i64 (cmpZ z y)) := by
  refine AC.mk (by exact ⟨Tryz.f18, Tryz.func18, by kernel_rfl, rfl⟩) fun w Z vs hE hr => ?_
  obtain ⟨_, _, rfl, h1, h2⟩ := reps2 hr
  obtain ⟨t1, A1, c1, l1, rfl, i1⟩ := rep_intI ha h1
  obtain ⟨t2, A2, c2, l2, rfl, i2⟩ := rep_intI hb h2
  refine (icmp_any _ _ _ _ _ _ _ _ _ _ w i1 i2).mono ?_
  rintro e w' ⟨rfl, b1⟩
  exact ⟨_, rfl, b1, fun _ => .lit rfl⟩
theorem iadd_c {a b : AV} {z y : Int} (ha : IsI a z) (hb : IsI b y) (hl : max (nlen z.natAbs) (nlen y.natAbs) + 1 < 1099511627776) : AC 36 [a, b] (intN (z + y)) := by
  refine AC.mk (by exact ⟨Tryz.f36, Tryz.func36, by kernel_rfl, rfl⟩) fun w Z vs hE hr => ?_
  obtain ⟨_, _, rfl, h1, h2⟩ := reps2 hr
  obtain ⟨t1, A1, c1, l1, rfl, i1⟩ := rep_intI ha h1
  obtain ⟨t2, A2, c2, l2, rfl, i2⟩ := rep_intI hb h2
  refine (iadd_any _ _ _ _ _ _ _ _ _ _ w i1 i2 hl).mono ?_
  rintro e w' ⟨t, A, c, l, rfl, o1, b1⟩
  exact ⟨_, rfl, b1, fun _ => o1.rep⟩
theorem imul_c {a b : AV} {z y : Int} (ha : IsI a z) (hb : IsI b y) (hl : nlen z.natAbs + nlen y.natAbs < 1099511627776) : AC 33 [a, b] (intN (z * y)) := by
  refine AC.mk (by exact ⟨Tryz.f33, Tryz.func33, by kernel_rfl, rfl⟩) fun w Z vs hE hr => ?_
  obtain ⟨_, _, rfl, h1, h2⟩ := reps2 hr
  obtain ⟨t1, A1, c1, l1, rfl, i1⟩ := rep_intI ha h1
  obtain ⟨t2, A2, c2, l2, rfl, i2⟩ := rep_intI hb h2
  refine (imul_any _ _ _ _ _ _ _ _ _ _ w i1 i2 hl).mono ?_
  rintro e w' ⟨t, A, c, l, rfl, o1, b1⟩
  exact ⟨_, rfl, b1, fun _ => o1.rep⟩
theorem idivmod_c {a b : AV} {z y : Int} (ha : IsI a z) (hb : IsI b y) (hy : 0 < y) (hl : nlen z.natAbs + 2 < 1099511627776) : AC 32 [a, b] (.tup [intN (z / y), intN (z % y), boo true]) := by
  refine AC.mk (by exact ⟨Tryz.f32, Tryz.func32, by kernel_rfl, rfl⟩) fun w Z vs hE hr => ?_
  obtain ⟨_, _, rfl, h1, h2⟩ := reps2 hr
  obtain ⟨t1, A1, c1, l1, rfl, i1⟩ := rep_intI ha h1
  obtain ⟨t2, A2, c2, l2, rfl, i2⟩ := rep_intI hb h2
  refine (idivmod_any _ _ _ _ _ _ _ _ _ _ w i1 i2 hy hl).mono ?_
  rintro e w' ⟨t1, A1, c1, l1, t2, A2, c2, l2, rfl, o1, o2, b1⟩
  exact ⟨_, rfl, b1, fun _ => rept3 o1.rep o2.rep (.lit rfl)⟩
theorem iprint_c {a : AV} {z : Int} (ha : IsI a z) : AC 88 [a] (str (Lib.itoa z)) := by
  refine AC.mk (by exact ⟨Tryz.f88, Tryz.func88, by kernel_rfl, rfl⟩) fun w Z vs hE hr => ?_
  obtain ⟨_, rfl, h1⟩ := reps1 hr
  obtain ⟨t1, A1, c1, l1, rfl, i1⟩ := rep_intI ha h1
  refine (iprint_any _ _ _ _ _ w i1 hE.tab).mono ?_
  rintro e w' ⟨rfl, b1⟩
  exact ⟨_, rfl, b1, fun _ => .lit rfl⟩
theorem whole_c {a : AV} {n : Nat} (ha : IsN a n) : AC 65 [a] (intN (n : Int)) := by
  refine AC.mk (by exact ⟨Tryz.f65, Tryz.func65, by kernel_rfl, rfl⟩) fun w Z vs hE hr => ?_
  obtain ⟨_, rfl, h1⟩ := reps1 hr
  obtain ⟨A1, c1, l1, rfl, i1⟩ := rep_natI ha h1
  refine (whole_any _ _ _ _ w i1).mono ?_
  rintro e w' ⟨t, A, c, l, rfl, o1, b1⟩
  exact ⟨_, rfl, b1, fun _ => o1.rep⟩
theorem reduce_c {a b : AV} {z : Int} {d : Nat} (ha : IsI a z) (hb : IsN b d) (hd : 0 < d) : AC 64 [a, b] (ratN (rn z d) (rd z d)) := by
  refine AC.mk (by exact ⟨Tryz.f64, Tryz.func64, by kernel_rfl, rfl⟩) fun w Z vs hE hr => ?_
  obtain ⟨_, _, rfl, h1, h2⟩ := reps2 hr
  obtain ⟨t1, A1, c1, l1, rfl, i1⟩ := rep_intI ha h1
  obtain ⟨A2, c2, l2, rfl, i2⟩ := rep_natI hb h2
  refine (reduce_any _ _ _ _ _ _ _ _ _ w i1 i2 hd).mono ?_
  rintro e w' ⟨t, A, c, l, B, f, m, rfl, o1, o2, hm, b1⟩
  exact ⟨_, rfl, b1, fun _ => rat_rep o1 o2 hm⟩
theorem rnorm_c {a : AV} {z : Int} {d : Nat} (ha : IsR a z d) : AC 30 [a] (ratN (rn (pz z d) (pd d)) (rd (pz z d) (pd d))) := by
  refine AC.mk (by exact ⟨Tryz.f30, Tryz.func30, by kernel_rfl, rfl⟩) fun w Z vs hE hr => ?_
  obtain ⟨_, rfl, h1⟩ := reps1 hr
  obtain ⟨t1, A1, c1, l1, B1, f1, m1, rfl, i1⟩ := rep_ratI ha h1
  refine (rnorm_any _ _ _ _ _ _ _ _ _ w i1).mono ?_
  rintro e w' ⟨t, A, c, l, B, f, m, rfl, o1, o2, hm, b1⟩
  exact ⟨_, rfl, b1, fun _ => rat_rep o1 o2 hm⟩
theorem rneg_c {a : AV} {z : Int} {d : Nat} (ha : IsR a z d) : AC 20 [a] (ratN (rn (-pz z d) (pd d)) (rd (-pz z d) (pd d))) := by
  refine AC.mk (by exact ⟨Tryz.f20, Tryz.func20, by kernel_rfl, rfl⟩) fun w Z vs hE hr => ?_
  obtain ⟨_, rfl, h1⟩ := reps1 hr
  obtain ⟨t1, A1, c1, l1, B1, f1, m1, rfl, i1⟩ := rep_ratI ha h1
  refine (rneg_any _ _ _ _ _ _ _ _ _ w i1).mono ?_
  rintro e w' ⟨t, A, c, l, B, f, m, rfl, o1, o2, hm, b1⟩
  exact ⟨_, rfl, b1, fun _ => rat_rep o1 o2 hm⟩
theorem rabs_c {a : AV} {z : Int} {d : Nat} (ha : IsR a z d) : AC 25 [a] (ratN (rn ((pz z d).natAbs : Int) (pd d)) (rd ((pz z d).natAbs : Int) (pd d))) := by
  refine AC.mk (by exact ⟨Tryz.f25, Tryz.func25, by kernel_rfl, rfl⟩) fun w Z vs hE hr => ?_
  obtain ⟨_, rfl, h1⟩ := reps1 hr
  obtain ⟨t1, A1, c1, l1, B1, f1, m1, rfl, i1⟩ := rep_ratI ha h1
  refine (rabs_any _ _ _ _ _ _ _ _ _ w i1).mono ?_
  rintro e w' ⟨t, A, c, l, B, f, m, rfl, o1, o2, hm, b1⟩
  exact ⟨_, rfl, b1, fun _ => rat_rep o1 o2 hm⟩
theorem rcmp_c {a b : AV} {z y : Int} {d f : Nat} (ha : IsR a z d) (hb : IsR b y f) (hl1 : nlen z.natAbs + nlen f + 2 < 1099511627776) (hl2 : nlen y.natAbs + nlen d + 2 < 1099511627776) : AC 22 [a, b] (i64 (cmpZ (pz z d * (pd f : Int)) (pz y f * (pd d : Int)))) := by
  refine AC.mk (by exact ⟨Tryz.f22, Tryz.func22, by kernel_rfl, rfl⟩) fun w Z vs hE hr => ?_
  obtain ⟨_, _, rfl, h1, h2⟩ := reps2 hr
  obtain ⟨t1, A1, c1, l1, B1, f1, m1, rfl, i1⟩ := rep_ratI ha h1
  obtain ⟨t2, A2, c2, l2, B2, f2, m2, rfl, i2⟩ := rep_ratI hb h2
  refine (rcmp_any _ _ _ _ _ _ _ _ _ _ _ _ _ _ _ _ _ _ w i1 i2 hl1 hl2).mono ?_
  rintro e w' ⟨rfl, b1⟩
  exact ⟨_, rfl, b1, fun _ => .lit rfl⟩
theorem rmake_c {a b : AV} {z y : Int} (ha : IsI a z) (hb : IsI b y) (hy : y ≠ 0) : AC 66 [a, b] (.tup [ratN (rn (mz z y) y.natAbs) (rd (mz z y) y.natAbs), boo true]) := by
  refine AC.mk (by exact ⟨Tryz.f66, Tryz.func66, by kernel_rfl, rfl⟩) fun w Z vs hE hr => ?_
  obtain ⟨_, _, rfl, h1, h2⟩ := reps2 hr
  obtain ⟨t1, A1, c1, l1, rfl, i1⟩ := rep_intI ha h1
  obtain ⟨t2, A2, c2, l2, rfl, i2⟩ := rep_intI hb h2
  refine (rmake_any _ _ _ _ _ _ _ _ _ _ w i1 i2 hy).mono ?_
  rintro e w' ⟨t, A, c, l, B, f, m, rfl, o1, o2, hm, b1⟩
  exact ⟨_, rfl, b1, fun _ => rept2 (rat_rep o1 o2 hm) (.lit rfl)⟩
theorem rprint_c {a : AV} {z : Int} {d : Nat} (ha : IsR a z d) (hl : nlen d + 8 < 1099511627776) : AC 51 [a] (str (ratTx (rn (pz z d) (pd d)) (rd (pz z d) (pd d)))) := by
  refine AC.mk (by exact ⟨Tryz.f51, Tryz.func51, by kernel_rfl, rfl⟩) fun w Z vs hE hr => ?_
  obtain ⟨_, rfl, h1⟩ := reps1 hr
  obtain ⟨t1, A1, c1, l1, B1, f1, m1, rfl, i1⟩ := rep_ratI ha h1
  refine (rprint_any _ _ _ _ _ _ _ _ _ w i1 hE.tab hl).mono ?_
  rintro e w' ⟨rfl, b1⟩
  exact ⟨_, rfl, b1, fun _ => .lit rfl⟩
theorem dvalue_c {x y : AV} {z : Int} (ha : IsI (.agg [x, y]) z) (p : Nat) (hp : p ≤ 9) : AC 23 [.agg [x, y, i64 (p : Nat)]] (.tup [ratN (rn z (10 ^ p)) (rd z (10 ^ p)), i64 0]) := by
  refine AC.mk (by exact ⟨Tryz.f23, Tryz.func23, by kernel_rfl, rfl⟩) fun w Z vs hE hr => ?_
  obtain ⟨_, rfl, h1⟩ := reps1 hr
  obtain ⟨_, rfl, h1⟩ := rep_agg h1
  obtain ⟨_, _, _, rfl, h1, h2, h3⟩ := reps3 h1
  obtain ⟨t1, A1, c1, l1, e1, i1⟩ := rep_intI ha (rep2 h1 h2)
  injection e1 with e1
  obtain ⟨rfl, rfl⟩ : _ ∧ _ := by simpa using e1
  rw [h3.lit_eq]
  refine (value_any _ _ _ p _ _ w i1 hp).mono ?_
  rintro e w' ⟨t, A, c, l, B, f, m, rfl, o1, o2, hm, b1⟩
  exact ⟨_, rfl, b1, fun _ => rept2 (rat_rep o1 o2 hm) (.lit rfl)⟩
theorem dprint_c {x y : AV} {z : Int} (ha : IsI (.agg [x, y]) z) (p : Nat) (hp : p ≤ 9) : AC 17 [.agg [x, y, i64 (p : Nat)]] (.tup [str (decTx z p), i64 0]) := by
  refine AC.mk (by exact ⟨Tryz.f17, Tryz.func17, by kernel_rfl, rfl⟩) fun w Z vs hE hr => ?_
  obtain ⟨_, rfl, h1⟩ := reps1 hr
  obtain ⟨_, rfl, h1⟩ := rep_agg h1
  obtain ⟨_, _, _, rfl, h1, h2, h3⟩ := reps3 h1
  obtain ⟨t1, A1, c1, l1, e1, i1⟩ := rep_intI ha (rep2 h1 h2)
  injection e1 with e1
  obtain ⟨rfl, rfl⟩ : _ ∧ _ := by simpa using e1
  rw [h3.lit_eq]
  refine (dprint_any _ _ _ p _ _ w i1 hp hE.tab).mono ?_
  rintro e w' ⟨rfl, b1⟩
  exact ⟨_, rfl, b1, fun _ => rept2 (.lit rfl) (.lit rfl)⟩
theorem dround_c {a : AV} {z : Int} {d : Nat} (ha : IsR a z d) (p : Nat) (mode : Int) (hp : p ≤ 9) (hm1 : 1 ≤ mode) (hm2 : mode ≤ 7) (hl1 : nlen z.natAbs + 8 < 1099511627776) (hl2 : nlen d + 8 < 1099511627776) : AC 9 [a, i64 (p : Nat), i64 mode] (.tup [decN (rndU (rn (pz z d) (pd d)) (rd (pz z d) (pd d)) p mode) (p : Nat), i64 0]) := by
  refine AC.mk (by exact ⟨Tryz.f9, Tryz.func9, by kernel_rfl, rfl⟩) fun w Z vs hE hr => ?_
  obtain ⟨_, _, _, rfl, h1, h2, h3⟩ := reps3 hr
  obtain ⟨t1, A1, c1, l1, B1, f1, m1, rfl, i1⟩ := rep_ratI ha h1
  rw [h2.lit_eq, h3.lit_eq]
  refine (round_norm _ _ _ _ _ _ p _ _ _ mode w i1 hp hm1 hm2 hl1 hl2).mono ?_
  rintro e w' ⟨t, A, c, l, rfl, o1, b1⟩
  exact ⟨_, rfl, b1, fun _ => rept2 (dec_rep o1) (.lit rfl)⟩
theorem dround_range (t : Bool) (l m : List Nat) (places mode : Int) (h : places < 0 ∨ 9 < places) : AC 9 [ratA t l m, i64 places, i64 mode] (.tup [.agg [boo false, .nat [], i64 0], i64 3]) := by
  refine AC.mk (by exact ⟨Tryz.f9, Tryz.func9, by kernel_rfl, rfl⟩) fun w Z vs hE hr => ?_
  obtain ⟨_, _, _, rfl, h1, h2, h3⟩ := reps3 hr
  obtain ⟨_, rfl, h1⟩ := rep_agg h1
  obtain ⟨_, _, _, rfl, g1, g2, g3⟩ := reps3 h1
  rw [g1.lit_eq, h2.lit_eq, h3.lit_eq]
  obtain ⟨A1, c1, rfl, _, _⟩ := rep_nat g2
  obtain ⟨B1, f1, rfl, _, _⟩ := rep_nat g3
  refine (round_range _ _ _ _ _ _ _ places mode w h).mono ?_
  rintro e w' ⟨rfl, b1⟩
  exact ⟨_, rfl, b1, fun _ => rept2 (rep3 (.lit rfl) (Rep.nat (l := []) (Rd.nil _ _) (by simp)) (.lit rfl)) (.lit rfl)⟩
theorem dround_mode (t : Bool) (l m : List Nat) (places mode : Int) (h0 : 0 ≤ places) (h9 : places ≤ 9) (h : mode < 1 ∨ 7 < mode) : AC 9 [ratA t l m, i64 places, i64 mode] (.tup [.agg [boo false, .nat [], i64 0], i64 1]) := by
  refine AC.mk (by exact ⟨Tryz.f9, Tryz.func9, by kernel_rfl, rfl⟩) fun w Z vs hE hr => ?_
  obtain ⟨_, _, _, rfl, h1, h2, h3⟩ := reps3 hr
  obtain ⟨_, rfl, h1⟩ := rep_agg h1
  obtain ⟨_, _, _, rfl, g1, g2, g3⟩ := reps3 h1
  rw [g1.lit_eq, h2.lit_eq, h3.lit_eq]
  obtain ⟨A1, c1, rfl, _, _⟩ := rep_nat g2
  obtain ⟨B1, f1, rfl, _, _⟩ := rep_nat g3
  refine (round_mode _ _ _ _ _ _ _ places mode w h0 h9 h).mono ?_
  rintro e w' ⟨rfl, b1⟩
  exact ⟨_, rfl, b1, fun _ => rept2 (rep3 (.lit rfl) (Rep.nat (l := []) (Rd.nil _ _) (by simp)) (.lit rfl)) (.lit rfl)⟩
theorem isd_c (s : List UInt8) (hs : s.length ≤ 4611686018427387904) : AC 54 [str s] (boo (isDs s)) := by
  refine AC.mk (by exact ⟨Tryz.f54, Tryz.func54, by kernel_rfl, rfl⟩) fun w Z vs hE hr => ?_
  obtain ⟨_, rfl, h1⟩ := reps1 hr
  rw [h1.lit_eq]
  refine (isd_any s hs w).mono ?_
  rintro e w' ⟨rfl, rfl⟩
  exact ⟨_, rfl, Below.refl _ _, fun _ => .lit rfl⟩
theorem nparse_c (s : List UInt8) (hd : isDs s = true) (hz : ∀ h : 0 < s.length, ¬ ((s[0]'h).toNat = 48 ∧ 1 < s.length)) (hl : s.length ≤ 400) : AC 56 [str s] (.tup [natN (valD s), i64 0]) := by
  refine AC.mk (by exact ⟨Tryz.f56, Tryz.func56, by kernel_rfl, rfl⟩) fun w Z vs hE hr => ?_
  obtain ⟨_, rfl, h1⟩ := reps1 hr
  rw [h1.lit_eq]
  refine (nparse_ok s hd hz hl w).mono ?_
  rintro e w' ⟨A, c, rfl, o1, b1⟩
  exact ⟨_, rfl, b1, fun _ => rept2 o1.rep (.lit rfl)⟩
theorem power_c (p : Nat) (hp : p ≤ 9) : AC 34 [i64 (p : Nat)] (intN ((10 ^ p : Nat) : Int)) := by
  refine AC.mk (by exact ⟨Tryz.f34, Tryz.func34, by kernel_rfl, rfl⟩) fun w Z vs hE hr => ?_
  obtain ⟨_, rfl, h⟩ := reps1 hr
  rw [h.lit_eq]
  refine (power_any p hp w).mono ?_
  rintro e w' ⟨t, A, c, l, rfl, o1, b1⟩
  exact ⟨_, rfl, b1, fun _ => o1.rep⟩
end Go.Proofs.YtnifjdhjimjihaaGreatDoor
