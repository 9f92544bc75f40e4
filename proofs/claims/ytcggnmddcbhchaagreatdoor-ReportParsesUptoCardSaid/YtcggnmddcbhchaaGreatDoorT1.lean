import Derived.Test.YtcggnmddcbhchaaGreatDoorSXM
import Derived.Test.YtcggnmddcbhchaaGreatDoorSXI
import Derived.Test.YtcggnmddcbhchaaGreatDoorSWz
import Derived.Lib.ItoaLen
import Derived.Test.YtcggnmddcbhchaaGreatDoorSXL
import Derived.Lib.IndexMore
/- Texts merged: Ya Ym Yb Yc Yn Yp Yo Yq Ys Yt Yu Yv Yw Yx Yy Zm XO Zn Zq. -/
set_option linter.unusedSimpArgs false
set_option linter.unusedVariables false
namespace Go.Proofs.YtcggnmddcbhchaaGreatDoor
open Go.RowKit Lim
theorem log2_le {a b : Nat} (h : a ≤ b) : Nat.log2 a ≤ Nat.log2 b := by
 by_cases ha : a = 0
 ·subst ha; simp
 ·have hb : b ≠ 0 := by omega
  exact (Nat.le_log2 hb).2 (Nat.le_trans (Nat.log2_self_le ha) h)
theorem log2_val {l : List Nat} (h : Dig l) : Nat.log2 (val l) ≤ 32 * l.length := by
 by_cases hv : val l = 0
 ·rw [hv]; simp
 ·have h1 := val_lt h
  have h2 : pw l.length = 2 ^ (32 * l.length) := by unfold pw; rw [Nat.pow_mul]
  rw [h2] at h1
  exact Nat.le_of_lt ((Nat.log2_lt hv).2 h1)
theorem capN_ok {l : List Nat} (hd : Dig l) (hl : l.length ≤ 1073741824) : capN l = true := by
 have := log2_val hd
 unfold capN
 rw [Bool.and_eq_true]
 refine ⟨Nat.ble_eq_true_of_le ?_, Nat.ble_eq_true_of_le ?_⟩ <;> omega
theorem capN_K {n : Nat} (h : Nat.log2 n ≤ 34359738368) : capN (limbsK n) = true := by
 have := nlen_log n
 unfold capN
 rw [Bool.and_eq_true, limbsK_eq, val_limbs]
 refine ⟨Nat.ble_eq_true_of_le ?_, Nat.ble_eq_true_of_le ?_⟩
 ·have : (limbs n).length = nlen n := rfl
  omega
 ·omega
theorem capN_nil : capN [] = true := by
 unfold capN
 rw [Bool.and_eq_true]
 exact ⟨Nat.ble_eq_true_of_le (by simp), Nat.ble_eq_true_of_le (by rw [val_nil]; simp)⟩
theorem val_K (n : Nat) : val (limbsK n) = n := by rw [limbsK_eq, val_limbs]
theorem capU_ok {z : Int} (h1 : 0 ≤ z) (h2 : z < 18446744073709551616) : capU z = true := by
 unfold capU
 rw [Bool.and_eq_true]
 exact ⟨decide_eq_true h1, decide_eq_true h2⟩
theorem strB_s {m n : Nat} (h : m + n ≤ 4294967296) : strB m n = true := strB_le (by omega)
theorem sg_own (z : Int) : sg (decide (z < 0)) z.natAbs = z := by
 unfold sg
 by_cases h : z < 0
 ·rw [decide_eq_true h]; simp; omega
 ·rw [decide_eq_false h]; simp; omega
structure Q3 where
 t : Bool
 a : List Nat
 b : List Nat
namespace Q3
def z (q : Q3) : Int := pz (sg q.t (val q.a)) (val q.b)
def d (q : Q3) : Nat := pd (val q.b)
structure OK (q : Q3) : Prop where
 da : Dig q.a
 db : Dig q.b
 la : q.a.length ≤ 1048577
 lb : q.b.length ≤ 1048577
theorem OK.ca {q : Q3} (h : q.OK) : capN q.a = true := capN_ok h.da (by have := h.la; omega)
theorem OK.cb {q : Q3} (h : q.OK) : capN q.b = true := capN_ok h.db (by have := h.lb; omega)
theorem d_pos (q : Q3) : 0 < q.d := by unfold d pd; split <;> omega
def eq (p q : Q3) : Bool := decide (p.z * (q.d : Int) = q.z * (p.d : Int))
def n (q : Q3) : Int := rn q.z q.d
def m (q : Q3) : Nat := rd q.z q.d
def tx (q : Q3) : List UInt8 := ratK q.n q.m
def long (q : Q3) : Bool := decide (400 < (decK q.n.natAbs).length) || decide (400 < (decK q.m).length)
theorem n_abs (q : Q3) : q.n.natAbs = q.z.natAbs / Nat.gcd q.z.natAbs q.d := by
 unfold n rn sg
 generalize q.z.natAbs / Nat.gcd q.z.natAbs q.d = k
 split
 ·rw [Int.natAbs_neg, Int.natAbs_natCast]
 ·rw [Int.natAbs_natCast]
theorem n_le (q : Q3) : q.n.natAbs ≤ val q.a := by
 rw [n_abs]
 refine Nat.le_trans (Nat.div_le_self _ _) ?_
 unfold z pz sg
 split
 ·simp
 ·split <;> omega
structure Sc (p q : Q3) : Prop where
 ex : ∃ k : Nat, 0 < k ∧ q.z = p.z * (k : Int) ∧ q.d = p.d * k
theorem tx_len {q : Q3} (h : q.long = false) : q.tx.length ≤ 802 := by
 unfold long at h
 rw [Bool.or_eq_false_iff] at h
 have h1 := of_decide_eq_false h.1
 have h2 := of_decide_eq_false h.2
 have h3 : (itoaK q.n).length ≤ 401 := by
  unfold itoaK
  by_cases hn : q.n < 0
  ·rw [decide_eq_true hn, cond_true, List.length_cons]; omega
  ·rw [decide_eq_false hn, cond_false]
   have : q.n.toNat = q.n.natAbs := by omega
   rw [this]; omega
 unfold tx ratK
 cases Nat.beq q.m 1 with
 | true => rw [cond_true]; omega
 | false => rw [cond_false]; simp only [List.length_append, List.length_cons, List.length_nil]; omega
end Q3
end Go.Proofs.YtcggnmddcbhchaaGreatDoor
set_option linter.unusedSimpArgs false
set_option linter.unusedVariables false
namespace Go.Proofs.YtcggnmddcbhchaaGreatDoor
open Go.RowKit Lim
theorem Valid_m {F : Nat} (n0 : Nat) (x0_0 : Bool) (x0_1 x0_2 : List Nat) (x0_3 : Bool) (x0_4 x0_5 : List Nat) (x0_6 x0_7 x0_8 x0_9 x0_10 x0_11 : Int) : EF F (n0 + 1) 11 [.o (.agg (cL x0_0 x0_1 x0_2 x0_3 x0_4 x0_5 x0_6 x0_7 x0_8 x0_9 x0_10 x0_11))] [.c (.int .i64)] = unwrapA ((EF F n0 32 [.o (.agg [⟨tB, x0_3⟩, ⟨tN, x0_4⟩, ⟨tN, x0_5⟩])] [.c (tI)]).bind fun x => bif decide (x.1 < 0) then some (.ret (3, ())) else (EF F n0 33 [vI x0_6, vI 1000] [.c tB]).bind fun x => bif x.1 then some (.ret (3, ())) else (EF F n0 33 [vI x0_7, vI 1000] [.c tB]).bind fun x => bif x.1 then some (.ret (3, ())) else (EF F n0 33 [vI x0_8, vI 1000000] [.c tB]).bind fun x => bif x.1 then some (.ret (3, ())) else bif decide (x0_9 < 0) then some (.ret (3, ())) else bif decide (1000000 < x0_9) then some (.ret (3, ())) else bif decide (x0_11 < 0) then some (.ret (3, ())) else bif decide (18 < x0_11) then some (.ret (3, ())) else bif decide (x0_7 < x0_6) then some (.ret (23, ())) else bif decide (x0_10 < 0) then some (.ret (1, ())) else bif decide (4 < x0_10) then some (.ret (1, ())) else some (.ret (0, ()))) := by kernel_rfl
theorem Reason_m {F : Nat} (n0 : Nat) (x0 : Int) : EF F (n0 + 1) 13 [.o (.c ⟨(.int .i64), x0⟩)] [.c .str] = unwrapA (bif x0 == 0 then some (.ret ([103, 111, 105, 110, 103], ())) else bif x0 == 1 then some (.ret ([108, 101, 110, 103, 116, 104], ())) else bif x0 == 2 then some (.ret ([112, 114, 101, 99, 105, 115, 105, 111, 110], ())) else bif x0 == 3 then some (.ret ([99, 108, 97, 115, 115], ())) else bif x0 == 4 then some (.ret ([101, 110, 100, 101, 100], ())) else some (.ret ([], ()))) := by kernel_rfl
theorem Sign_m {F : Nat} (n0 : Nat) (x0_0 : Bool) (x0_1 x0_2 : List Nat) : EF F (n0 + 1) 32 [.o (.agg [⟨.bool, x0_0⟩, ⟨.nat, x0_1⟩, ⟨.nat, x0_2⟩])] [.c (.int .i64)] = unwrapA ((EF F n0 73 [.o (.agg [⟨tB, x0_0⟩, ⟨tN, x0_1⟩, ⟨tN, x0_2⟩])] [.agg [tB, tN], .c tN]).bind fun x => (EF F n0 74 [.o (.agg [⟨tB, x.1⟩, ⟨tN, x.2.1⟩])] [.c (tI)]).bind fun x => some (.ret (x.1, ()))) := by kernel_rfl
theorem beyond_m {F : Nat} (n0 : Nat) (x0 x1 : Int) : EF F (n0 + 1) 33 [.o (.c ⟨(.int .i64), x0⟩), .o (.c ⟨(.int .i64), x1⟩)] [.c .bool] = unwrapA (bif decide (x0 < IntKind.i64.wrap (0 - x1)) then some (.ret (true, ())) else some (.ret (decide (x1 < x0), ()))) := by kernel_rfl
theorem parts_m {F : Nat} (n0 : Nat) (x0_0 : Bool) (x0_1 x0_2 : List Nat) : EF F (n0 + 1) 73 [.o (.agg [⟨.bool, x0_0⟩, ⟨.nat, x0_1⟩, ⟨.nat, x0_2⟩])] [.agg [.bool, .nat], .c .nat] = unwrapA ((EF F n0 62 [vN x0_2, vN ([])] [.c (tI)]).bind fun x => bif x.1 == 0 then (EF F n0 63 [.o (.c ⟨VT.int IntKind.u64, 1⟩)] [.c tN]).bind fun x => some (.ret (false, [], x.1, ())) else some (.ret (x0_0, x0_1, x0_2, ()))) := by kernel_rfl
theorem checkDigits_m {F : Nat} (n0 : Nat) (x0 x1 : Int) : EF F (n0 + 1) 128 [.o (.c ⟨(.int .i64), x0⟩), .o (.c ⟨(.int .i64), x1⟩)] [.c (.int .i64)] = unwrapA (some (.ret (IntKind.i64.wrap (98 - (IntKind.i64.wrap (IntKind.i64.wrap (IntKind.i64.wrap (x0 * 10000000) + x1) * 100)).tmod 97), ()))) := by kernel_rfl
end Go.Proofs.YtcggnmddcbhchaaGreatDoor
set_option linter.unusedSimpArgs false
set_option linter.unusedVariables false
namespace Go.Proofs.YtcggnmddcbhchaaGreatDoor
open Go.RowKit Lim
structure Res where
 m : Q3
 v : Q3
 lo : Int
 hi : Int
 sc : Int
 es : Int
 st : Int
 sp : Int
abbrev vQ (q : Q3) : V := .o (.agg [⟨.bool, q.t⟩, ⟨.nat, q.a⟩, ⟨.nat, q.b⟩])
abbrev vR (r : Res) : V := .o (.agg [⟨.bool, r.m.t⟩, ⟨.nat, r.m.a⟩, ⟨.nat, r.m.b⟩, ⟨.bool, r.v.t⟩, ⟨.nat, r.v.a⟩, ⟨.nat, r.v.b⟩, ⟨.int .i64, r.lo⟩, ⟨.int .i64, r.hi⟩, ⟨.int .i64, r.sc⟩, ⟨.int .i64, r.es⟩, ⟨.int .i64, r.st⟩, ⟨.int .i64, r.sp⟩])
abbrev gQ : Sig := [.agg [.bool, .nat, .nat]]
def in64 (z : Int) : Prop := -9223372036854775808 ≤ z ∧ z ≤ 9223372036854775807
structure Res.OK (r : Res) : Prop where
 m : r.m.OK
 v : r.v.OK
 lo : in64 r.lo
 hi : in64 r.hi
 sc : in64 r.sc
 es : in64 r.es
 st : in64 r.st
 sp : in64 r.sp
section
variable (n : Nat)
theorem parts_e (q : Q3) (h : q.OK) : EF fuel (n + 2) 73 [vQ q] [.agg [.bool, .nat], .c .nat] = some (if val q.b = 0 then (false, [], limbsK 1, ()) else (q.t, q.a, q.b, ())) := by
 refine (parts_m (n + 1) q.t q.a q.b).trans ?_
 rw [bind_go (pNCmp_e n q.b [] h.cb capN_nil)]
 have e : (cmpI (val q.b) (val []) == 0) = decide (val q.b = 0) := by
  rw [val_nil]
  unfold cmpI
  by_cases hb : val q.b = 0
  ·rw [hb]; rfl
  ·rw [if_neg (by omega), if_pos (by omega), decide_eq_false hb]; rfl
 rw [e]
 by_cases hb : val q.b = 0
 ·rw [decide_eq_true hb, cond_true, if_pos hb, pNOf_e n 1 (capU_ok (by omega) (by omega))]; rfl
 ·rw [decide_eq_false hb, cond_false, if_neg hb]; rfl
theorem sign_e (q : Q3) (h : q.OK) : EF fuel (n + 3) 32 [vQ q] gI = some (sgnI q.z, ()) := by
 refine (Sign_m (n + 2) q.t q.a q.b).trans ?_
 rw [bind_go (parts_e n q h)]
 by_cases hb : val q.b = 0
 ·rw [if_pos hb, bind_go (pISign_e (n + 1) false [] capN_nil)]
  unfold Q3.z pz
  rw [if_pos hb, val_nil]; rfl
 ·rw [if_neg hb, bind_go (pISign_e (n + 1) q.t q.a h.ca)]
  unfold Q3.z pz
  rw [if_neg hb]; rfl
def beyondB (x m : Int) : Bool := decide (x < -m) || decide (m < x)
theorem beyond_e (x m : Int) (h0 : 0 ≤ m) (h1 : m ≤ 1000000) : EF fuel (n + 1) 33 [vI x, vI m] gB = some (beyondB x m, ()) := by
 refine (beyond_m n x m).trans ?_
 rw [show IntKind.i64.wrap (0 - m) = -m by rw [w64 (by omega) (by omega)]; omega]
 unfold beyondB
 cases decide (x < -m) <;> rfl
def Res.valid (r : Res) : Int :=
 bif decide (sgnI r.v.z < 0) then 3 else bif beyondB r.lo 1000 then 3 else bif beyondB r.hi 1000 then 3 else bif beyondB r.sc 1000000 then 3 else bif decide (r.es < 0) then 3 else bif decide (1000000 < r.es) then 3 else bif decide (r.sp < 0) then 3 else bif decide (18 < r.sp) then 3 else bif decide (r.hi < r.lo) then 23 else bif decide (r.st < 0) then 1 else bif decide (4 < r.st) then 1 else 0
theorem valid_e (r : Res) (h : r.OK) : EF fuel (n + 4) 11 [vR r] gI = some (r.valid, ()) := by
 refine (Valid_m (n + 3) r.m.t r.m.a r.m.b r.v.t r.v.a r.v.b r.lo r.hi r.sc r.es r.st r.sp).trans ?_
 rw [bind_go (sign_e n r.v h.v), bind_go (beyond_e (n + 2) r.lo 1000 (by omega) (by omega)), bind_go (beyond_e (n + 2) r.hi 1000 (by omega) (by omega)), bind_go (beyond_e (n + 2) r.sc 1000000 (by omega) (by omega))]
 unfold Res.valid
 dsimp only
 generalize decide (sgnI r.v.z < 0) = b1
 generalize beyondB r.lo 1000 = b2
 generalize beyondB r.hi 1000 = b3
 generalize beyondB r.sc 1000000 = b4
 generalize decide (r.es < 0) = b5
 generalize decide (1000000 < r.es) = b6
 generalize decide (r.sp < 0) = b7
 generalize decide (18 < r.sp) = b8
 generalize decide (r.hi < r.lo) = b9
 generalize decide (r.st < 0) = c1
 generalize decide (4 < r.st) = c2
 cases b1
 case true => rfl
 cases b2
 case true => rfl
 cases b3
 case true => rfl
 cases b4
 case true => rfl
 cases b5
 case true => rfl
 cases b6
 case true => rfl
 cases b7
 case true => rfl
 cases b8
 case true => rfl
 cases b9
 case true => rfl
 cases c1
 case true => rfl
 cases c2 <;> rfl
def reason (z : Int) : List UInt8 := bif z == 0 then [103, 111, 105, 110, 103] else bif z == 1 then [108, 101, 110, 103, 116, 104] else bif z == 2 then [112, 114, 101, 99, 105, 115, 105, 111, 110] else bif z == 3 then [99, 108, 97, 115, 115] else bif z == 4 then [101, 110, 100, 101, 100] else []
theorem reason_e (z : Int) : EF fuel (n + 1) 13 [vI z] gS = some (reason z, ()) := by
 refine (Reason_m n z).trans ?_
 unfold reason
 cases z == 0
 case true => rfl
 cases z == 1
 case true => rfl
 cases z == 2
 case true => rfl
 cases z == 3
 case true => rfl
 cases z == 4 <;> rfl
theorem rprint_e (q : Q3) (h : q.OK) : EF fuel (n + 1) 27 [vQ q] gS = some (q.tx, ()) := pRPrint_e n q.t q.a q.b h.ca h.cb
end
end Go.Proofs.YtcggnmddcbhchaaGreatDoor
set_option linter.unusedSimpArgs false
set_option linter.unusedVariables false
namespace Go.Proofs.YtcggnmddcbhchaaGreatDoor
open Go.RowKit Lim
section
variable (n : Nat)
theorem tmod97 (z : Int) : -97 < z.tmod 97 ∧ z.tmod 97 < 97 := by
 have h1 := Int.tmod_lt_of_pos z (show (0 : Int) < 97 by omega)
 have h2 := Int.lt_tmod_of_pos z (show (0 : Int) < 97 by omega)
 omega
end
end Go.Proofs.YtcggnmddcbhchaaGreatDoor
set_option linter.unusedSimpArgs false
set_option linter.unusedVariables false
namespace Go.Proofs.YtcggnmddcbhchaaGreatDoor
open Go.RowKit Lim
theorem pNum_lo {F : Nat} (n0 : Nat) (x0 : List UInt8) (c0 : Bool) (c1 c2 : List Nat) (c3 : Bool) (c4 c5 : List Nat) (c6 c7 c8 c9 c10 c11 : Int) : EF F (n0 + 1) 81 [.o (.c ⟨.str, x0⟩), .lent 6 (cL c0 c1 c2 c3 c4 c5 c6 c7 c8 c9 c10 c11)] [.c (.int .i64), .agg tT] = unwrapA ((EF F n0 143 [vS x0] [.agg [tB, tN], .c (tI)]).bind fun x => bif x.2.2.1 != 0 then some (.ret (x.2.2.1, c0, c1, c2, c3, c4, c5, c6, c7, c8, c9, c10, c11, ())) else (EF F n0 144 [.o (.agg [⟨tB, x.1⟩, ⟨tN, x.2.1⟩])] [.c (tI), .c tB]).bind fun x => bif !x.2.1 then some (.ret (3, c0, c1, c2, c3, c4, c5, c6, c7, c8, c9, c10, c11, ())) else bif decide (x.1 < -9999999) then some (.ret (3, c0, c1, c2, c3, c4, c5, c6, c7, c8, c9, c10, c11, ())) else bif decide (9999999 < x.1) then some (.ret (3, c0, c1, c2, c3, c4, c5, c6, c7, c8, c9, c10, c11, ())) else some (.ret (0, c0, c1, c2, c3, c4, c5, x.1, c7, c8, c9, c10, c11, ()))) := by kernel_rfl
theorem pNum_hi {F : Nat} (n0 : Nat) (x0 : List UInt8) (c0 : Bool) (c1 c2 : List Nat) (c3 : Bool) (c4 c5 : List Nat) (c6 c7 c8 c9 c10 c11 : Int) : EF F (n0 + 1) 81 [.o (.c ⟨.str, x0⟩), .lent 7 (cL c0 c1 c2 c3 c4 c5 c6 c7 c8 c9 c10 c11)] [.c (.int .i64), .agg tT] = unwrapA ((EF F n0 143 [vS x0] [.agg [tB, tN], .c (tI)]).bind fun x => bif x.2.2.1 != 0 then some (.ret (x.2.2.1, c0, c1, c2, c3, c4, c5, c6, c7, c8, c9, c10, c11, ())) else (EF F n0 144 [.o (.agg [⟨tB, x.1⟩, ⟨tN, x.2.1⟩])] [.c (tI), .c tB]).bind fun x => bif !x.2.1 then some (.ret (3, c0, c1, c2, c3, c4, c5, c6, c7, c8, c9, c10, c11, ())) else bif decide (x.1 < -9999999) then some (.ret (3, c0, c1, c2, c3, c4, c5, c6, c7, c8, c9, c10, c11, ())) else bif decide (9999999 < x.1) then some (.ret (3, c0, c1, c2, c3, c4, c5, c6, c7, c8, c9, c10, c11, ())) else some (.ret (0, c0, c1, c2, c3, c4, c5, c6, x.1, c8, c9, c10, c11, ()))) := by kernel_rfl
theorem pNum_sc {F : Nat} (n0 : Nat) (x0 : List UInt8) (c0 : Bool) (c1 c2 : List Nat) (c3 : Bool) (c4 c5 : List Nat) (c6 c7 c8 c9 c10 c11 : Int) : EF F (n0 + 1) 81 [.o (.c ⟨.str, x0⟩), .lent 8 (cL c0 c1 c2 c3 c4 c5 c6 c7 c8 c9 c10 c11)] [.c (.int .i64), .agg tT] = unwrapA ((EF F n0 143 [vS x0] [.agg [tB, tN], .c (tI)]).bind fun x => bif x.2.2.1 != 0 then some (.ret (x.2.2.1, c0, c1, c2, c3, c4, c5, c6, c7, c8, c9, c10, c11, ())) else (EF F n0 144 [.o (.agg [⟨tB, x.1⟩, ⟨tN, x.2.1⟩])] [.c (tI), .c tB]).bind fun x => bif !x.2.1 then some (.ret (3, c0, c1, c2, c3, c4, c5, c6, c7, c8, c9, c10, c11, ())) else bif decide (x.1 < -9999999) then some (.ret (3, c0, c1, c2, c3, c4, c5, c6, c7, c8, c9, c10, c11, ())) else bif decide (9999999 < x.1) then some (.ret (3, c0, c1, c2, c3, c4, c5, c6, c7, c8, c9, c10, c11, ())) else some (.ret (0, c0, c1, c2, c3, c4, c5, c6, c7, x.1, c9, c10, c11, ()))) := by kernel_rfl
theorem pNum_es {F : Nat} (n0 : Nat) (x0 : List UInt8) (c0 : Bool) (c1 c2 : List Nat) (c3 : Bool) (c4 c5 : List Nat) (c6 c7 c8 c9 c10 c11 : Int) : EF F (n0 + 1) 81 [.o (.c ⟨.str, x0⟩), .lent 9 (cL c0 c1 c2 c3 c4 c5 c6 c7 c8 c9 c10 c11)] [.c (.int .i64), .agg tT] = unwrapA ((EF F n0 143 [vS x0] [.agg [tB, tN], .c (tI)]).bind fun x => bif x.2.2.1 != 0 then some (.ret (x.2.2.1, c0, c1, c2, c3, c4, c5, c6, c7, c8, c9, c10, c11, ())) else (EF F n0 144 [.o (.agg [⟨tB, x.1⟩, ⟨tN, x.2.1⟩])] [.c (tI), .c tB]).bind fun x => bif !x.2.1 then some (.ret (3, c0, c1, c2, c3, c4, c5, c6, c7, c8, c9, c10, c11, ())) else bif decide (x.1 < -9999999) then some (.ret (3, c0, c1, c2, c3, c4, c5, c6, c7, c8, c9, c10, c11, ())) else bif decide (9999999 < x.1) then some (.ret (3, c0, c1, c2, c3, c4, c5, c6, c7, c8, c9, c10, c11, ())) else some (.ret (0, c0, c1, c2, c3, c4, c5, c6, c7, c8, x.1, c10, c11, ()))) := by kernel_rfl
theorem pNum_sp {F : Nat} (n0 : Nat) (x0 : List UInt8) (c0 : Bool) (c1 c2 : List Nat) (c3 : Bool) (c4 c5 : List Nat) (c6 c7 c8 c9 c10 c11 : Int) : EF F (n0 + 1) 81 [.o (.c ⟨.str, x0⟩), .lent 11 (cL c0 c1 c2 c3 c4 c5 c6 c7 c8 c9 c10 c11)] [.c (.int .i64), .agg tT] = unwrapA ((EF F n0 143 [vS x0] [.agg [tB, tN], .c (tI)]).bind fun x => bif x.2.2.1 != 0 then some (.ret (x.2.2.1, c0, c1, c2, c3, c4, c5, c6, c7, c8, c9, c10, c11, ())) else (EF F n0 144 [.o (.agg [⟨tB, x.1⟩, ⟨tN, x.2.1⟩])] [.c (tI), .c tB]).bind fun x => bif !x.2.1 then some (.ret (3, c0, c1, c2, c3, c4, c5, c6, c7, c8, c9, c10, c11, ())) else bif decide (x.1 < -9999999) then some (.ret (3, c0, c1, c2, c3, c4, c5, c6, c7, c8, c9, c10, c11, ())) else bif decide (9999999 < x.1) then some (.ret (3, c0, c1, c2, c3, c4, c5, c6, c7, c8, c9, c10, c11, ())) else some (.ret (0, c0, c1, c2, c3, c4, c5, c6, c7, c8, c9, c10, x.1, ()))) := by kernel_rfl
theorem pRat_m {F : Nat} (n0 : Nat) (x0 : List UInt8) (c0 : Bool) (c1 c2 : List Nat) (c3 : Bool) (c4 c5 : List Nat) (c6 c7 c8 c9 c10 c11 : Int) : EF F (n0 + 1) 82 [.o (.c ⟨.str, x0⟩), .lent 0 (cL c0 c1 c2 c3 c4 c5 c6 c7 c8 c9 c10 c11)] [.c (.int .i64), .agg tT] = unwrapA ((EF F n0 145 [vS x0] [.agg [tB, tN, tN], .c (tI)]).bind fun x => bif x.2.2.2.1 != 0 then some (.ret (x.2.2.2.1, c0, c1, c2, c3, c4, c5, c6, c7, c8, c9, c10, c11, ())) else (EF F n0 27 [.o (.agg [⟨tB, x.1⟩, ⟨tN, x.2.1⟩, ⟨tN, x.2.2.1⟩])] [.c tS]).bind fun x_1 => bif !x_1.1 == x0 then some (.ret (2, c0, c1, c2, c3, c4, c5, c6, c7, c8, c9, c10, c11, ())) else some (.ret (0, x.1, x.2.1, x.2.2.1, c3, c4, c5, c6, c7, c8, c9, c10, c11, ()))) := by kernel_rfl
theorem pRat_v {F : Nat} (n0 : Nat) (x0 : List UInt8) (c0 : Bool) (c1 c2 : List Nat) (c3 : Bool) (c4 c5 : List Nat) (c6 c7 c8 c9 c10 c11 : Int) : EF F (n0 + 1) 82 [.o (.c ⟨.str, x0⟩), .lent 3 (cL c0 c1 c2 c3 c4 c5 c6 c7 c8 c9 c10 c11)] [.c (.int .i64), .agg tT] = unwrapA ((EF F n0 145 [vS x0] [.agg [tB, tN, tN], .c (tI)]).bind fun x => bif x.2.2.2.1 != 0 then some (.ret (x.2.2.2.1, c0, c1, c2, c3, c4, c5, c6, c7, c8, c9, c10, c11, ())) else (EF F n0 27 [.o (.agg [⟨tB, x.1⟩, ⟨tN, x.2.1⟩, ⟨tN, x.2.2.1⟩])] [.c tS]).bind fun x_1 => bif !x_1.1 == x0 then some (.ret (2, c0, c1, c2, c3, c4, c5, c6, c7, c8, c9, c10, c11, ())) else some (.ret (0, c0, c1, c2, x.1, x.2.1, x.2.2.1, c6, c7, c8, c9, c10, c11, ()))) := by kernel_rfl
theorem pReas_m {F : Nat} (n0 : Nat) (x0 : List UInt8) (c0 : Bool) (c1 c2 : List Nat) (c3 : Bool) (c4 c5 : List Nat) (c6 c7 c8 c9 c10 c11 : Int) : EF F (n0 + 1) 83 [.o (.c ⟨.str, x0⟩), .lent 10 (cL c0 c1 c2 c3 c4 c5 c6 c7 c8 c9 c10 c11)] [.c (.int .i64), .agg tT] = unwrapA (loopA 0 [tI, tI, tB, tN, tN, tB, tN, tN, tI, tI, tI, tI, tI, tI] (fun x => bif decide (x.1 < 5) then (EF F n0 13 [vI x.1] [.c tS]).bind fun x_1 => bif x0 == x_1.1 then some (.ret (0, x.2.2.1, x.2.2.2.1, x.2.2.2.2.1, x.2.2.2.2.2.1, x.2.2.2.2.2.2.1, x.2.2.2.2.2.2.2.1, x.2.2.2.2.2.2.2.2.1, x.2.2.2.2.2.2.2.2.2.1, x.2.2.2.2.2.2.2.2.2.2.1, x.2.2.2.2.2.2.2.2.2.2.2.1, x.1, x.2.2.2.2.2.2.2.2.2.2.2.2.2.1, ())) else some (.cont 0 [tI, tI, tB, tN, tN, tB, tN, tN, tI, tI, tI, tI, tI, tI] (IntKind.i64.wrap (x.1 + 1), x.2.1, x.2.2.1, x.2.2.2.1, x.2.2.2.2.1, x.2.2.2.2.2.1, x.2.2.2.2.2.2.1, x.2.2.2.2.2.2.2.1, x.2.2.2.2.2.2.2.2.1, x.2.2.2.2.2.2.2.2.2.1, x.2.2.2.2.2.2.2.2.2.2.1, x.2.2.2.2.2.2.2.2.2.2.2.1, x.2.2.2.2.2.2.2.2.2.2.2.2.1, x.2.2.2.2.2.2.2.2.2.2.2.2.2.1, ())) else some (.ret (2, x.2.2.1, x.2.2.2.1, x.2.2.2.2.1, x.2.2.2.2.2.1, x.2.2.2.2.2.2.1, x.2.2.2.2.2.2.2.1, x.2.2.2.2.2.2.2.2.1, x.2.2.2.2.2.2.2.2.2.1, x.2.2.2.2.2.2.2.2.2.2.1, x.2.2.2.2.2.2.2.2.2.2.2.1, x.2.2.2.2.2.2.2.2.2.2.2.2.1, x.2.2.2.2.2.2.2.2.2.2.2.2.2.1, ()))) F (0, 0, c0, c1, c2, c3, c4, c5, c6, c7, c8, c9, c10, c11, ())) := by kernel_rfl
theorem pCand_m {F : Nat} (n0 : Nat) (x0 : List UInt8) (d : Int) : EF F (n0 + 1) 80 [.o (.c ⟨.str, x0⟩), .lent 0 [⟨.int .i64, d⟩]] [.c (.int .i64), .agg [.int .i64]] = unwrapA ((EF F n0 142 [vS x0] [.c (tI), .c (tI), .c (tI)]).bind fun x => bif x.2.2.1 != 0 then some (.ret (x.2.2.1, d, ())) else bif x.1 != 3 then some (.ret (2, d, ())) else some (.ret (0, x.2.1, ()))) := by kernel_rfl
theorem pLine0_m {F : Nat} (n0 : Nat) (x0 : List UInt8) (d : Int) (c0 : Bool) (c1 c2 : List Nat) (c3 : Bool) (c4 c5 : List Nat) (c6 c7 c8 c9 c10 c11 : Int) : EF F (n0 + 1) 38 [vI 0, .o (.c ⟨.str, x0⟩), .lent 0 [⟨.int .i64, d⟩], .lent 0 (cL c0 c1 c2 c3 c4 c5 c6 c7 c8 c9 c10 c11)] [.c (.int .i64), .agg [.int .i64], .agg tT] = unwrapA ((EF F n0 79 [vI 0] [.c (VT.sl 1 tS)]).bind fun x => (EF F n0 37 [vS x0, vS [32], vI (IntKind.i64.wrap ((Nat.cast (R := Int) (List.length x.1)) + 1))] [.c (VT.sl 1 tS)]).bind fun x_1 => bif (Nat.cast (R := Int) (List.length x_1.1)) != (Nat.cast (R := Int) (List.length x.1)) then some (.ret (2, d, c0, c1, c2, c3, c4, c5, c6, c7, c8, c9, c10, c11, ())) else loopA 0 [tI, tI] (fun x_2 => bif decide (x_2.1 < (Nat.cast (R := Int) (List.length x.1))) then (ix x.1 x_2.1).bind fun y => bif !y == [] then (ix x_1.1 x_2.1).bind fun y_1 => bif !y_1 == y then some (.ret (2, d, c0, c1, c2, c3, c4, c5, c6, c7, c8, c9, c10, c11, ())) else some (.cont 0 [tI, tI] (IntKind.i64.wrap (x_2.1 + 1), x_2.2.1, ())) else some (.cont 0 [tI, tI] (IntKind.i64.wrap (x_2.1 + 1), x_2.2.1, ())) else (ix x_1.1 1).bind fun y => (EF F n0 80 [vS y, .lent 0 [⟨tI, d⟩]] [.c (tI), .agg [tI]]).bind fun x => some (.ret (x.1, x.2.1, c0, c1, c2, c3, c4, c5, c6, c7, c8, c9, c10, c11, ()))) F (0, 0, ())) := by kernel_rfl
theorem form0_m {F : Nat} (n0 : Nat)  : EF F (n0 + 1) 79 [vI 0] [.c (.sl 1 .str)] = unwrapA (some (.ret ([[99, 97, 110, 100, 105, 100, 97, 116, 101], []], ()))) := by kernel_rfl
theorem pLine1_m {F : Nat} (n0 : Nat) (x0 : List UInt8) (d : Int) (c0 : Bool) (c1 c2 : List Nat) (c3 : Bool) (c4 c5 : List Nat) (c6 c7 c8 c9 c10 c11 : Int) : EF F (n0 + 1) 38 [vI 1, .o (.c ⟨.str, x0⟩), .lent 0 [⟨.int .i64, d⟩], .lent 0 (cL c0 c1 c2 c3 c4 c5 c6 c7 c8 c9 c10 c11)] [.c (.int .i64), .agg [.int .i64], .agg tT] = unwrapA ((EF F n0 79 [vI 1] [.c (VT.sl 1 tS)]).bind fun x => (EF F n0 37 [vS x0, vS [32], vI (IntKind.i64.wrap ((Nat.cast (R := Int) (List.length x.1)) + 1))] [.c (VT.sl 1 tS)]).bind fun x_1 => bif (Nat.cast (R := Int) (List.length x_1.1)) != (Nat.cast (R := Int) (List.length x.1)) then some (.ret (2, d, c0, c1, c2, c3, c4, c5, c6, c7, c8, c9, c10, c11, ())) else loopA 0 [tI, tI] (fun x_2 => bif decide (x_2.1 < (Nat.cast (R := Int) (List.length x.1))) then (ix x.1 x_2.1).bind fun y => bif !y == [] then (ix x_1.1 x_2.1).bind fun y_1 => bif !y_1 == y then some (.ret (2, d, c0, c1, c2, c3, c4, c5, c6, c7, c8, c9, c10, c11, ())) else some (.cont 0 [tI, tI] (IntKind.i64.wrap (x_2.1 + 1), x_2.2.1, ())) else some (.cont 0 [tI, tI] (IntKind.i64.wrap (x_2.1 + 1), x_2.2.1, ())) else (ix x_1.1 1).bind fun y => (EF F n0 81 [vS y, .lent 8 (cL c0 c1 c2 c3 c4 c5 c6 c7 c8 c9 c10 c11)] [.c (tI), .agg tT]).bind fun x => some (.ret (x.1, d, x.2.1, x.2.2.1, x.2.2.2.1, x.2.2.2.2.1, x.2.2.2.2.2.1, x.2.2.2.2.2.2.1, x.2.2.2.2.2.2.2.1, x.2.2.2.2.2.2.2.2.1, x.2.2.2.2.2.2.2.2.2.1, x.2.2.2.2.2.2.2.2.2.2.1, x.2.2.2.2.2.2.2.2.2.2.2.1, x.2.2.2.2.2.2.2.2.2.2.2.2.1, ()))) F (0, 0, ())) := by kernel_rfl
theorem form1_m {F : Nat} (n0 : Nat)  : EF F (n0 + 1) 79 [vI 1] [.c (.sl 1 .str)] = unwrapA (some (.ret ([[115, 99, 111, 114, 101], []], ()))) := by kernel_rfl
theorem pLine2_m {F : Nat} (n0 : Nat) (x0 : List UInt8) (d : Int) (c0 : Bool) (c1 c2 : List Nat) (c3 : Bool) (c4 c5 : List Nat) (c6 c7 c8 c9 c10 c11 : Int) : EF F (n0 + 1) 38 [vI 2, .o (.c ⟨.str, x0⟩), .lent 0 [⟨.int .i64, d⟩], .lent 0 (cL c0 c1 c2 c3 c4 c5 c6 c7 c8 c9 c10 c11)] [.c (.int .i64), .agg [.int .i64], .agg tT] = unwrapA ((EF F n0 79 [vI 2] [.c (VT.sl 1 tS)]).bind fun x => (EF F n0 37 [vS x0, vS [32], vI (IntKind.i64.wrap ((Nat.cast (R := Int) (List.length x.1)) + 1))] [.c (VT.sl 1 tS)]).bind fun x_1 => bif (Nat.cast (R := Int) (List.length x_1.1)) != (Nat.cast (R := Int) (List.length x.1)) then some (.ret (2, d, c0, c1, c2, c3, c4, c5, c6, c7, c8, c9, c10, c11, ())) else loopA 0 [tI, tI] (fun x_2 => bif decide (x_2.1 < (Nat.cast (R := Int) (List.length x.1))) then (ix x.1 x_2.1).bind fun y => bif !y == [] then (ix x_1.1 x_2.1).bind fun y_1 => bif !y_1 == y then some (.ret (2, d, c0, c1, c2, c3, c4, c5, c6, c7, c8, c9, c10, c11, ())) else some (.cont 0 [tI, tI] (IntKind.i64.wrap (x_2.1 + 1), x_2.2.1, ())) else some (.cont 0 [tI, tI] (IntKind.i64.wrap (x_2.1 + 1), x_2.2.1, ())) else (ix x_1.1 1).bind fun y => (EF F n0 82 [vS y, .lent 0 (cL c0 c1 c2 c3 c4 c5 c6 c7 c8 c9 c10 c11)] [.c (tI), .agg tT]).bind fun x => bif x.1 != 0 then some (.ret (x.1, d, x.2.1, x.2.2.1, x.2.2.2.1, x.2.2.2.2.1, x.2.2.2.2.2.1, x.2.2.2.2.2.2.1, x.2.2.2.2.2.2.2.1, x.2.2.2.2.2.2.2.2.1, x.2.2.2.2.2.2.2.2.2.1, x.2.2.2.2.2.2.2.2.2.2.1, x.2.2.2.2.2.2.2.2.2.2.2.1, x.2.2.2.2.2.2.2.2.2.2.2.2.1, ())) else (ix x_1.1 3).bind fun y_1 => (EF F n0 82 [vS y_1, .lent 3 (cL x.2.1 x.2.2.1 x.2.2.2.1 x.2.2.2.2.1 x.2.2.2.2.2.1 x.2.2.2.2.2.2.1 x.2.2.2.2.2.2.2.1 x.2.2.2.2.2.2.2.2.1 x.2.2.2.2.2.2.2.2.2.1 x.2.2.2.2.2.2.2.2.2.2.1 x.2.2.2.2.2.2.2.2.2.2.2.1 x.2.2.2.2.2.2.2.2.2.2.2.2.1)] [.c (tI), .agg tT]).bind fun x_3 => some (.ret (x_3.1, d, x_3.2.1, x_3.2.2.1, x_3.2.2.2.1, x_3.2.2.2.2.1, x_3.2.2.2.2.2.1, x_3.2.2.2.2.2.2.1, x_3.2.2.2.2.2.2.2.1, x_3.2.2.2.2.2.2.2.2.1, x_3.2.2.2.2.2.2.2.2.2.1, x_3.2.2.2.2.2.2.2.2.2.2.1, x_3.2.2.2.2.2.2.2.2.2.2.2.1, x_3.2.2.2.2.2.2.2.2.2.2.2.2.1, ()))) F (0, 0, ())) := by kernel_rfl
theorem form2_m {F : Nat} (n0 : Nat)  : EF F (n0 + 1) 79 [vI 2] [.c (.sl 1 .str)] = unwrapA (some (.ret ([[97, 98, 105, 108, 105, 116, 121], [], [118, 97, 114, 105, 97, 110, 99, 101], []], ()))) := by kernel_rfl
theorem pLine3_m {F : Nat} (n0 : Nat) (x0 : List UInt8) (d : Int) (c0 : Bool) (c1 c2 : List Nat) (c3 : Bool) (c4 c5 : List Nat) (c6 c7 c8 c9 c10 c11 : Int) : EF F (n0 + 1) 38 [vI 3, .o (.c ⟨.str, x0⟩), .lent 0 [⟨.int .i64, d⟩], .lent 0 (cL c0 c1 c2 c3 c4 c5 c6 c7 c8 c9 c10 c11)] [.c (.int .i64), .agg [.int .i64], .agg tT] = unwrapA ((EF F n0 79 [vI 3] [.c (VT.sl 1 tS)]).bind fun x => (EF F n0 37 [vS x0, vS [32], vI (IntKind.i64.wrap ((Nat.cast (R := Int) (List.length x.1)) + 1))] [.c (VT.sl 1 tS)]).bind fun x_1 => bif (Nat.cast (R := Int) (List.length x_1.1)) != (Nat.cast (R := Int) (List.length x.1)) then some (.ret (2, d, c0, c1, c2, c3, c4, c5, c6, c7, c8, c9, c10, c11, ())) else loopA 0 [tI, tI] (fun x_2 => bif decide (x_2.1 < (Nat.cast (R := Int) (List.length x.1))) then (ix x.1 x_2.1).bind fun y => bif !y == [] then (ix x_1.1 x_2.1).bind fun y_1 => bif !y_1 == y then some (.ret (2, d, c0, c1, c2, c3, c4, c5, c6, c7, c8, c9, c10, c11, ())) else some (.cont 0 [tI, tI] (IntKind.i64.wrap (x_2.1 + 1), x_2.2.1, ())) else some (.cont 0 [tI, tI] (IntKind.i64.wrap (x_2.1 + 1), x_2.2.1, ())) else (ix x_1.1 1).bind fun y => (EF F n0 81 [vS y, .lent 6 (cL c0 c1 c2 c3 c4 c5 c6 c7 c8 c9 c10 c11)] [.c (tI), .agg tT]).bind fun x => bif x.1 != 0 then some (.ret (x.1, d, x.2.1, x.2.2.1, x.2.2.2.1, x.2.2.2.2.1, x.2.2.2.2.2.1, x.2.2.2.2.2.2.1, x.2.2.2.2.2.2.2.1, x.2.2.2.2.2.2.2.2.1, x.2.2.2.2.2.2.2.2.2.1, x.2.2.2.2.2.2.2.2.2.2.1, x.2.2.2.2.2.2.2.2.2.2.2.1, x.2.2.2.2.2.2.2.2.2.2.2.2.1, ())) else (ix x_1.1 2).bind fun y_1 => (EF F n0 81 [vS y_1, .lent 7 (cL x.2.1 x.2.2.1 x.2.2.2.1 x.2.2.2.2.1 x.2.2.2.2.2.1 x.2.2.2.2.2.2.1 x.2.2.2.2.2.2.2.1 x.2.2.2.2.2.2.2.2.1 x.2.2.2.2.2.2.2.2.2.1 x.2.2.2.2.2.2.2.2.2.2.1 x.2.2.2.2.2.2.2.2.2.2.2.1 x.2.2.2.2.2.2.2.2.2.2.2.2.1)] [.c (tI), .agg tT]).bind fun x_3 => some (.ret (x_3.1, d, x_3.2.1, x_3.2.2.1, x_3.2.2.2.1, x_3.2.2.2.2.1, x_3.2.2.2.2.2.1, x_3.2.2.2.2.2.2.1, x_3.2.2.2.2.2.2.2.1, x_3.2.2.2.2.2.2.2.2.1, x_3.2.2.2.2.2.2.2.2.2.1, x_3.2.2.2.2.2.2.2.2.2.2.1, x_3.2.2.2.2.2.2.2.2.2.2.2.1, x_3.2.2.2.2.2.2.2.2.2.2.2.2.1, ()))) F (0, 0, ())) := by kernel_rfl
theorem form3_m {F : Nat} (n0 : Nat)  : EF F (n0 + 1) 79 [vI 3] [.c (.sl 1 .str)] = unwrapA (some (.ret ([[105, 110, 116, 101, 114, 118, 97, 108], [], []], ()))) := by kernel_rfl
theorem pLine4_m {F : Nat} (n0 : Nat) (x0 : List UInt8) (d : Int) (c0 : Bool) (c1 c2 : List Nat) (c3 : Bool) (c4 c5 : List Nat) (c6 c7 c8 c9 c10 c11 : Int) : EF F (n0 + 1) 38 [vI 4, .o (.c ⟨.str, x0⟩), .lent 0 [⟨.int .i64, d⟩], .lent 0 (cL c0 c1 c2 c3 c4 c5 c6 c7 c8 c9 c10 c11)] [.c (.int .i64), .agg [.int .i64], .agg tT] = unwrapA ((EF F n0 79 [vI 4] [.c (VT.sl 1 tS)]).bind fun x => (EF F n0 37 [vS x0, vS [32], vI (IntKind.i64.wrap ((Nat.cast (R := Int) (List.length x.1)) + 1))] [.c (VT.sl 1 tS)]).bind fun x_1 => bif (Nat.cast (R := Int) (List.length x_1.1)) != (Nat.cast (R := Int) (List.length x.1)) then some (.ret (2, d, c0, c1, c2, c3, c4, c5, c6, c7, c8, c9, c10, c11, ())) else loopA 0 [tI, tI] (fun x_2 => bif decide (x_2.1 < (Nat.cast (R := Int) (List.length x.1))) then (ix x.1 x_2.1).bind fun y => bif !y == [] then (ix x_1.1 x_2.1).bind fun y_1 => bif !y_1 == y then some (.ret (2, d, c0, c1, c2, c3, c4, c5, c6, c7, c8, c9, c10, c11, ())) else some (.cont 0 [tI, tI] (IntKind.i64.wrap (x_2.1 + 1), x_2.2.1, ())) else some (.cont 0 [tI, tI] (IntKind.i64.wrap (x_2.1 + 1), x_2.2.1, ())) else (ix x_1.1 1).bind fun y => (EF F n0 81 [vS y, .lent 11 (cL c0 c1 c2 c3 c4 c5 c6 c7 c8 c9 c10 c11)] [.c (tI), .agg tT]).bind fun x => bif x.1 != 0 then some (.ret (x.1, d, x.2.1, x.2.2.1, x.2.2.2.1, x.2.2.2.2.1, x.2.2.2.2.2.1, x.2.2.2.2.2.2.1, x.2.2.2.2.2.2.2.1, x.2.2.2.2.2.2.2.2.1, x.2.2.2.2.2.2.2.2.2.1, x.2.2.2.2.2.2.2.2.2.2.1, x.2.2.2.2.2.2.2.2.2.2.2.1, x.2.2.2.2.2.2.2.2.2.2.2.2.1, ())) else (ix x_1.1 2).bind fun y_1 => (EF F n0 83 [vS y_1, .lent 10 (cL x.2.1 x.2.2.1 x.2.2.2.1 x.2.2.2.2.1 x.2.2.2.2.2.1 x.2.2.2.2.2.2.1 x.2.2.2.2.2.2.2.1 x.2.2.2.2.2.2.2.2.1 x.2.2.2.2.2.2.2.2.2.1 x.2.2.2.2.2.2.2.2.2.2.1 x.2.2.2.2.2.2.2.2.2.2.2.1 x.2.2.2.2.2.2.2.2.2.2.2.2.1)] [.c (tI), .agg tT]).bind fun x_3 => some (.ret (x_3.1, d, x_3.2.1, x_3.2.2.1, x_3.2.2.2.1, x_3.2.2.2.2.1, x_3.2.2.2.2.2.1, x_3.2.2.2.2.2.2.1, x_3.2.2.2.2.2.2.2.1, x_3.2.2.2.2.2.2.2.2.1, x_3.2.2.2.2.2.2.2.2.2.1, x_3.2.2.2.2.2.2.2.2.2.2.1, x_3.2.2.2.2.2.2.2.2.2.2.2.1, x_3.2.2.2.2.2.2.2.2.2.2.2.2.1, ()))) F (0, 0, ())) := by kernel_rfl
theorem form4_m {F : Nat} (n0 : Nat)  : EF F (n0 + 1) 79 [vI 4] [.c (.sl 1 .str)] = unwrapA (some (.ret ([[105, 116, 101, 109, 115], [], []], ()))) := by kernel_rfl
theorem pLine5_m {F : Nat} (n0 : Nat) (x0 : List UInt8) (d : Int) (c0 : Bool) (c1 c2 : List Nat) (c3 : Bool) (c4 c5 : List Nat) (c6 c7 c8 c9 c10 c11 : Int) : EF F (n0 + 1) 38 [vI 5, .o (.c ⟨.str, x0⟩), .lent 0 [⟨.int .i64, d⟩], .lent 0 (cL c0 c1 c2 c3 c4 c5 c6 c7 c8 c9 c10 c11)] [.c (.int .i64), .agg [.int .i64], .agg tT] = unwrapA ((EF F n0 79 [vI 5] [.c (VT.sl 1 tS)]).bind fun x => (EF F n0 37 [vS x0, vS [32], vI (IntKind.i64.wrap ((Nat.cast (R := Int) (List.length x.1)) + 1))] [.c (VT.sl 1 tS)]).bind fun x_1 => bif (Nat.cast (R := Int) (List.length x_1.1)) != (Nat.cast (R := Int) (List.length x.1)) then some (.ret (2, d, c0, c1, c2, c3, c4, c5, c6, c7, c8, c9, c10, c11, ())) else loopA 0 [tI, tI] (fun x_2 => bif decide (x_2.1 < (Nat.cast (R := Int) (List.length x.1))) then (ix x.1 x_2.1).bind fun y => bif !y == [] then (ix x_1.1 x_2.1).bind fun y_1 => bif !y_1 == y then some (.ret (2, d, c0, c1, c2, c3, c4, c5, c6, c7, c8, c9, c10, c11, ())) else some (.cont 0 [tI, tI] (IntKind.i64.wrap (x_2.1 + 1), x_2.2.1, ())) else some (.cont 0 [tI, tI] (IntKind.i64.wrap (x_2.1 + 1), x_2.2.1, ())) else (ix x_1.1 1).bind fun y => (EF F n0 81 [vS y, .lent 9 (cL c0 c1 c2 c3 c4 c5 c6 c7 c8 c9 c10 c11)] [.c (tI), .agg tT]).bind fun x => some (.ret (x.1, d, x.2.1, x.2.2.1, x.2.2.2.1, x.2.2.2.2.1, x.2.2.2.2.2.1, x.2.2.2.2.2.2.1, x.2.2.2.2.2.2.2.1, x.2.2.2.2.2.2.2.2.1, x.2.2.2.2.2.2.2.2.2.1, x.2.2.2.2.2.2.2.2.2.2.1, x.2.2.2.2.2.2.2.2.2.2.2.1, x.2.2.2.2.2.2.2.2.2.2.2.2.1, ()))) F (0, 0, ())) := by kernel_rfl
theorem form5_m {F : Nat} (n0 : Nat)  : EF F (n0 + 1) 79 [vI 5] [.c (.sl 1 .str)] = unwrapA (some (.ret ([[101, 115, 115, 97, 121], []], ()))) := by kernel_rfl
theorem rParse_m {F : Nat} (n0 : Nat) (x0 : List UInt8) : EF F (n0 + 1) 16 [.o (.c ⟨.str, x0⟩)] [.c (.int .i64), .agg tT, .c (.int .i64)] = unwrapA ((EF F n0 37 [vS x0, vS [10], vI 8] [.c (VT.sl 1 tS)]).bind fun x => bif (Nat.cast (R := Int) (List.length x.1)) != 7 then some (.ret (0, false, [], [], false, [], [], 0, 0, 0, 0, 0, 0, 2, ())) else (ix x.1 6).bind fun y => bif !y == [] then some (.ret (0, false, [], [], false, [], [], 0, 0, 0, 0, 0, 0, 2, ())) else loopA 0 [tI, tI, tI, tB, tN, tN, tB, tN, tN, tI, tI, tI, tI, tI, tI, tI, tB, tN, tN, tB, tN, tN, tI, tI, tI, tI, tI, tI] (fun x_1 => bif decide (x_1.1 < 6) then (ix x.1 x_1.1).bind fun y => (EF F n0 38 [vI x_1.1, vS y, .lent 0 [⟨tI, x_1.2.2.2.2.2.2.2.2.2.2.2.2.2.2.2.1⟩], .lent 0 (cL x_1.2.2.2.1 x_1.2.2.2.2.1 x_1.2.2.2.2.2.1 x_1.2.2.2.2.2.2.1 x_1.2.2.2.2.2.2.2.1 x_1.2.2.2.2.2.2.2.2.1 x_1.2.2.2.2.2.2.2.2.2.1 x_1.2.2.2.2.2.2.2.2.2.2.1 x_1.2.2.2.2.2.2.2.2.2.2.2.1 x_1.2.2.2.2.2.2.2.2.2.2.2.2.1 x_1.2.2.2.2.2.2.2.2.2.2.2.2.2.1 x_1.2.2.2.2.2.2.2.2.2.2.2.2.2.2.1)] [.c (tI), .agg [tI], .agg tT]).bind fun x => bif x.1 != 0 then some (.ret (0, false, [], [], false, [], [], 0, 0, 0, 0, 0, 0, x.1, ())) else some (.cont 0 [tI, tI, tI, tB, tN, tN, tB, tN, tN, tI, tI, tI, tI, tI, tI, tI, tB, tN, tN, tB, tN, tN, tI, tI, tI, tI, tI, tI] (IntKind.i64.wrap (x_1.1 + 1), x_1.2.1, x_1.2.2.1, x.2.2.1, x.2.2.2.1, x.2.2.2.2.1, x.2.2.2.2.2.1, x.2.2.2.2.2.2.1, x.2.2.2.2.2.2.2.1, x.2.2.2.2.2.2.2.2.1, x.2.2.2.2.2.2.2.2.2.1, x.2.2.2.2.2.2.2.2.2.2.1, x.2.2.2.2.2.2.2.2.2.2.2.1, x.2.2.2.2.2.2.2.2.2.2.2.2.1, x.2.2.2.2.2.2.2.2.2.2.2.2.2.1, x.2.1, x_1.2.2.2.2.2.2.2.2.2.2.2.2.2.2.2.2.1, x_1.2.2.2.2.2.2.2.2.2.2.2.2.2.2.2.2.2.1, x_1.2.2.2.2.2.2.2.2.2.2.2.2.2.2.2.2.2.2.1, x_1.2.2.2.2.2.2.2.2.2.2.2.2.2.2.2.2.2.2.2.1, x_1.2.2.2.2.2.2.2.2.2.2.2.2.2.2.2.2.2.2.2.2.1, x_1.2.2.2.2.2.2.2.2.2.2.2.2.2.2.2.2.2.2.2.2.2.1, x_1.2.2.2.2.2.2.2.2.2.2.2.2.2.2.2.2.2.2.2.2.2.2.1, x_1.2.2.2.2.2.2.2.2.2.2.2.2.2.2.2.2.2.2.2.2.2.2.2.1, x_1.2.2.2.2.2.2.2.2.2.2.2.2.2.2.2.2.2.2.2.2.2.2.2.2.1, x_1.2.2.2.2.2.2.2.2.2.2.2.2.2.2.2.2.2.2.2.2.2.2.2.2.2.1, x_1.2.2.2.2.2.2.2.2.2.2.2.2.2.2.2.2.2.2.2.2.2.2.2.2.2.2.1, x_1.2.2.2.2.2.2.2.2.2.2.2.2.2.2.2.2.2.2.2.2.2.2.2.2.2.2.2.1, ())) else (EF F n0 11 [.o (.agg (cL x_1.2.2.2.1 x_1.2.2.2.2.1 x_1.2.2.2.2.2.1 x_1.2.2.2.2.2.2.1 x_1.2.2.2.2.2.2.2.1 x_1.2.2.2.2.2.2.2.2.1 x_1.2.2.2.2.2.2.2.2.2.1 x_1.2.2.2.2.2.2.2.2.2.2.1 x_1.2.2.2.2.2.2.2.2.2.2.2.1 x_1.2.2.2.2.2.2.2.2.2.2.2.2.1 x_1.2.2.2.2.2.2.2.2.2.2.2.2.2.1 x_1.2.2.2.2.2.2.2.2.2.2.2.2.2.2.1))] [.c (tI)]).bind fun x => bif x.1 != 0 then some (.ret (0, false, [], [], false, [], [], 0, 0, 0, 0, 0, 0, x.1, ())) else some (.ret (x_1.2.2.2.2.2.2.2.2.2.2.2.2.2.2.2.1, x_1.2.2.2.1, x_1.2.2.2.2.1, x_1.2.2.2.2.2.1, x_1.2.2.2.2.2.2.1, x_1.2.2.2.2.2.2.2.1, x_1.2.2.2.2.2.2.2.2.1, x_1.2.2.2.2.2.2.2.2.2.1, x_1.2.2.2.2.2.2.2.2.2.2.1, x_1.2.2.2.2.2.2.2.2.2.2.2.1, x_1.2.2.2.2.2.2.2.2.2.2.2.2.1, x_1.2.2.2.2.2.2.2.2.2.2.2.2.2.1, x_1.2.2.2.2.2.2.2.2.2.2.2.2.2.2.1, 0, ()))) F (0, 0, 0, false, [], [], false, [], [], 0, 0, 0, 0, 0, 0, 0, false, [], [], false, [], [], 0, 0, 0, 0, 0, 0, ())) := by kernel_rfl
theorem iParse_m {F : Nat} (n0 : Nat) (x0 : List UInt8) : EF F (n0 + 1) 142 [.o (.c ⟨.str, x0⟩)] [.c (.int .i64), .c (.int .i64), .c (.int .i64)] = unwrapA (bif (Nat.cast (R := Int) (List.length x0)) != 14 then some (.ret (0, 0, 2, ())) else (ix x0 3).bind fun b => bif (Nat.cast (R := Int) b.toNat) != 45 then some (.ret (0, 0, 2, ())) else (ix x0 11).bind fun b => bif (Nat.cast (R := Int) b.toNat) != 45 then some (.ret (0, 0, 2, ())) else loopA 0 [tI, tI] (fun x => bif decide (x.1 < 6) then (ix ([[73, 84, 77], [70, 82, 77], [67, 65, 78], [83, 69, 83], [82, 65, 84], [65, 83, 84]] : List (List UInt8)) x.1).bind fun b => (sub x0 0 3).bind fun m => bif m == b then some (.cont 0 [tI, tI] (IntKind.i64.wrap (x.1 + 1), IntKind.i64.wrap (x.1 + 1), ())) else some (.cont 0 [tI, tI] (IntKind.i64.wrap (x.1 + 1), x.2.1, ())) else (sub x0 4 11).bind fun m => (EF F n0 191 [vS m] [.c (tI), .c tB]).bind fun x_1 => (sub x0 12 (Nat.cast (R := Int) (List.length x0))).bind fun m => (EF F n0 191 [vS m] [.c (tI), .c tB]).bind fun x_2 => bif x.2.1 == 0 then some (.ret (0, 0, 2, ())) else bif !x_1.2.1 then some (.ret (0, 0, 2, ())) else bif !x_2.2.1 then some (.ret (0, 0, 2, ())) else bif x_1.1 == 0 then some (.ret (0, 0, 3, ())) else (EF F n0 128 [vI x.2.1, vI x_1.1] [.c (tI)]).bind fun x_3 => bif x_2.1 != x_3.1 then some (.ret (0, 0, 12, ())) else some (.ret (x.2.1, x_1.1, 0, ()))) F (0, 0, ())) := by kernel_rfl
theorem zParse_m {F : Nat} (n0 : Nat) (x0 : List UInt8) : EF F (n0 + 1) 143 [.o (.c ⟨.str, x0⟩)] [.agg [.bool, .nat], .c (.int .i64)] = unwrapA (bif x0 == [45, 48] then some (.ret (false, [], 2, ())) else bif !x0 == [] then (ix x0 0).bind fun b => bif (Nat.cast (R := Int) b.toNat) == 45 then (sub x0 1 (Nat.cast (R := Int) (List.length x0))).bind fun m => (EF F n0 192 [vS m] [.c tN, .c (tI)]).bind fun x => bif x.2.1 != 0 then some (.ret (false, [], x.2.1, ())) else (EF F n0 130 [vB ((Nat.cast (R := Int) b.toNat) == 45), vN x.1] [.agg [tB, tN]]).bind fun x => some (.ret (x.1, x.2.1, 0, ())) else (EF F n0 192 [vS x0] [.c tN, .c (tI)]).bind fun x => bif x.2.1 != 0 then some (.ret (false, [], x.2.1, ())) else (EF F n0 130 [vB ((Nat.cast (R := Int) b.toNat) == 45), vN x.1] [.agg [tB, tN]]).bind fun x => some (.ret (x.1, x.2.1, 0, ())) else (EF F n0 192 [vS x0] [.c tN, .c (tI)]).bind fun x => bif x.2.1 != 0 then some (.ret (false, [], x.2.1, ())) else (EF F n0 130 [vB false, vN x.1] [.agg [tB, tN]]).bind fun x => some (.ret (x.1, x.2.1, 0, ()))) := by kernel_rfl
theorem zInt_m {F : Nat} (n0 : Nat) (x0 : Bool) (x1 : List Nat) : EF F (n0 + 1) 144 [.o (.agg [⟨.bool, x0⟩, ⟨.nat, x1⟩])] [.c (.int .i64), .c .bool] = unwrapA ((EF F n0 193 [vN x1] [.c (VT.int IntKind.u64), .c tB]).bind fun x => bif !x.2.1 then some (.ret (0, false, ())) else bif x0 then bif decide (9223372036854775808 < x.1) then some (.ret (0, false, ())) else some (.ret (IntKind.i64.wrap (IntKind.u64.wrap (0 - x.1)), true, ())) else bif decide (9223372036854775807 < x.1) then some (.ret (0, false, ())) else some (.ret (IntKind.i64.wrap x.1, true, ()))) := by kernel_rfl
theorem qParse_m {F : Nat} (n0 : Nat) (x0 : List UInt8) : EF F (n0 + 1) 145 [.o (.c ⟨.str, x0⟩)] [.agg [.bool, .nat, .nat], .c (.int .i64)] = unwrapA ((EF F n0 194 [vS x0, vS [47]] [.c tS, .c tS, .c tB]).bind fun x => (EF F n0 143 [vS x.1] [.agg [tB, tN], .c (tI)]).bind fun x_1 => bif x_1.2.2.1 != 0 then (EF F n0 186 [] [.agg [tB, tN, tN]]).bind fun x => some (.ret (x.1, x.2.1, x.2.2.1, x_1.2.2.1, ())) else (EF F n0 63 [.o (.c ⟨VT.int IntKind.u64, 1⟩)] [.c tN]).bind fun x_2 => bif x.2.2.1 then (EF F n0 192 [vS x.2.1] [.c tN, .c (tI)]).bind fun x => bif x.2.1 != 0 then (EF F n0 186 [] [.agg [tB, tN, tN]]).bind fun x_3 => some (.ret (x_3.1, x_3.2.1, x_3.2.2.1, x.2.1, ())) else bif (Nat.cast (R := Int) (List.length x.1)) == 0 then (EF F n0 186 [] [.agg [tB, tN, tN]]).bind fun x => some (.ret (x.1, x.2.1, x.2.2.1, 2, ())) else (EF F n0 123 [.o (.agg [⟨tB, x_1.1⟩, ⟨tN, x_1.2.1⟩]), vN x.1] [.agg [tB, tN, tN]]).bind fun x => some (.ret (x.1, x.2.1, x.2.2.1, 0, ())) else bif (Nat.cast (R := Int) (List.length x_2.1)) == 0 then (EF F n0 186 [] [.agg [tB, tN, tN]]).bind fun x => some (.ret (x.1, x.2.1, x.2.2.1, 2, ())) else (EF F n0 123 [.o (.agg [⟨tB, x_1.1⟩, ⟨tN, x_1.2.1⟩]), vN x_2.1] [.agg [tB, tN, tN]]).bind fun x => some (.ret (x.1, x.2.1, x.2.2.1, 0, ()))) := by kernel_rfl
theorem iNum_m {F : Nat} (n0 : Nat) (x0 : List UInt8) : EF F (n0 + 1) 191 [.o (.c ⟨.str, x0⟩)] [.c (.int .i64), .c .bool] = unwrapA (loopA 0 [tI, tI, tB, tI] (fun x => bif decide (x.1 < (Nat.cast (R := Int) (List.length x0))) then (ix x0 x.1).bind fun b => bif decide ((Nat.cast (R := Int) b.toNat) < 48) then some (.ret (0, false, ())) else (ix x0 x.1).bind fun b => bif decide (57 < (Nat.cast (R := Int) b.toNat)) then some (.ret (0, false, ())) else (ix x0 x.1).bind fun b => some (.cont 0 [tI, tI, tB, tI] (IntKind.i64.wrap (x.1 + 1), IntKind.i64.wrap (IntKind.i64.wrap (x.2.1 * 10) + IntKind.i64.wrap (IntKind.u8.wrap ((Nat.cast (R := Int) b.toNat) - 48))), x.2.2.1, x.2.2.2.1, ())) else some (.ret (x.2.1, true, ()))) F (0, 0, false, 0, ())) := by kernel_rfl
theorem nParse_m {F : Nat} (n0 : Nat) (x0 : List UInt8) : EF F (n0 + 1) 192 [.o (.c ⟨.str, x0⟩)] [.c .nat, .c (.int .i64)] = unwrapA (bif x0 == [] then some (.ret ([], 2, ())) else (ix x0 0).bind fun b => bif (Nat.cast (R := Int) b.toNat) == 48 then bif decide (1 < (Nat.cast (R := Int) (List.length x0))) then some (.ret ([], 2, ())) else loopA 0 [tN, tI, tI] (fun x => bif decide (x.2.1 < (Nat.cast (R := Int) (List.length x0))) then (ix x0 x.2.1).bind fun b => bif decide ((Nat.cast (R := Int) b.toNat) < 48) then some (.ret ([], 2, ())) else (ix x0 x.2.1).bind fun b => bif decide (57 < (Nat.cast (R := Int) b.toNat)) then some (.ret ([], 2, ())) else some (.cont 0 [tN, tI, tI] (x.1, IntKind.i64.wrap (x.2.1 + 1), x.2.2.1, ())) else bif decide (400 < (Nat.cast (R := Int) (List.length x0))) then some (.ret ([], 5, ())) else (EF F n0 63 [.o (.c ⟨VT.int IntKind.u64, 10⟩)] [.c tN]).bind fun x => loopA 0 [tN, tI] (fun x_1 => bif decide (x_1.2.1 < (Nat.cast (R := Int) (List.length x0))) then (EF F n0 95 [vN x_1.1, vN x.1] [.c tN]).bind fun x => (ix x0 x_1.2.1).bind fun b => (EF F n0 63 [.o (.c ⟨VT.int IntKind.u64, IntKind.u64.wrap (IntKind.u8.wrap ((Nat.cast (R := Int) b.toNat) - 48))⟩)] [.c tN]).bind fun x_2 => (EF F n0 202 [vN x.1, vN x_2.1] [.c tN]).bind fun x => some (.cont 0 [tN, tI] (x.1, IntKind.i64.wrap (x_1.2.1 + 1), ())) else some (.ret (x_1.1, 0, ()))) F ([], 0, ())) F ([], 0, 0, ()) else loopA 0 [tN, tI, tI] (fun x => bif decide (x.2.1 < (Nat.cast (R := Int) (List.length x0))) then (ix x0 x.2.1).bind fun b => bif decide ((Nat.cast (R := Int) b.toNat) < 48) then some (.ret ([], 2, ())) else (ix x0 x.2.1).bind fun b => bif decide (57 < (Nat.cast (R := Int) b.toNat)) then some (.ret ([], 2, ())) else some (.cont 0 [tN, tI, tI] (x.1, IntKind.i64.wrap (x.2.1 + 1), x.2.2.1, ())) else bif decide (400 < (Nat.cast (R := Int) (List.length x0))) then some (.ret ([], 5, ())) else (EF F n0 63 [.o (.c ⟨VT.int IntKind.u64, 10⟩)] [.c tN]).bind fun x => loopA 0 [tN, tI] (fun x_1 => bif decide (x_1.2.1 < (Nat.cast (R := Int) (List.length x0))) then (EF F n0 95 [vN x_1.1, vN x.1] [.c tN]).bind fun x => (ix x0 x_1.2.1).bind fun b => (EF F n0 63 [.o (.c ⟨VT.int IntKind.u64, IntKind.u64.wrap (IntKind.u8.wrap ((Nat.cast (R := Int) b.toNat) - 48))⟩)] [.c tN]).bind fun x_2 => (EF F n0 202 [vN x.1, vN x_2.1] [.c tN]).bind fun x => some (.cont 0 [tN, tI] (x.1, IntKind.i64.wrap (x_1.2.1 + 1), ())) else some (.ret (x_1.1, 0, ()))) F ([], 0, ())) F ([], 0, 0, ())) := by kernel_rfl
theorem nUint_m {F : Nat} (n0 : Nat) (x0 : List Nat) : EF F (n0 + 1) 193 [.o (.c ⟨.nat, x0⟩)] [.c (.int .u64), .c .bool] = unwrapA ((EF F n0 124 [vN x0] [.c tN]).bind fun x => bif decide (2 < (Nat.cast (R := Int) (List.length x.1))) then some (.ret (0, false, ())) else loopA 0 [tI, VT.int IntKind.u64] (fun x_1 => bif decide (x_1.1 < (Nat.cast (R := Int) (List.length x.1))) then (ix x.1 x_1.1).bind fun y => bif decide (0 ≤ IntKind.i64.wrap (32 * x_1.1)) then some (.cont 0 [tI, VT.int IntKind.u64] (IntKind.i64.wrap (x_1.1 + 1), IntKind.u64.wrap (Nat.cast (R := Int) (BitVec.ofInt IntKind.u64.bits x_1.2.1 ||| BitVec.ofInt IntKind.u64.bits (IntKind.u64.wrap (IntKind.u64.wrap (Nat.cast (R := Int) y) * 2 ^ min (IntKind.i64.wrap (32 * x_1.1)).toNat IntKind.u64.bits))).toNat), ())) else none else some (.ret (x_1.2.1, true, ()))) F (0, 0, ())) := by kernel_rfl
theorem nTrim_m {F : Nat} (n0 : Nat) (x0 : List Nat) : EF F (n0 + 1) 124 [.o (.c ⟨.nat, x0⟩)] [.c .nat] = unwrapA (loopA 0 [tN] (fun x => bif decide (0 < (Nat.cast (R := Int) (List.length x.1))) then (ix x.1 (IntKind.i64.wrap ((Nat.cast (R := Int) (List.length x.1)) - 1))).bind fun y => bif (Nat.cast (R := Int) y) == 0 then (sub x.1 0 (IntKind.i64.wrap ((Nat.cast (R := Int) (List.length x.1)) - 1))).bind fun m => some (.cont 0 [tN] (m, ())) else some (.ret (x.1, ())) else some (.ret (x.1, ()))) F (x0, ())) := by kernel_rfl
theorem zero_m {F : Nat} (n0 : Nat)  : EF F (n0 + 1) 186 [] [.agg [.bool, .nat, .nat]] = unwrapA ((EF F n0 63 [.o (.c ⟨VT.int IntKind.u64, 1⟩)] [.c tN]).bind fun x => some (.ret (false, [], x.1, ()))) := by kernel_rfl
end Go.Proofs.YtcggnmddcbhchaaGreatDoor
set_option linter.unusedSimpArgs false
set_option linter.unusedVariables false
namespace Go.Proofs.YtcggnmddcbhchaaGreatDoor
open Go.RowKit Lim
theorem splN_cut {c : UInt8} {r : List UInt8} (k : Nat) : ∀ (x : List UInt8), c ∉ x → splN c (x ++ c :: r) (k + 1) = x :: splN c r k
 | [], _ => by simp [splN]
 | b :: x, h => by
  have hb : (b == c) = false := by
   rw [beq_eq_false_iff_ne]
   intro e
   exact h (by rw [e]; exact List.mem_cons_self)
  simp only [List.cons_append, splN, hb, cond_false]
  rw [splN_cut k x (fun hm => h (List.mem_cons_of_mem _ hm))]
  rfl
theorem splN_one {c : UInt8} : ∀ (x : List UInt8) (k : Nat), c ∉ x → splN c x k = [x]
 | [], k, _ => by cases k <;> rfl
 | b :: x, 0, _ => rfl
 | b :: x, k + 1, h => by
  have hb : (b == c) = false := by
   rw [beq_eq_false_iff_ne]
   intro e
   exact h (by rw [e]; exact List.mem_cons_self)
  simp only [splN, hb, cond_false]
  rw [splN_one x (k + 1) (fun hm => h (List.mem_cons_of_mem _ hm))]
  rfl
theorem splN_head {c : UInt8} : ∀ (s : List UInt8) (k : Nat), (splN c s (k + 1) = [s] ∧ c ∉ s) ∨ ∃ x r, s = x ++ c :: r ∧ c ∉ x ∧ splN c s (k + 1) = x :: splN c r k
 | [], k => .inl ⟨rfl, by simp⟩
 | b :: s, k => by
  simp only [splN]
  cases hb : b == c with
  | true =>
   have hb := eq_of_beq hb
   subst hb
   exact .inr ⟨[], s, rfl, by simp, by simp⟩
  | false =>
   rw [beq_eq_false_iff_ne] at hb
   rw [cond_false]
   rcases splN_head (c := c) s k with ⟨h1, h2⟩ | ⟨x, r, h1, h2, h3⟩
   ·exact .inl ⟨by rw [h1]; rfl, fun hm => by rcases List.mem_cons.1 hm with e | e; exact hb e.symm; exact h2 e⟩
   ·exact .inr ⟨b :: x, r, by rw [h1]; rfl, fun hm => by rcases List.mem_cons.1 hm with e | e; exact hb e.symm; exact h2 e, by rw [h3]; rfl⟩
theorem valD_end (s : List UInt8) (b : UInt8) : valD (s ++ [b]) = valD s * 10 + (b.toNat - 48) := by simp [valD, List.foldl_append]
theorem isD_rng {b : UInt8} : isD b = true ↔ 48 ≤ b.toNat ∧ b.toNat ≤ 57 := by simp [isD]
theorem dig_of {b : UInt8} (h : isD b = true) : UInt8.ofNat (48 + (b.toNat - 48)) = b := by
 obtain ⟨h1, h2⟩ := isD_rng.1 h
 rw [show 48 + (b.toNat - 48) = b.toNat by omega]
 exact UInt8.ofNat_toNat
theorem dd_of : ∀ (k : Nat) (s : List UInt8), s.length = k → s.all isD = true → s ≠ [] → (1 < s.length → s.head? ≠ some 48) → Lib.decDigits (valD s) = s ∧ (s.head? ≠ some 48 → 0 < valD s)
 | 0, s, hk, _, hn, _ => absurd (List.length_eq_zero_iff.1 hk) hn
 | k + 1, s, hk, ha, hn, hz => by
  obtain ⟨r, b, rfl⟩ : ∃ r b, s = r ++ [b] := ⟨s.dropLast, s.getLast hn, (List.dropLast_concat_getLast hn).symm⟩
  rw [List.all_append] at ha
  obtain ⟨ha, hb⟩ := Bool.and_eq_true_iff.1 ha
  simp only [List.all_cons, List.all_nil, Bool.and_true] at hb
  have hb2 := isD_rng.1 hb
  rw [valD_end]
  by_cases hr : r = []
  ·subst hr
   have e : valD [] = 0 := rfl
   rw [e, Nat.zero_mul, Nat.zero_add, Lib.decDigits_one (by omega), dig_of hb]
   refine ⟨rfl, fun h => ?_⟩
   have : b.toNat ≠ 48 := fun h2 => h (by simp; exact UInt8.toNat_inj.1 (by simpa using h2))
   omega
  ·have hl : 1 < (r ++ [b]).length := by
    have := List.length_pos_iff.2 hr
    simp; omega
   have hh : r.head? ≠ some 48 := by
    have := hz hl
    cases r with
    | nil => exact absurd rfl hr
    | cons c r => simpa using this
   obtain ⟨h1, h2⟩ := dd_of k r (by simpa using hk) ha hr (fun _ => hh)
   have h3 := h2 hh
   rw [dec_big (by omega), show (valD r * 10 + (b.toNat - 48)) / 10 = valD r by omega, show (valD r * 10 + (b.toNat - 48)) % 10 = b.toNat - 48 by omega, h1, dig_of hb]
   exact ⟨rfl, fun _ => by omega⟩
theorem valD_low : ∀ (k : Nat) (s : List UInt8), s.length = k → s.all isD = true → valD s < 10 ^ k
 | 0, s, hk, _ => by rw [List.length_eq_zero_iff.1 hk]; simp [valD]
 | k + 1, s, hk, ha => by
  have hn : s ≠ [] := fun h => by rw [h] at hk; simp at hk
  obtain ⟨r, b, rfl⟩ : ∃ r b, s = r ++ [b] := ⟨s.dropLast, s.getLast hn, (List.dropLast_concat_getLast hn).symm⟩
  rw [List.all_append] at ha
  obtain ⟨ha, hb⟩ := Bool.and_eq_true_iff.1 ha
  simp only [List.all_cons, List.all_nil, Bool.and_true] at hb
  have hb2 := isD_rng.1 hb
  have := valD_low k r (by simpa using hk) ha
  rw [valD_end, Nat.pow_succ]
  omega
theorem dd_len {n k : Nat} (hk : 0 < k) (h : n < 10 ^ k) : (Lib.decDigits n).length ≤ k := by
 induction n using Nat.strongRecOn generalizing k with
 | _ n ih =>
  by_cases h10 : n < 10
  ·rw [Lib.decDigits_one h10]; simp; omega
  ·obtain ⟨j, rfl⟩ := Nat.exists_eq_succ_of_ne_zero (show k ≠ 0 by omega)
   have hj : 0 < j := by
    cases j with
    | zero => simp at h; omega
    | succ j => omega
   have := ih (n / 10) (by omega) hj (by rw [Nat.succ_eq_add_one, Nat.pow_succ] at h; omega)
   rw [dec_big h10]
   simp; omega
section
variable {c : UInt8}
theorem index_missC {s : List UInt8} (h : c ∉ s) : Lib.index s [c] = -1 := by
 induction s with
 | nil => rfl
 | cons b s ih =>
  simp only [List.mem_cons, not_or] at h
  unfold Lib.index
  have : ([c] : List UInt8).isPrefixOf (b :: s) = false := by
   simp [List.isPrefixOf]
   exact h.1
  rw [this, ih h.2]
  rfl
theorem index_atC {a b : List UInt8} (h : c ∉ a) : Lib.index (a ++ c :: b) [c] = (a.length : Int) := by
 induction a with
 | nil =>
  rw [List.nil_append]
  unfold Lib.index
  simp [List.isPrefixOf]
 | cons d a ih =>
  simp only [List.mem_cons, not_or] at h
  rw [List.cons_append]
  unfold Lib.index
  have : ([c] : List UInt8).isPrefixOf (d :: (a ++ c :: b)) = false := by
   simp [List.isPrefixOf]
   exact h.1
  rw [this, ih h.2]
  have h2 : ((a.length : Int) == -1) = false := by rw [beq_eq_false_iff_ne]; omega
  simp [h2]
theorem cut_missC {s : List UInt8} (h : c ∉ s) : Lib.cut s [c] = (s, [], false) := by
 unfold Lib.cut
 rw [index_missC h]
 rfl
theorem cut_atC {a b : List UInt8} (h : c ∉ a) : Lib.cut (a ++ c :: b) [c] = (a, b, true) := by
 unfold Lib.cut
 rw [index_atC h, if_pos (by omega)]
 simp
end
end Go.Proofs.YtcggnmddcbhchaaGreatDoor
set_option linter.unusedSimpArgs false
set_option linter.unusedVariables false
namespace Go.Proofs.YtcggnmddcbhchaaGreatDoor
open Go.RowKit Lim
def e400 : Nat := 400
theorem ten400 : Nat.log2 (10 ^ e400 * 10) ≤ 34359738368 := by
 have : Nat.log2 (10 ^ e400 * 10) = 1332 := by decide +kernel
 omega
theorem ten_le : 10 ≤ 10 ^ e400 := by
 have : 10 ^ 1 ≤ 10 ^ e400 := Nat.pow_le_pow_right (by omega) (by decide)
 simpa using this
theorem capN_400 {n : Nat} (h : n ≤ 10 ^ e400 * 10) : capN (limbsK n) = true := capN_K (Nat.le_trans (log2_le h) ten400)
theorem digit_int {b : UInt8} (h : isD b = true) : ((b.toNat : Int) < 48) = False ∧ (57 < (b.toNat : Int)) = False := by
 have := isD_rng.1 h
 exact ⟨by simp; omega, by simp; omega⟩
theorem not_digit {b : UInt8} (h : isD b = false) : (b.toNat : Int) < 48 ∨ (¬ (b.toNat : Int) < 48 ∧ 57 < (b.toNat : Int)) := by
 have : ¬ (48 ≤ b.toNat ∧ b.toNat ≤ 57) := fun hh => by rw [isD_rng.2 hh] at h; cases h
 omega
theorem u8_sub {b : UInt8} (h : isD b = true) : IntKind.u64.wrap (IntKind.u8.wrap ((b.toNat : Int) - 48)) = ((b.toNat - 48 : Nat) : Int) := by
 have := isD_rng.1 h
 have e : IntKind.u8.wrap ((b.toNat : Int) - 48) = ((b.toNat - 48 : Nat) : Int) := by
  simp [IntKind.wrap, IntKind.bits, IntKind.signed]
  omega
 rw [e]
 exact u64w (by omega) (by omega)
theorem takeD_all {s : List UInt8} {k : Nat} (hk : k < s.length) (h1 : (s.take k).all isD = true) (h2 : isD s[k] = true) : (s.take (k + 1)).all isD = true := by
 rw [List.take_add_one, List.all_append, h1, List.getElem?_eq_getElem hk]
 simpa using h2
theorem all_at {s : List UInt8} {k : Nat} (hk : k < s.length) (h : isD s[k] = false) : s.all isD = false := by
 cases hh : s.all isD with
 | false => rfl
 | true => rw [List.all_eq_true.1 hh _ (List.getElem_mem hk)] at h; cases h
theorem takeD_val {s : List UInt8} {k : Nat} (hk : k < s.length) : valD (s.take (k + 1)) = valD (s.take k) * 10 + (s[k].toNat - 48) := by
 rw [List.take_add_one, List.getElem?_eq_getElem hk]
 exact valD_end _ _
theorem valD_400 {s : List UInt8} (hs : s.length ≤ 400) (ha : s.all isD = true) (k : Nat) : valD (s.take k) < 10 ^ e400 := by
 have h1 : (s.take k).all isD = true := List.all_eq_true.2 fun x hx => List.all_eq_true.1 ha x (List.mem_of_mem_take hx)
 refine Nat.lt_of_lt_of_le (valD_low _ _ rfl h1) (Nat.pow_le_pow_right (by omega) ?_)
 rw [List.length_take]
 unfold e400
 omega
def natE (s : List UInt8) : Int := bif s.isEmpty then 2 else bif s.head? == some 48 && decide (1 < s.length) then 2 else bif s.all isD then (bif decide (400 < s.length) then 5 else 0) else 2
def natA (s : List UInt8) : List Nat × Int × Unit := bif s.all isD then (bif decide (400 < s.length) then ([], 5, ()) else (limbsK (valD s), 0, ())) else ([], 2, ())
section
variable (n : Nat)
theorem nParse_e (s : List UInt8) (hs : s.length ≤ 4294967296) : EF fuel (n + 2) 192 [vS s] [.c .nat, .c (.int .i64)] = some (bif natE s == 0 then (limbsK (valD s), 0, ()) else ([], natE s, ())) := by
 have key : ∀ {K : Option (Ans (denL [tN, tI]))} {st : denL [tN, tI, tI] → Option (Ans (denL [tN, tI]))} , (∀ k, (hk : k < s.length) → st ([], (k : Int), 0, ()) = bif isD s[k] then some (.cont 0 [tN, tI, tI] ([], ((k + 1 : Nat) : Int), 0, ())) else some (.ret ([], 2, ()))) → st ([], (s.length : Int), 0, ()) = K → (s.all isD = true → K = some (.ret (natA s))) → loopA 0 [tN, tI, tI] st fuel ([], 0, 0, ()) = some (.ret (natA s)) := by
  intro K st h1 h2 h3
  refine loopA_inv (ts := [tN, tI, tI]) (fun x => ∃ k, k ≤ s.length ∧ x = ([], (k : Int), 0, ()) ∧ (s.take k).all isD = true) (fun (x : List Nat × Int × Int × Unit) => s.length - x.2.1.toNat) (fun x hx => ?_) _ ⟨0, by omega, rfl, by simp⟩ (fuel_lt (by omega))
  obtain ⟨k, hk, rfl, ha⟩ := hx
  by_cases hk2 : k = s.length
  ·subst hk2
   rw [List.take_length] at ha
   exact .inl ⟨by rw [h2, h3 ha], rfl⟩
  ·have hk3 : k < s.length := by omega
   rw [h1 k hk3]
   cases hd : isD s[k] with
   | false => exact .inl ⟨by rw [cond_false]; unfold natA; rw [all_at hk3 hd]; rfl, rfl⟩
   | true =>
    refine .inr ⟨_, rfl, ⟨k + 1, by omega, rfl, takeD_all hk3 ha hd⟩, ?_⟩
    show s.length - ((k + 1 : Nat) : Int).toNat < s.length - (k : Int).toNat
    omega
 refine (nParse_m (n + 1) s).trans ?_
 have c48 : ∀ b : UInt8, ((b.toNat : Int) == 48) = (b == 48) := fun b => by
  rw [Bool.eq_iff_iff, beq_iff_eq, beq_iff_eq]
  refine ⟨fun h => UInt8.toNat_inj.1 (by show b.toNat = 48; omega), fun h => by rw [h]; rfl⟩
 have fin : ∀ (q : Bool), natE s = (bif q then natE s else natE s) := fun q => by cases q <;> rfl
 cases s with
 | nil => rfl
 | cons b0 s0 =>
  have hne : ((b0 :: s0 : List UInt8) == []) = false := rfl
  rw [hne, cond_false, show ix (b0 :: s0) 0 = some b0 from rfl, Option.bind_some, c48]
  generalize hs' : b0 :: s0 = s at *
  have hnil : s.isEmpty = false := by subst hs'; rfl
  have hh : s.head? = some b0 := by subst hs'; rfl
  have lp : ∀ {o : Option (Ans (denL [tN, tI]))}, o = some (.ret (natA s)) → (b0 == 48 && decide (1 < s.length)) = false → unwrapA o = some (bif natE s == 0 then (limbsK (valD s), 0, ()) else ([], natE s, ())) := by
   intro o ho hz
   rw [ho]
   unfold natE natA
   rw [hnil, hh, show ((some b0 : Option UInt8) == some 48) = (b0 == 48) from rfl, hz, cond_false, cond_false]
   cases s.all isD
   ·rfl
   ·cases decide (400 < s.length) <;> rfl
  have main : ∀ {o : Option (Ans (denL [tN, tI]))}, o = loopA 0 [tN, tI, tI] (fun x => bif decide (x.snd.fst < (Nat.cast (R := Int) (List.length s))) then (ix s x.snd.fst).bind fun b => bif decide ((Nat.cast (R := Int) b.toNat) < 48) then some (.ret ([], 2, ())) else (ix s x.snd.fst).bind fun b => bif decide (57 < (Nat.cast (R := Int) b.toNat)) then some (.ret ([], 2, ())) else some (.cont 0 [tN, tI, tI] (x.fst, IntKind.i64.wrap (x.snd.fst + 1), x.snd.snd.fst, ())) else bif decide (400 < (Nat.cast (R := Int) (List.length s))) then some (.ret ([], 5, ())) else (EF fuel (n + 1) 63 [V.o (V0.c { t := VT.int IntKind.u64, x := 10 })] [Sg.c tN]).bind fun x => loopA 0 [tN, tI] (fun x_1 => bif decide (x_1.snd.fst < (Nat.cast (R := Int) (List.length s))) then (EF fuel (n + 1) 95 [vN x_1.fst, vN x.fst] [Sg.c tN]).bind fun x => (ix s x_1.snd.fst).bind fun b => (EF fuel (n + 1) 63 [V.o (V0.c { t := VT.int IntKind.u64, x := IntKind.u64.wrap (IntKind.u8.wrap ((Nat.cast (R := Int) b.toNat) - 48)) })] [Sg.c tN]).bind fun x_2 => (EF fuel (n + 1) 202 [vN x.fst, vN x_2.fst] [Sg.c tN]).bind fun x => some (.cont 0 [tN, tI] (x.fst, IntKind.i64.wrap (x_1.snd.fst + 1), ())) else some (.ret (x_1.fst, 0, ()))) fuel ([], 0, ())) fuel ([], 0, 0, ()) → o = some (.ret (natA s)) := by
   intro o ho
   rw [ho]
   refine key (fun k hk => ?_) rfl (fun ha => ?_)
   ·dsimp only
    rw [dlt hk, cond_true, ix_lt hk, Option.bind_some]
    cases hd : isD s[k] with
    | false =>
     rcases not_digit hd with h | ⟨h, h2⟩
     ·rw [decide_eq_true h]; rfl
     ·rw [decide_eq_false h, cond_false, Option.bind_some, decide_eq_true h2]; rfl
    | true =>
     obtain ⟨h1, h2⟩ := digit_int hd
     rw [decide_eq_false (by rw [h1]; exact id), cond_false, Option.bind_some, decide_eq_false (by rw [h2]; exact id), cond_false, cond_true, w64n (by omega)]
   ·dsimp only
    rw [dge (Nat.le_refl _), cond_false]
    unfold natA
    rw [ha, cond_true]
    have c4 : decide (400 < (s.length : Int)) = decide (400 < s.length) := decide_eq_decide.2 (by omega)
    rw [c4]
    cases h4 : decide (400 < s.length) with
    | true => rfl
    | false =>
     have h4 := of_decide_eq_false h4
     rw [cond_false, cond_false, bind_go (pNOf_e n 10 (capU_ok (by omega) (by omega)))]
     refine loopA_range (R := denL [tN, tI]) (ts := [tN, tI]) (N := s.length) (fun k => (limbsK (valD (s.take k)), (k : Int), ())) (fun k hk => ?_) ?_ rfl (fuel_lt (by omega))
     ·have v1 := valD_400 (by omega) ha k
      have hd : isD s[k] = true := List.all_eq_true.1 ha _ (List.getElem_mem hk)
      have hd2 := isD_rng.1 hd
      dsimp only
      have q0 := ten_le
      have q1 : capN (limbsK (valD (s.take k))) = true := capN_400 (by omega)
      have q2 : valD (s.take k) * 10 ≤ 10 ^ e400 * 10 := by omega
      rw [dlt hk, cond_true, bind_go (pNMul_e n _ _ q1 (capN_400 (n := (10 : Int).toNat) (by show 10 ≤ _; omega))), ix_lt hk, Option.bind_some, u8_sub hd, bind_go (pNOf_e n _ (capU_ok (by omega) (by omega)))]
      dsimp only
      rw [val_K, val_K, show Int.toNat 10 = 10 from rfl, bind_go (pNAdd_e n _ _ (capN_400 q2) (capN_400 (n := ((s[k].toNat - 48 : Nat) : Int).toNat) (by rw [Int.toNat_natCast]; omega))), val_K, val_K, w64n (by omega), takeD_val hk, Int.toNat_natCast]
     ·dsimp only
      rw [dge (Nat.le_refl _), cond_false, List.take_length]
  cases hz : b0 == 48
  ·rw [cond_false]
   exact lp (main rfl) (by rw [hz]; rfl)
  ·rw [cond_true]
   have c1 : decide (1 < (s.length : Int)) = decide (1 < s.length) := decide_eq_decide.2 (by omega)
   rw [c1]
   cases hl : decide (1 < s.length)
   ·rw [cond_false]
    exact lp (main rfl) (by rw [hl, Bool.and_false])
   ·rw [cond_true]
    unfold natE
    rw [hnil, hh, show ((some b0 : Option UInt8) == some 48) = (b0 == 48) from rfl, hz, hl]
    rfl
end
end Go.Proofs.YtcggnmddcbhchaaGreatDoor
set_option linter.unusedSimpArgs false
set_option linter.unusedVariables false
namespace Go.Proofs.YtcggnmddcbhchaaGreatDoor
open Go.RowKit Lim
theorem natE_ok {s : List UInt8} (h : natE s = 0) : s.all isD = true ∧ s ≠ [] ∧ s.length ≤ 400 ∧ (1 < s.length → s.head? ≠ some 48) := by
 unfold natE at h
 cases h1 : s.isEmpty with
 | true => rw [h1] at h; cases h
 | false =>
  rw [h1, cond_false] at h
  cases h2 : (s.head? == some 48 && decide (1 < s.length)) with
  | true => rw [h2] at h; cases h
  | false =>
   rw [h2, cond_false] at h
   cases h3 : s.all isD with
   | false => rw [h3] at h; cases h
   | true =>
    rw [h3, cond_true] at h
    cases h4 : decide (400 < s.length) with
    | true => rw [h4] at h; cases h
    | false =>
     refine ⟨rfl, fun e => (by rw [e] at h1; cases h1), (by have := of_decide_eq_false h4; omega), fun hl e => ?_⟩
     rw [e, decide_eq_true hl] at h2
     cases h2
theorem natE_lt {s : List UInt8} (h : natE s = 0) : valD s < 10 ^ e400 := by
 obtain ⟨h1, _, h3, _⟩ := natE_ok h
 have := valD_400 h3 h1 s.length
 rwa [List.take_length] at this
theorem natE_back {s : List UInt8} (h : natE s = 0) : decK (valD s) = s := by
 obtain ⟨h1, h2, _, h4⟩ := natE_ok h
 rw [decK_eq]
 exact (dd_of _ s rfl h1 h2 h4).1
def zneg (s : List UInt8) : Bool := s.head? == some 45
def zbody (s : List UInt8) : List UInt8 := bif zneg s then s.drop 1 else s
def intE (s : List UInt8) : Int := bif s == [45, 48] then 2 else natE (zbody s)
def intV (s : List UInt8) : Int := sg (zneg s) (valD (zbody s))
theorem intV_lt {s : List UInt8} (h : intE s = 0) : (intV s).natAbs < 10 ^ e400 := by
 unfold intE at h
 cases h1 : s == [45, 48] with
 | true => rw [h1] at h; cases h
 | false =>
  rw [h1, cond_false] at h
  have := natE_lt h
  unfold intV
  rw [sg_abs]
  exact this
section
variable (n : Nat)
theorem zParse_e (s : List UInt8) (hs : s.length ≤ 4294967296) : EF fuel (n + 3) 143 [vS s] [.agg [.bool, .nat], .c (.int .i64)] = some (bif intE s == 0 then (decide (intV s < 0), limbsK (intV s).natAbs, 0, ()) else (false, [], intE s, ())) := by
 have zfin : ∀ (t : Bool) (m : List UInt8), m.length ≤ 4294967296 → unwrapA ((EF fuel (n + 2) 192 [vS m] [Sg.c tN, Sg.c (tI)]).bind fun x => bif x.snd.fst != 0 then some (.ret ((false, [], x.snd.fst, ()) : denL [tB, tN, tI])) else (EF fuel (n + 2) 130 [vB t, vN x.fst] [Sg.agg [tB, tN]]).bind fun x => some (.ret (x.fst, x.snd.fst, 0, ()))) = some (bif natE m == 0 then (decide (sg t (valD m) < 0), limbsK (sg t (valD m)).natAbs, 0, ()) else (false, [], natE m, ())) := by
  intro t m hm
  rw [bind_go (nParse_e n m hm)]
  cases h0 : natE m == 0 with
  | false =>
   rw [cond_false, cond_false]
   dsimp only
   rw [show (natE m != 0) = !(natE m == 0) from rfl, h0]
   rfl
  | true =>
   have h1 := eq_of_beq h0
   rw [cond_true, cond_true]
   dsimp only
   rw [bne_self_eq_false, cond_false, bind_go (pIMake_e (n + 1) t _ (capN_400 (by have := natE_lt h1; omega))), val_K]
   rfl
 refine (zParse_m (n + 2) s).trans ?_
 unfold intE intV
 cases h1 : s == [45, 48] with
 | true => rfl
 | false =>
  rw [cond_false, cond_false]
  cases s with
  | nil =>
   rw [show (([] : List UInt8) == []) = true from rfl, Bool.not_true, cond_false, show zbody [] = [] from rfl, show zneg [] = false from rfl]
   exact zfin false [] (Nat.zero_le _)
  | cons b s =>
   rw [show ((b :: s : List UInt8) == []) = false from rfl, Bool.not_false, cond_true, show ix (b :: s) 0 = some b from rfl, Option.bind_some]
   have c45 : ((b.toNat : Int) == 45) = (b == 45) := by
    rw [Bool.eq_iff_iff, beq_iff_eq, beq_iff_eq]
    refine ⟨fun h => UInt8.toNat_inj.1 (by show b.toNat = 45; omega), fun h => by rw [h]; rfl⟩
   have hz : zneg (b :: s) = (b == 45) := rfl
   rw [c45]
   unfold zbody
   rw [hz]
   cases hb : b == 45 with
   | true =>
    rw [cond_true, cond_true]
    have e : sub (b :: s) 1 ((b :: s).length : Int) = some s := by
     have := sub_le (l := b :: s) (a := 1) (b := (b :: s).length) (by simp) (Nat.le_refl _)
     rw [List.take_length] at this
     exact this
    rw [e, Option.bind_some]
    exact zfin true s (by have : s.length + 1 ≤ 4294967296 := hs; omega)
   | false =>
    rw [cond_false, cond_false]
    exact zfin false (b :: s) hs
end
end Go.Proofs.YtcggnmddcbhchaaGreatDoor
set_option linter.unusedSimpArgs false
set_option linter.unusedVariables false
namespace Go.Proofs.YtcggnmddcbhchaaGreatDoor
open Go.RowKit Lim
theorem or64 {a y i : Nat} (hi : i ≤ 1) (ha : a < 2 ^ (32 * i)) (hy : y < 4294967296) :
  IntKind.u64.wrap ((BitVec.ofInt IntKind.u64.bits (a : Int) ||| BitVec.ofInt IntKind.u64.bits (IntKind.u64.wrap (IntKind.u64.wrap (y : Int) * 2 ^ min (IntKind.i64.wrap (32 * (i : Int))).toNat IntKind.u64.bits))).toNat : Int) = ((a + 2 ^ (32 * i) * y : Nat) : Int) := by
 have e1 : IntKind.u64.wrap (y : Int) = y := u64w (by omega) (by omega)
 have e2 : IntKind.i64.wrap (32 * (i : Int)) = ((32 * i : Nat) : Int) := by rw [w64 (by omega) (by omega)]; omega
 rw [e1, e2, Int.toNat_natCast]
 have hb : ∀ x : Nat, x < 18446744073709551616 → (BitVec.ofInt IntKind.u64.bits (x : Int)).toNat = x := fun x hx => by
  rw [BitVec.ofInt_natCast, BitVec.toNat_ofNat]
  exact Nat.mod_eq_of_lt hx
 rcases (show i = 0 ∨ i = 1 by omega) with rfl | rfl
 ·have ha0 : a = 0 := by simpa using ha
  subst ha0
  rw [show (y : Int) * 2 ^ min (32 * 0) IntKind.u64.bits = (y : Int) by show (y : Int) * 1 = y; omega, e1, BitVec.toNat_or, hb 0 (by omega), hb y (by omega), Nat.zero_or]
  rw [u64w (by omega) (by omega)]
  simp
 ·have ha2 : a < 4294967296 := ha
  have e3 : (y : Int) * 2 ^ min (32 * 1) IntKind.u64.bits = ((4294967296 * y : Nat) : Int) := by
   show (y : Int) * 4294967296 = _
   omega
  have e4 := Nat.two_pow_add_eq_or_of_lt (b := a) (i := 32) ha2 y
  rw [e3, u64w (z := ((4294967296 * y : Nat) : Int)) (by omega) (by omega), BitVec.toNat_or, hb a (by omega), hb (4294967296 * y) (by omega), Nat.or_comm, show 4294967296 * y ||| a = 4294967296 * y + a from e4.symm, u64w (z := ((4294967296 * y + a : Nat) : Int)) (by omega) (by omega)]
  omega
theorem neg_wr {n : Nat} (h1 : 0 < n) (h2 : n ≤ 9223372036854775808) : IntKind.i64.wrap (IntKind.u64.wrap (0 - (n : Int))) = -(n : Int) := by
 have e : IntKind.u64.wrap (0 - (n : Int)) = 18446744073709551616 - (n : Int) := by
  simp [IntKind.wrap, IntKind.bits, IntKind.signed]
  omega
 rw [e]
 simp [IntKind.wrap, IntKind.bits, IntKind.signed]
 omega
section
variable (n : Nat)
theorem trim_e (m : Nat) (hl : (limbsK m).length ≤ 1073741824) : EF fuel (n + 1) 124 [vN (limbsK m)] [.c .nat] = some (limbsK m, ()) := by
 have hN := nrm_limbs m
 rw [← limbsK_eq] at hN
 refine (nTrim_m n (limbsK m)).trans ?_
 generalize limbsK m = l at *
 refine congrArg (a₂ := some (Ans.ret (l, ()))) unwrapA ?_
 refine loopA_range (R := denL [tN]) (ts := [tN]) (N := 0) (fun _ => (l, ())) (fun k hk => absurd hk (by omega)) ?_ rfl (fuel_lt (by omega))
 dsimp only
 by_cases h0 : 0 < l.length
 ·have e : IntKind.i64.wrap ((l.length : Int) - 1) = ((l.length - 1 : Nat) : Int) := by rw [w64 (by omega) (by omega)]; omega
  have hx := hN h0
  rw [decide_eq_true (show 0 < (l.length : Int) by omega), cond_true, e, ix_lt (show l.length - 1 < l.length by omega), Option.bind_some]
  have : (((l[l.length - 1] : Nat) : Int) == 0) = false := by
   rw [beq_eq_false_iff_ne]
   omega
  rw [this, cond_false]
 ·rw [decide_eq_false (show ¬ 0 < (l.length : Int) by omega), cond_false]
theorem uint_e (m : Nat) (hl : (limbsK m).length ≤ 1073741824) : EF fuel (n + 2) 193 [vN (limbsK m)] [.c (.int .u64), .c .bool] = some (bif decide (m < 18446744073709551616) then ((m : Int), true, ()) else (0, false, ())) := by
 refine (nUint_m (n + 1) (limbsK m)).trans ?_
 rw [bind_go (trim_e n m hl)]
 have hD : Dig (limbsK m) := by rw [limbsK_eq]; exact dig_limbs m
 have hV : val (limbsK m) = m := val_K m
 have hN := nrm_limbs m
 rw [← limbsK_eq] at hN
 generalize limbsK m = l at *
 have p2 : pw 2 = 18446744073709551616 := by decide +kernel
 dsimp only
 by_cases h2 : 2 < l.length
 ·have : pw 2 ≤ m := by
   have h3 := nrm_low hN (by omega)
   rw [hV] at h3
   exact Nat.le_trans (pw_mono (by omega)) h3
  rw [decide_eq_true (show 2 < (l.length : Int) by omega), cond_true, decide_eq_false (by omega)]
  rfl
 ·have : m < pw 2 := by
   have h3 := val_lt hD
   rw [hV] at h3
   exact Nat.lt_of_lt_of_le h3 (pw_mono (by omega))
  rw [decide_eq_false (show ¬ 2 < (l.length : Int) by omega), cond_false, decide_eq_true (show m < 18446744073709551616 by omega), cond_true]
  refine congrArg (a₂ := some (Ans.ret ((m : Int), true, ()))) unwrapA ?_
  refine loopA_range (R := denL [VT.int .u64, tB]) (ts := [tI, VT.int IntKind.u64]) (N := l.length) (fun i => ((i : Int), ((val (l.take i) : Nat) : Int), ())) (fun i hi => ?_) ?_ rfl (fuel_lt (by omega))
  ·dsimp only
   have hx : l[i] < 4294967296 := hD _ (List.getElem_mem hi)
   have e2 : IntKind.i64.wrap (32 * (i : Int)) = ((32 * i : Nat) : Int) := by rw [w64 (by omega) (by omega)]; omega
   have hv : val (l.take i) < 2 ^ (32 * i) := by
    have h1 : Dig (l.take i) := fun x hx => hD x (List.mem_of_mem_take hx)
    have h3 := val_lt h1
    rw [List.length_take, Nat.min_eq_left (by omega)] at h3
    have : pw i = 2 ^ (32 * i) := by unfold pw; rw [Nat.pow_mul]
    omega
   rw [dlt hi, cond_true, ix_lt hi, Option.bind_some, decide_eq_true (show 0 ≤ IntKind.i64.wrap (32 * (i : Int)) by rw [e2]; omega), cond_true, w64n (by omega)]
   rw [or64 (by omega) hv hx]
   have e : l.take (i + 1) = l.take i ++ [l[i]] := by rw [List.take_add_one, List.getElem?_eq_getElem hi]; rfl
   have e3 : val (l.take (i + 1)) = val (l.take i) + 2 ^ (32 * i) * l[i] := by
    rw [e, val_snoc, List.length_take, Nat.min_eq_left (by omega)]
    have : pw i = 2 ^ (32 * i) := by unfold pw; rw [Nat.pow_mul]
    rw [this]
   rw [e3]
  ·dsimp only
   rw [dge (Nat.le_refl _), cond_false, List.take_length, hV]
def in64B (z : Int) : Bool := decide (-9223372036854775808 ≤ z) && decide (z ≤ 9223372036854775807)
theorem int64_e (z : Int) (hl : (limbsK z.natAbs).length ≤ 1073741824) : EF fuel (n + 3) 144 [.o (.agg [⟨.bool, decide (z < 0)⟩, ⟨.nat, limbsK z.natAbs⟩])] [.c (.int .i64), .c .bool] = some (bif in64B z then (z, true, ()) else (0, false, ())) := by
 refine (zInt_m (n + 2) (decide (z < 0)) (limbsK z.natAbs)).trans ?_
 rw [bind_go (uint_e n z.natAbs hl)]
 unfold in64B
 by_cases h : z.natAbs < 18446744073709551616
 ·rw [decide_eq_true h, cond_true]
  dsimp only
  rw [Bool.not_true, cond_false]
  by_cases hz : z < 0
  ·rw [decide_eq_true hz, cond_true]
   by_cases h3 : 9223372036854775808 < (z.natAbs : Int)
   ·rw [decide_eq_true h3, decide_eq_false (show ¬ -9223372036854775808 ≤ z by omega)]; rfl
   ·rw [decide_eq_false h3, decide_eq_true (show -9223372036854775808 ≤ z by omega), decide_eq_true (show z ≤ 9223372036854775807 by omega), neg_wr (by omega) (by omega), show -(z.natAbs : Int) = z by omega]; rfl
  ·rw [decide_eq_false hz, cond_false]
   by_cases h3 : 9223372036854775807 < (z.natAbs : Int)
   ·rw [decide_eq_true h3, decide_eq_false (show ¬ z ≤ 9223372036854775807 by omega), Bool.and_false]; rfl
   ·rw [decide_eq_false h3, decide_eq_true (show -9223372036854775808 ≤ z by omega), decide_eq_true (show z ≤ 9223372036854775807 by omega), w64 (by omega) (by omega), show (z.natAbs : Int) = z by omega]; rfl
 ·rw [decide_eq_false h, cond_false]
  by_cases hz : z < 0
  ·rw [decide_eq_false (show ¬ -9223372036854775808 ≤ z by omega)]; rfl
  ·rw [decide_eq_false (show ¬ z ≤ 9223372036854775807 by omega), Bool.and_false]; rfl
theorem iNum_e (s : List UInt8) (hs : s.length ≤ 14) : EF fuel (n + 1) 191 [vS s] [.c (.int .i64), .c .bool] = some (bif s.all isD then ((valD s : Int), true, ()) else (0, false, ())) := by
 refine (iNum_m n s).trans ?_
 refine congrArg (a₂ := some (Ans.ret (bif s.all isD then ((valD s : Int), true, ()) else (0, false, ())))) unwrapA ?_ |>.trans rfl
 refine loopA_inv (ts := [tI, tI, tB, tI]) (fun x => ∃ k, k ≤ s.length ∧ x = ((k : Int), ((valD (s.take k) : Nat) : Int), false, 0, ()) ∧ (s.take k).all isD = true) (fun (x : Int × Int × Bool × Int × Unit) => s.length - x.1.toNat) (fun x hx => ?_) _ ⟨0, by omega, rfl, by simp⟩ (fuel_lt (by omega))
 obtain ⟨k, hk, rfl, ha⟩ := hx
 dsimp only
 by_cases hk2 : k = s.length
 ·subst hk2
  rw [List.take_length] at ha
  exact .inl ⟨by rw [dge (Nat.le_refl _), cond_false, List.take_length, ha, cond_true], rfl⟩
 ·have hk3 : k < s.length := by omega
  cases hd : isD s[k] with
  | false =>
   refine .inl ⟨?_, rfl⟩
   rw [all_at hk3 hd, cond_false, dlt hk3, cond_true, ix_lt hk3, Option.bind_some]
   rcases not_digit hd with h | ⟨h, h2⟩
   ·rw [decide_eq_true h]; rfl
   ·rw [decide_eq_false h, cond_false, Option.bind_some, decide_eq_true h2]; rfl
  | true =>
   obtain ⟨h1, h2⟩ := digit_int hd
   have hd2 := isD_rng.1 hd
   have hv : valD (s.take k) < 10 ^ 14 := by
    refine Nat.lt_of_lt_of_le (valD_low _ _ rfl ha) (Nat.pow_le_pow_right (by omega) ?_)
    rw [List.length_take]; omega
   refine .inr ⟨_, ?_, ⟨k + 1, by omega, rfl, takeD_all hk3 ha hd⟩, ?_⟩
   ·have e8 : IntKind.u8.wrap ((s[k].toNat : Int) - 48) = ((s[k].toNat - 48 : Nat) : Int) := by
     simp [IntKind.wrap, IntKind.bits, IntKind.signed]
     omega
    rw [dlt hk3, cond_true, ix_lt hk3, Option.bind_some, decide_eq_false (by rw [h1]; exact id), cond_false, Option.bind_some, decide_eq_false (by rw [h2]; exact id), cond_false, Option.bind_some, w64n (by omega), e8]
    rw [w64 (z := ((s[k].toNat - 48 : Nat) : Int)) (by omega) (by omega), w64 (z := ((valD (s.take k) : Nat) : Int) * 10) (by omega) (by omega), w64 (z := ((valD (s.take k) : Nat) : Int) * 10 + ((s[k].toNat - 48 : Nat) : Int)) (by omega) (by omega), takeD_val hk3]
    have ec : ((valD (s.take k) * 10 + (s[k].toNat - 48) : Nat) : Int) = ((valD (s.take k) : Nat) : Int) * 10 + ((s[k].toNat - 48 : Nat) : Int) := by
     rw [Int.natCast_add (valD (s.take k) * 10), Int.natCast_mul]
     rfl
    rw [ec]
   ·show s.length - ((k + 1 : Nat) : Int).toNat < s.length - (k : Int).toNat
    omega
end
end Go.Proofs.YtcggnmddcbhchaaGreatDoor
set_option linter.unusedSimpArgs false
set_option linter.unusedVariables false
namespace Go.Proofs.YtcggnmddcbhchaaGreatDoor
open Go.RowKit Lim
theorem rnrn (z : Int) {d : Nat} (hd : 0 < d) : rn (rn z d) (rd z d) = rn z d ∧ rd (rn z d) (rd z d) = rd z d := by
 have hg : Nat.gcd z.natAbs d ≠ 0 := Nat.gcd_ne_zero_right (by omega)
 have h : Nat.gcd (rn z d).natAbs (rd z d) = 1 := by
  rw [rn_abs]
  exact Nat.coprime_div_gcd_div_gcd (Nat.pos_of_ne_zero hg)
 constructor
 ·show sg _ ((rn z d).natAbs / Nat.gcd (rn z d).natAbs (rd z d)) = _
  rw [h, Nat.div_one, sg_own]
 ·show rd z d / Nat.gcd (rn z d).natAbs (rd z d) = _
  rw [h, Nat.div_one]
theorem pz_at (z : Int) {d : Nat} (h : 0 < d) : pz z d = z := by unfold pz; rw [if_neg (by omega)]
theorem pd_at {d : Nat} (h : 0 < d) : pd d = d := by unfold pd; rw [if_neg (by omega)]
abbrev nQ (z : Int) (d : Nat) : Q3 := ⟨decide (rn z d < 0), limbsK (rn z d).natAbs, limbsK (rd z d)⟩
theorem nQ_zd (z : Int) {d : Nat} (hd : 0 < d) : (nQ z d).z = rn z d ∧ (nQ z d).d = rd z d := by
 have h := rd_pos z hd
 unfold Q3.z Q3.d
 dsimp only
 rw [val_K, val_K, sg_own, pz_at _ h, pd_at h]
 exact ⟨rfl, rfl⟩
theorem nQ_nm (z : Int) {d : Nat} (hd : 0 < d) : (nQ z d).n = rn z d ∧ (nQ z d).m = rd z d := by
 obtain ⟨h1, h2⟩ := nQ_zd z hd
 unfold Q3.n Q3.m
 rw [h1, h2]
 exact rnrn z hd
def ratE (s : List UInt8) : Int := bif intE (Lib.cut s [47]).1 == 0 then (bif (Lib.cut s [47]).2.2 then (bif natE (Lib.cut s [47]).2.1 == 0 then (bif decide (valD (Lib.cut s [47]).2.1 = 0) then 2 else 0) else natE (Lib.cut s [47]).2.1) else 0) else intE (Lib.cut s [47]).1
def ratD (s : List UInt8) : Nat := bif (Lib.cut s [47]).2.2 then valD (Lib.cut s [47]).2.1 else 1
def ratQ (s : List UInt8) : Q3 := nQ (intV (Lib.cut s [47]).1) (ratD s)
theorem ratE_ok {s : List UInt8} (h : ratE s = 0) : intE (Lib.cut s [47]).1 = 0 ∧ 0 < ratD s ∧ ratD s ≤ 10 ^ e400 := by
 have := ten_le
 unfold ratE at h
 cases h1 : intE (Lib.cut s [47]).1 == 0 with
 | false => rw [h1, cond_false] at h; rw [h] at h1; cases h1
 | true =>
  rw [h1, cond_true] at h
  refine ⟨eq_of_beq h1, ?_⟩
  unfold ratD
  cases h2 : (Lib.cut s [47]).2.2 with
  | false => rw [cond_false]; omega
  | true =>
   rw [h2, cond_true] at h
   rw [cond_true]
   cases h3 : natE (Lib.cut s [47]).2.1 == 0 with
   | false => rw [h3, cond_false] at h; rw [h] at h3; cases h3
   | true =>
    rw [h3, cond_true] at h
    cases h4 : decide (valD (Lib.cut s [47]).2.1 = 0) with
    | true => rw [h4] at h; cases h
    | false =>
     have h4 := of_decide_eq_false h4
     have := natE_lt (eq_of_beq h3)
     omega
theorem cut_len1 (s : List UInt8) : (Lib.cut s [47]).1.length ≤ s.length ∧ (Lib.cut s [47]).2.1.length ≤ s.length := by
 unfold Lib.cut
 split
 ·refine ⟨?_, ?_⟩
  ·show (s.take _).length ≤ _
   rw [List.length_take]; omega
  ·show (s.drop _).length ≤ _
   rw [List.length_drop]; omega
 ·exact ⟨Nat.le_refl _, Nat.zero_le _⟩
theorem pCut_k (n0 : Nat) (s p : List UInt8) : EF fuel (n0 + 1) 194 [vS s, vS p] [.c .str, .c .str, .c .bool] = bif capS s then some ((Lib.cut s p).1, (Lib.cut s p).2.1, (Lib.cut s p).2.2, ()) else none := by kernel_rfl
theorem capS_ok {s : List UInt8} (h : s.length ≤ 4294967280) : capS s = true := Nat.ble_eq_true_of_le (by omega)
theorem limbsK_nil {k : Nat} : (((limbsK k).length : Int) == 0) = decide (k = 0) := by
 rw [limbsK_eq]
 by_cases h : k = 0
 ·subst h; rw [limbs_zero]; rfl
 ·rw [limbs_pos h, decide_eq_false h, beq_eq_false_iff_ne]
  simp only [List.length_cons]
  omega
section
variable (n : Nat)
theorem zero_e : EF fuel (n + 2) 186 [] gQ = some (false, [], limbsK 1, ()) := by
 refine (zero_m (n + 1)).trans ?_
 rw [bind_go (pNOf_e n 1 (capU_ok (by omega) (by omega)))]
 rfl
theorem qParse_e (s : List UInt8) (hs : s.length ≤ 4294967280) : EF fuel (n + 4) 145 [vS s] [.agg [.bool, .nat, .nat], .c (.int .i64)] = some (bif ratE s == 0 then ((ratQ s).t, (ratQ s).a, (ratQ s).b, 0, ()) else (false, [], limbsK 1, ratE s, ())) := by
 obtain ⟨l1, l2⟩ := cut_len1 s
 have hc : EF fuel (n + 3) 194 [vS s, vS [47]] [.c .str, .c .str, .c .bool] = some ((Lib.cut s [47]).1, (Lib.cut s [47]).2.1, (Lib.cut s [47]).2.2, ()) := by
  rw [pCut_k, capS_ok hs]; rfl
 have ht : (10 : Nat) ^ e400 ≤ 10 ^ e400 * 10 := by omega
 have t1 := ten_le
 refine (qParse_m (n + 3) s).trans ?_
 rw [bind_go hc]
 unfold ratQ ratE ratD
 dsimp only
 rw [bind_go (zParse_e n _ (by omega))]
 cases h1 : intE (Lib.cut s [47]).1 == 0 with
 | false =>
  rw [cond_false, cond_false]
  dsimp only
  rw [show (intE (Lib.cut s [47]).1 != 0) = !(intE (Lib.cut s [47]).1 == 0) from rfl, h1, Bool.not_false, cond_true, bind_go (zero_e (n + 1))]
  rfl
 | true =>
  have e1 := eq_of_beq h1
  have v1 := intV_lt e1
  have c1 : capN (limbsK (intV (Lib.cut s [47]).1).natAbs) = true := capN_400 (by omega)
  rw [cond_true, cond_true]
  dsimp only
  rw [bne_self_eq_false, cond_false, bind_go (pNOf_e (n + 2) 1 (capU_ok (by omega) (by omega)))]
  dsimp only
  cases h2 : (Lib.cut s [47]).2.2 with
  | false =>
   rw [cond_false, cond_false, cond_false, limbsK_nil, show (1 : Int).toNat = 1 from rfl, decide_eq_false (show ¬ (1 = 0) by omega), cond_false, bind_go (pRRed_e (n + 2) _ _ _ c1 (capN_400 (n := 1) (by omega)) (by rw [val_K]; rfl)), val_K, val_K, sg_own]
   rfl
  | true =>
   rw [cond_true, cond_true, cond_true, bind_go (nParse_e (n + 1) _ (by omega))]
   cases h3 : natE (Lib.cut s [47]).2.1 == 0 with
   | false =>
    rw [cond_false, cond_false]
    dsimp only
    rw [show (natE (Lib.cut s [47]).2.1 != 0) = !(natE (Lib.cut s [47]).2.1 == 0) from rfl, h3, Bool.not_false, cond_true, bind_go (zero_e (n + 1))]
    rfl
   | true =>
    have e3 := eq_of_beq h3
    have v3 := natE_lt e3
    rw [cond_true, cond_true]
    dsimp only
    rw [bne_self_eq_false, cond_false, limbsK_nil]
    cases h4 : decide (valD (Lib.cut s [47]).2.1 = 0) with
    | true =>
     rw [cond_true, bind_go (zero_e (n + 1))]
     rfl
    | false =>
     have h4 := of_decide_eq_false h4
     rw [cond_false, bind_go (pRRed_e (n + 2) _ _ _ c1 (capN_400 (n := valD (Lib.cut s [47]).2.1) (by omega)) (by rw [val_K]; exact Nat.ble_eq_true_of_le (by omega))), val_K, val_K, sg_own]
     rfl
end
end Go.Proofs.YtcggnmddcbhchaaGreatDoor
set_option linter.unusedSimpArgs false
set_option linter.unusedVariables false
namespace Go.Proofs.YtcggnmddcbhchaaGreatDoor
open Go.RowKit Lim
def pre6 : List (List UInt8) := [[73, 84, 77], [70, 82, 77], [67, 65, 78], [83, 69, 83], [82, 65, 84], [65, 83, 84]]
def kindAt (y : List UInt8) : Nat → Int
 | 0 => 0
 | i + 1 => bif y == pre6.getD i [] then ((i + 1 : Nat) : Int) else kindAt y i
theorem kindAt_succ (y : List UInt8) (i : Nat) : kindAt y (i + 1) = bif y == pre6.getD i [] then ((i + 1 : Nat) : Int) else kindAt y i := rfl
theorem kindAt_rng (y : List UInt8) : ∀ i, 0 ≤ kindAt y i ∧ kindAt y i ≤ i
 | 0 => by simp [kindAt]
 | i + 1 => by
  have := kindAt_rng y i
  unfold kindAt
  cases y == pre6.getD i [] with
  | true => rw [cond_true]; omega
  | false => rw [cond_false]; omega
def kindOf (y : List UInt8) : Int := kindAt y 6
def ckI (k c : Int) : Int := 98 - ((k * 10000000 + c) * 100).tmod 97
def identE (s : List UInt8) : Int × Int × Int × Unit := match s with
 | [s0, s1, s2, s3, s4, s5, s6, s7, s8, s9, s10, s11, s12, s13] =>
  bif !(s3 == 45) then (0, 0, 2, ()) else bif !(s11 == 45) then (0, 0, 2, ()) else bif kindOf [s0, s1, s2] == 0 then (0, 0, 2, ()) else bif !([s4, s5, s6, s7, s8, s9, s10].all isD) then (0, 0, 2, ()) else bif !([s12, s13].all isD) then (0, 0, 2, ())
  else bif decide (valD [s4, s5, s6, s7, s8, s9, s10] = 0) then (0, 0, 3, ()) else bif !decide ((valD [s12, s13] : Int) = ckI (kindOf [s0, s1, s2]) (valD [s4, s5, s6, s7, s8, s9, s10])) then (0, 0, 12, ()) else (kindOf [s0, s1, s2], (valD [s4, s5, s6, s7, s8, s9, s10] : Int), 0, ())
 | _ => (0, 0, 2, ())
theorem len14 {s : List UInt8} (h : s.length = 14) : ∃ s0 s1 s2 s3 s4 s5 s6 s7 s8 s9 s10 s11 s12 s13, s = [s0, s1, s2, s3, s4, s5, s6, s7, s8, s9, s10, s11, s12, s13] := by
 rcases s with _ | ⟨s0, _ | ⟨s1, _ | ⟨s2, _ | ⟨s3, _ | ⟨s4, _ | ⟨s5, _ | ⟨s6, _ | ⟨s7, _ | ⟨s8, _ | ⟨s9, _ | ⟨s10, _ | ⟨s11, _ | ⟨s12, _ | ⟨s13, _ | ⟨s14, s⟩⟩⟩⟩⟩⟩⟩⟩⟩⟩⟩⟩⟩⟩⟩
 all_goals first
  | exact ⟨_, _, _, _, _, _, _, _, _, _, _, _, _, _, rfl⟩
  | (exfalso; simp only [List.length_cons, List.length_nil] at h; omega)
theorem identE_not {s : List UInt8} (h : s.length ≠ 14) : identE s = (0, 0, 2, ()) := by
 unfold identE
 split
 ·exact absurd rfl h
 ·rfl
theorem valD7 {s : List UInt8} (h : s.length = 7) (ha : s.all isD = true) : valD s ≤ 9999999 := by
 have := valD_low _ _ h ha
 omega
theorem c45 (b : UInt8) : ((b.toNat : Int) != 45) = !(b == 45) := by
 have : ((b.toNat : Int) == 45) = (b == 45) := by
  rw [Bool.eq_iff_iff, beq_iff_eq, beq_iff_eq]
  exact ⟨fun h => UInt8.toNat_inj.1 (by show b.toNat = 45; omega), fun h => by rw [h]; rfl⟩
 rw [← this]; rfl
section
variable (n : Nat)
theorem checkD_e (k c : Int) (k1 : 0 ≤ k) (k6 : k ≤ 6) (c1 : 0 ≤ c) (c9 : c ≤ 9999999) : EF fuel (n + 1) 128 [vI k, vI c] [.c (.int .i64)] = some (ckI k c, ()) := by
 refine (checkDigits_m n k c).trans ?_
 have h3 := tmod97 ((k * 10000000 + c) * 100)
 rw [w64 (z := k * 10000000) (by omega) (by omega), w64 (z := k * 10000000 + c) (by omega) (by omega), w64 (z := (k * 10000000 + c) * 100) (by omega) (by omega), w64 (z := 98 - ((k * 10000000 + c) * 100).tmod 97) (by omega) (by omega)]
 rfl
theorem iParse_e (s : List UInt8) (hs : s.length ≤ 4294967296) : EF fuel (n + 2) 142 [vS s] [.c (.int .i64), .c (.int .i64), .c (.int .i64)] = some (identE s) := by
 refine (iParse_m (n + 1) s).trans ?_
 by_cases h : s.length = 14
 ·obtain ⟨s0, s1, s2, s3, s4, s5, s6, s7, s8, s9, s10, s11, s12, s13, rfl⟩ := len14 h
  rw [show (((([s0, s1, s2, s3, s4, s5, s6, s7, s8, s9, s10, s11, s12, s13] : List UInt8).length : Nat) : Int) != 14) = false from rfl, cond_false, show ix [s0, s1, s2, s3, s4, s5, s6, s7, s8, s9, s10, s11, s12, s13] 3 = some s3 from rfl, Option.bind_some, c45]
  unfold identE
  dsimp only
  cases h3 : s3 == 45
  case false => rfl
  rw [Bool.not_true, cond_false, cond_false, show ix [s0, s1, s2, s3, s4, s5, s6, s7, s8, s9, s10, s11, s12, s13] 11 = some s11 from rfl, Option.bind_some, c45]
  cases h11 : s11 == 45
  case false => rfl
  rw [Bool.not_true, cond_false, cond_false]
  have q1 : sub [s0, s1, s2, s3, s4, s5, s6, s7, s8, s9, s10, s11, s12, s13] 0 3 = some [s0, s1, s2] := rfl
  have q2 : sub [s0, s1, s2, s3, s4, s5, s6, s7, s8, s9, s10, s11, s12, s13] 4 11 = some [s4, s5, s6, s7, s8, s9, s10] := rfl
  have q3 : sub [s0, s1, s2, s3, s4, s5, s6, s7, s8, s9, s10, s11, s12, s13] 12 (([s0, s1, s2, s3, s4, s5, s6, s7, s8, s9, s10, s11, s12, s13] : List UInt8).length : Int) = some [s12, s13] := rfl
  have kr := kindAt_rng [s0, s1, s2] 6
  have n7 := valD7 (s := [s4, s5, s6, s7, s8, s9, s10]) rfl
  have l7 : ([s4, s5, s6, s7, s8, s9, s10] : List UInt8).length ≤ 14 := by show 7 ≤ 14; omega
  have l2 : ([s12, s13] : List UInt8).length ≤ 14 := by show 2 ≤ 14; omega
  rw [q1, q2, q3]
  have hk : kindOf [s0, s1, s2] = kindAt [s0, s1, s2] 6 := rfl
  rw [hk]
  generalize hy : [s0, s1, s2] = y at *
  generalize [s4, s5, s6, s7, s8, s9, s10] = a at *
  generalize [s12, s13] = b at *
  generalize hr : (bif kindAt y 6 == 0 then ((0, 0, 2, ()) : Int × Int × Int × Unit) else bif !(a.all isD) then (0, 0, 2, ()) else bif !(b.all isD) then (0, 0, 2, ()) else bif decide (valD a = 0) then (0, 0, 3, ()) else bif !decide ((valD b : Int) = ckI (kindAt y 6) (valD a)) then (0, 0, 12, ()) else (kindAt y 6, (valD a : Int), 0, ())) = r
  refine congrArg (a₂ := some (Ans.ret r)) unwrapA ?_
  refine loopA_range (R := denL [tI, tI, tI]) (ts := [tI, tI]) (N := 6) (fun i => ((i : Int), kindAt y i, ())) (fun i hi => ?_) ?_ rfl (fuel_lt (by omega))
  ·dsimp only
   have e : ix ([[73, 84, 77], [70, 82, 77], [67, 65, 78], [83, 69, 83], [82, 65, 84], [65, 83, 84]] : List (List UInt8)) (i : Int) = some (pre6.getD i []) := by
    rcases (show i = 0 ∨ i = 1 ∨ i = 2 ∨ i = 3 ∨ i = 4 ∨ i = 5 by omega) with rfl | rfl | rfl | rfl | rfl | rfl <;> rfl
   rw [decide_eq_true (show (i : Int) < 6 by omega), cond_true, e, Option.bind_some, Option.bind_some, w64n (by omega), kindAt_succ]
   cases y == pre6.getD i [] <;> rfl
  ·dsimp only
   rw [decide_eq_false (show ¬ ((6 : Nat) : Int) < 6 by omega), cond_false, Option.bind_some, bind_go (iNum_e n a l7), Option.bind_some, bind_go (iNum_e n b l2)]
   rw [← hr]
   cases hk0 : kindAt y 6 == 0
   case true => rfl
   rw [cond_false, cond_false]
   cases ha : a.all isD
   case false => rfl
   rw [cond_true, Bool.not_true, cond_false, cond_false]
   cases hb : b.all isD
   case false => rfl
   rw [cond_true, Bool.not_true, cond_false, cond_false]
   dsimp only
   have e0 : (((valD a : Nat) : Int) == 0) = decide (valD a = 0) := by
    rw [Bool.eq_iff_iff, beq_iff_eq, decide_eq_true_iff]; omega
   rw [e0]
   have n7 := n7 ha
   cases h0 : decide (valD a = 0)
   case true => rfl
   rw [cond_false, cond_false, bind_go (checkD_e n (kindAt y 6) (valD a) (by omega) (by omega) (by omega) (by omega))]
   dsimp only
   have e1 : (((valD b : Nat) : Int) != ckI (kindAt y 6) (valD a)) = !decide (((valD b : Nat) : Int) = ckI (kindAt y 6) (valD a)) := by
    rw [bne]
    congr 1
   rw [e1]
   cases decide (((valD b : Nat) : Int) = ckI (kindAt y 6) (valD a)) <;> rfl
 ·have : ((s.length : Int) != 14) = true := by
   rw [bne_iff_ne]; omega
  rw [this, cond_true, identE_not h]
  rfl
end
end Go.Proofs.YtcggnmddcbhchaaGreatDoor
set_option linter.unusedSimpArgs false
set_option linter.unusedVariables false
namespace Go.Proofs.YtcggnmddcbhchaaGreatDoor
open Go.RowKit Lim
end Go.Proofs.YtcggnmddcbhchaaGreatDoor
set_option linter.unusedSimpArgs false
set_option linter.unusedVariables false
namespace Go.Proofs.YtcggnmddcbhchaaGreatDoor
open Go.RowKit Lim
abbrev cR (r : Res) : List Ce := [⟨.bool, r.m.t⟩, ⟨.nat, r.m.a⟩, ⟨.nat, r.m.b⟩, ⟨.bool, r.v.t⟩, ⟨.nat, r.v.a⟩, ⟨.nat, r.v.b⟩, ⟨.int .i64, r.lo⟩, ⟨.int .i64, r.hi⟩, ⟨.int .i64, r.sc⟩, ⟨.int .i64, r.es⟩, ⟨.int .i64, r.st⟩, ⟨.int .i64, r.sp⟩]
abbrev gR : Sg := .agg [.bool, .nat, .nat, .bool, .nat, .nat, (.int .i64), (.int .i64), (.int .i64), (.int .i64), (.int .i64), (.int .i64)]
abbrev gN : Sig := [.c (.int .i64), gR]
abbrev gLn : Sig := [.c (.int .i64), .agg [.int .i64], gR]
abbrev TR : Type := Bool × List Nat × List Nat × Bool × List Nat × List Nat × Int × Int × Int × Int × Int × Int × Unit
abbrev tR (r : Res) : TR := (r.m.t, r.m.a, r.m.b, r.v.t, r.v.a, r.v.b, r.lo, r.hi, r.sc, r.es, r.st, r.sp, ())
def okN (z : Int) : Bool := decide (-9999999 ≤ z) && decide (z ≤ 9999999)
def numE (s : List UInt8) : Int := bif intE s == 0 then (bif okN (intV s) then 0 else 3) else intE s
theorem num_core {α : Type} (z : Int) (X : α) (Y : Int → α) (x : Int × Bool × Unit) (hx : x = bif in64B z then (z, true, ()) else (0, false, ())) : (bif !x.snd.fst then X else bif decide (x.fst < -9999999) then X else bif decide (9999999 < x.fst) then X else Y x.fst) = bif okN z then Y z else X := by
 subst hx
 unfold okN in64B
 by_cases h1 : z < -9999999
 ·rw [decide_eq_false (show ¬ -9999999 ≤ z by omega), Bool.false_and, cond_false]
  cases (decide (-9223372036854775808 ≤ z) && decide (z ≤ 9223372036854775807))
  ·rfl
  ·rw [cond_true, Bool.not_true, cond_false, decide_eq_true h1]; rfl
 ·by_cases h2 : 9999999 < z
  ·rw [decide_eq_false (show ¬ z ≤ 9999999 by omega), Bool.and_false, cond_false]
   cases (decide (-9223372036854775808 ≤ z) && decide (z ≤ 9223372036854775807))
   ·rfl
   ·rw [cond_true, Bool.not_true, cond_false, decide_eq_false h1, cond_false, decide_eq_true h2]; rfl
  ·rw [decide_eq_true (show -9223372036854775808 ≤ z by omega), decide_eq_true (show z ≤ 9223372036854775807 by omega), decide_eq_true (show -9999999 ≤ z by omega), decide_eq_true (show z ≤ 9999999 by omega)]
   rw [Bool.and_self, cond_true, cond_true, Bool.not_true, cond_false, decide_eq_false h1, cond_false, decide_eq_false h2]; rfl
theorem intV_len {s : List UInt8} (h : intE s = 0) : (limbsK (intV s).natAbs).length ≤ 1073741824 := by
 have h1 := intV_lt h
 have h2 := log2_le (show (intV s).natAbs ≤ 10 ^ e400 * 10 by omega)
 have h3 := nlen_log (intV s).natAbs
 have h4 : Nat.log2 (10 ^ e400 * 10) = 1332 := by decide +kernel
 rw [limbsK_eq]
 show nlen _ ≤ _
 omega
section
variable (n : Nat)
theorem pNumLo_e (s : List UInt8) (hs : s.length ≤ 4294967296) (r : Res) : EF fuel (n + 4) 81 [vS s, .lent 6 (cR r)] gN = some (numE s, tR (bif numE s == 0 then { r with lo := intV s } else r)) := by
 refine (pNum_lo (n + 3) s r.m.t r.m.a r.m.b r.v.t r.v.a r.v.b r.lo r.hi r.sc r.es r.st r.sp).trans ?_
 rw [bind_go (zParse_e n s hs)]
 unfold numE
 cases h : intE s == 0
 ·rw [cond_false, cond_false]
  dsimp only
  rw [show (intE s != 0) = !(intE s == 0) from rfl, h]
  rfl
 ·rw [cond_true, cond_true]
  dsimp only
  rw [bne_self_eq_false, cond_false, bind_go (int64_e n (intV s) (intV_len (eq_of_beq h)))]
  refine (congrArg unwrapA (num_core (intV s) (some (Ans.ret ((3, tR r) : denL gN.ts))) (fun v => some (Ans.ret ((0, tR { r with lo := v }) : denL gN.ts))) _ rfl)).trans ?_
  cases okN (intV s) <;> rfl
theorem pNumHi_e (s : List UInt8) (hs : s.length ≤ 4294967296) (r : Res) : EF fuel (n + 4) 81 [vS s, .lent 7 (cR r)] gN = some (numE s, tR (bif numE s == 0 then { r with hi := intV s } else r)) := by
 refine (pNum_hi (n + 3) s r.m.t r.m.a r.m.b r.v.t r.v.a r.v.b r.lo r.hi r.sc r.es r.st r.sp).trans ?_
 rw [bind_go (zParse_e n s hs)]
 unfold numE
 cases h : intE s == 0
 ·rw [cond_false, cond_false]
  dsimp only
  rw [show (intE s != 0) = !(intE s == 0) from rfl, h]
  rfl
 ·rw [cond_true, cond_true]
  dsimp only
  rw [bne_self_eq_false, cond_false, bind_go (int64_e n (intV s) (intV_len (eq_of_beq h)))]
  refine (congrArg unwrapA (num_core (intV s) (some (Ans.ret ((3, tR r) : denL gN.ts))) (fun v => some (Ans.ret ((0, tR { r with hi := v }) : denL gN.ts))) _ rfl)).trans ?_
  cases okN (intV s) <;> rfl
theorem pNumSc_e (s : List UInt8) (hs : s.length ≤ 4294967296) (r : Res) : EF fuel (n + 4) 81 [vS s, .lent 8 (cR r)] gN = some (numE s, tR (bif numE s == 0 then { r with sc := intV s } else r)) := by
 refine (pNum_sc (n + 3) s r.m.t r.m.a r.m.b r.v.t r.v.a r.v.b r.lo r.hi r.sc r.es r.st r.sp).trans ?_
 rw [bind_go (zParse_e n s hs)]
 unfold numE
 cases h : intE s == 0
 ·rw [cond_false, cond_false]
  dsimp only
  rw [show (intE s != 0) = !(intE s == 0) from rfl, h]
  rfl
 ·rw [cond_true, cond_true]
  dsimp only
  rw [bne_self_eq_false, cond_false, bind_go (int64_e n (intV s) (intV_len (eq_of_beq h)))]
  refine (congrArg unwrapA (num_core (intV s) (some (Ans.ret ((3, tR r) : denL gN.ts))) (fun v => some (Ans.ret ((0, tR { r with sc := v }) : denL gN.ts))) _ rfl)).trans ?_
  cases okN (intV s) <;> rfl
theorem pNumEs_e (s : List UInt8) (hs : s.length ≤ 4294967296) (r : Res) : EF fuel (n + 4) 81 [vS s, .lent 9 (cR r)] gN = some (numE s, tR (bif numE s == 0 then { r with es := intV s } else r)) := by
 refine (pNum_es (n + 3) s r.m.t r.m.a r.m.b r.v.t r.v.a r.v.b r.lo r.hi r.sc r.es r.st r.sp).trans ?_
 rw [bind_go (zParse_e n s hs)]
 unfold numE
 cases h : intE s == 0
 ·rw [cond_false, cond_false]
  dsimp only
  rw [show (intE s != 0) = !(intE s == 0) from rfl, h]
  rfl
 ·rw [cond_true, cond_true]
  dsimp only
  rw [bne_self_eq_false, cond_false, bind_go (int64_e n (intV s) (intV_len (eq_of_beq h)))]
  refine (congrArg unwrapA (num_core (intV s) (some (Ans.ret ((3, tR r) : denL gN.ts))) (fun v => some (Ans.ret ((0, tR { r with es := v }) : denL gN.ts))) _ rfl)).trans ?_
  cases okN (intV s) <;> rfl
theorem pNumSp_e (s : List UInt8) (hs : s.length ≤ 4294967296) (r : Res) : EF fuel (n + 4) 81 [vS s, .lent 11 (cR r)] gN = some (numE s, tR (bif numE s == 0 then { r with sp := intV s } else r)) := by
 refine (pNum_sp (n + 3) s r.m.t r.m.a r.m.b r.v.t r.v.a r.v.b r.lo r.hi r.sc r.es r.st r.sp).trans ?_
 rw [bind_go (zParse_e n s hs)]
 unfold numE
 cases h : intE s == 0
 ·rw [cond_false, cond_false]
  dsimp only
  rw [show (intE s != 0) = !(intE s == 0) from rfl, h]
  rfl
 ·rw [cond_true, cond_true]
  dsimp only
  rw [bne_self_eq_false, cond_false, bind_go (int64_e n (intV s) (intV_len (eq_of_beq h)))]
  refine (congrArg unwrapA (num_core (intV s) (some (Ans.ret ((3, tR r) : denL gN.ts))) (fun v => some (Ans.ret ((0, tR { r with sp := v }) : denL gN.ts))) _ rfl)).trans ?_
  cases okN (intV s) <;> rfl
end
theorem ratQ_ok {s : List UInt8} (h : ratE s = 0) : (ratQ s).OK := by
 obtain ⟨h1, h2, h3⟩ := ratE_ok h
 have v1 := intV_lt h1
 have t1 := ten_le
 have b : ∀ k, k ≤ 10 ^ e400 * 10 → (limbsK k).length ≤ 1048577 := fun k hk => by
  have q2 := log2_le hk
  have q3 := nlen_log k
  have q4 : Nat.log2 (10 ^ e400 * 10) = 1332 := by decide +kernel
  rw [limbsK_eq]
  show nlen _ ≤ _
  omega
 have c1 : (rn (intV (Lib.cut s [47]).1) (ratD s)).natAbs ≤ 10 ^ e400 * 10 := by
  rw [rn_abs]
  have := Nat.div_le_self (intV (Lib.cut s [47]).1).natAbs (Nat.gcd (intV (Lib.cut s [47]).1).natAbs (ratD s))
  omega
 have c2 : rd (intV (Lib.cut s [47]).1) (ratD s) ≤ 10 ^ e400 * 10 := by
  unfold rd
  have := Nat.div_le_self (ratD s) (Nat.gcd (intV (Lib.cut s [47]).1).natAbs (ratD s))
  omega
 refine ⟨?_, ?_, b _ c1, b _ c2⟩
 ·show Dig (limbsK _)
  rw [limbsK_eq]; exact dig_limbs _
 ·show Dig (limbsK _)
  rw [limbsK_eq]; exact dig_limbs _
def ratPE (s : List UInt8) : Int := bif ratE s == 0 then (bif (ratQ s).tx == s then 0 else 2) else ratE s
section
variable (n : Nat)
theorem pRatM_e (s : List UInt8) (hs : s.length ≤ 4294967280) (r : Res) : EF fuel (n + 5) 82 [vS s, .lent 0 (cR r)] gN = some (ratPE s, tR (bif ratPE s == 0 then { r with m := ratQ s } else r)) := by
 refine (pRat_m (n + 4) s r.m.t r.m.a r.m.b r.v.t r.v.a r.v.b r.lo r.hi r.sc r.es r.st r.sp).trans ?_
 rw [bind_go (qParse_e n s hs)]
 unfold ratPE
 cases h : ratE s == 0
 ·rw [cond_false, cond_false]
  dsimp only
  rw [show (ratE s != 0) = !(ratE s == 0) from rfl, h]
  rfl
 ·rw [cond_true, cond_true]
  dsimp only
  rw [bne_self_eq_false, cond_false, bind_go (rprint_e (n + 3) (ratQ s) (ratQ_ok (eq_of_beq h)))]
  dsimp only
  cases (ratQ s).tx == s <;> rfl
theorem pRatV_e (s : List UInt8) (hs : s.length ≤ 4294967280) (r : Res) : EF fuel (n + 5) 82 [vS s, .lent 3 (cR r)] gN = some (ratPE s, tR (bif ratPE s == 0 then { r with v := ratQ s } else r)) := by
 refine (pRat_v (n + 4) s r.m.t r.m.a r.m.b r.v.t r.v.a r.v.b r.lo r.hi r.sc r.es r.st r.sp).trans ?_
 rw [bind_go (qParse_e n s hs)]
 unfold ratPE
 cases h : ratE s == 0
 ·rw [cond_false, cond_false]
  dsimp only
  rw [show (ratE s != 0) = !(ratE s == 0) from rfl, h]
  rfl
 ·rw [cond_true, cond_true]
  dsimp only
  rw [bne_self_eq_false, cond_false, bind_go (rprint_e (n + 3) (ratQ s) (ratQ_ok (eq_of_beq h)))]
  dsimp only
  cases (ratQ s).tx == s <;> rfl
def firstR (s : List UInt8) : Nat := bif s == reason 0 then 0 else bif s == reason 1 then 1 else bif s == reason 2 then 2 else bif s == reason 3 then 3 else bif s == reason 4 then 4 else 5
theorem firstR_le (s : List UInt8) : firstR s ≤ 5 := by
 unfold firstR
 cases s == reason 0 <;> cases s == reason 1 <;> cases s == reason 2 <;> cases s == reason 3 <;> cases s == reason 4 <;> decide
theorem firstR_no (s : List UInt8) : ∀ k : Nat, k < firstR s → (s == reason k) = false := by
 intro k hk
 unfold firstR at hk
 cases h0 : s == reason 0
 case true => rw [h0, cond_true] at hk; omega
 rw [h0, cond_false] at hk
 cases h1 : s == reason 1
 case true =>
  rw [h1, cond_true] at hk
  obtain rfl : k = 0 := by omega
  exact h0
 rw [h1, cond_false] at hk
 cases h2 : s == reason 2
 case true =>
  rw [h2, cond_true] at hk
  rcases (show k = 0 ∨ k = 1 by omega) with rfl | rfl
  ·exact h0
  ·exact h1
 rw [h2, cond_false] at hk
 cases h3 : s == reason 3
 case true =>
  rw [h3, cond_true] at hk
  rcases (show k = 0 ∨ k = 1 ∨ k = 2 by omega) with rfl | rfl | rfl
  ·exact h0
  ·exact h1
  ·exact h2
 rw [h3, cond_false] at hk
 cases h4 : s == reason 4
 case true =>
  rw [h4, cond_true] at hk
  rcases (show k = 0 ∨ k = 1 ∨ k = 2 ∨ k = 3 by omega) with rfl | rfl | rfl | rfl
  ·exact h0
  ·exact h1
  ·exact h2
  ·exact h3
 rw [h4, cond_false] at hk
 rcases (show k = 0 ∨ k = 1 ∨ k = 2 ∨ k = 3 ∨ k = 4 by omega) with rfl | rfl | rfl | rfl | rfl
 ·exact h0
 ·exact h1
 ·exact h2
 ·exact h3
 ·exact h4
theorem firstR_yes (s : List UInt8) (h : firstR s < 5) : s = reason (firstR s) := by
 unfold firstR at *
 cases h0 : s == reason 0
 case true => rw [cond_true]; exact eq_of_beq h0
 rw [h0, cond_false] at h
 rw [cond_false]
 cases h1 : s == reason 1
 case true => rw [cond_true]; exact eq_of_beq h1
 rw [h1, cond_false] at h
 rw [cond_false]
 cases h2 : s == reason 2
 case true => rw [cond_true]; exact eq_of_beq h2
 rw [h2, cond_false] at h
 rw [cond_false]
 cases h3 : s == reason 3
 case true => rw [cond_true]; exact eq_of_beq h3
 rw [h3, cond_false] at h
 rw [cond_false]
 cases h4 : s == reason 4
 case true => rw [cond_true]; exact eq_of_beq h4
 rw [h4, cond_false] at h
 omega
def reasE (s : List UInt8) : Int := bif decide (firstR s < 5) then 0 else 2
theorem pReas_e (s : List UInt8) (r : Res) : EF fuel (n + 2) 83 [vS s, .lent 10 (cR r)] gN = some (reasE s, tR (bif reasE s == 0 then { r with st := (firstR s : Int) } else r)) := by
 refine (pReas_m (n + 1) s r.m.t r.m.a r.m.b r.v.t r.v.a r.v.b r.lo r.hi r.sc r.es r.st r.sp).trans ?_
 have h5 := firstR_le s
 refine congrArg (a₂ := some (Ans.ret ((reasE s, tR (bif reasE s == 0 then { r with st := (firstR s : Int) } else r)) : denL gN.ts))) unwrapA ?_
 refine loopA_range (R := denL gN.ts) (ts := [tI, tI, tB, tN, tN, tB, tN, tN, tI, tI, tI, tI, tI, tI]) (N := firstR s) (fun k => ((k : Int), 0, tR r)) (fun k hk => ?_) ?_ rfl (fuel_lt (by omega))
 ·dsimp only
  rw [decide_eq_true (show (k : Int) < 5 by omega), cond_true, bind_go (reason_e n _)]
  dsimp only
  rw [firstR_no s k hk, cond_false, w64n (by omega)]
  rfl
 ·dsimp only
  unfold reasE
  by_cases h : firstR s < 5
  ·rw [decide_eq_true (show ((firstR s : Nat) : Int) < 5 by omega), cond_true, bind_go (reason_e n _), decide_eq_true h]
   dsimp only
   rw [← firstR_yes s h, beq_self_eq_true]
   rfl
  ·rw [decide_eq_false (show ¬ ((firstR s : Nat) : Int) < 5 by omega), cond_false, decide_eq_false h]
   rfl
def candE (s : List UInt8) : Int := bif (identE s).2.2.1 != 0 then (identE s).2.2.1 else bif (identE s).1 != 3 then 2 else 0
theorem pCand_e (s : List UInt8) (hs : s.length ≤ 4294967296) (d : Int) : EF fuel (n + 3) 80 [vS s, .lent 0 [⟨.int .i64, d⟩]] [.c (.int .i64), .agg [.int .i64]] = some (candE s, (bif candE s == 0 then (identE s).2.1 else d), ()) := by
 refine (pCand_m (n + 2) s d).trans ?_
 rw [bind_go (iParse_e n s hs)]
 unfold candE
 cases h : (identE s).2.2.1 != 0
 ·rw [cond_false, cond_false]
  cases h2 : (identE s).1 != 3 <;> rfl
 ·rw [cond_true, cond_true]
  rw [show ((identE s).2.2.1 == 0) = !((identE s).2.2.1 != 0) by rw [bne, Bool.not_not], h]
  rfl
theorem pSplN_k (s : List UInt8) (c : UInt8) (z : Int) : EF fuel (n + 1) 37 [vS s, vS [c], vI z] [.c (.sl 1 .str)] = bif capS s && capQ z then some (splN c s (z.toNat - 1), ()) else none := by kernel_rfl
theorem split_e (s : List UInt8) (hs : s.length ≤ 4294967280) (c : UInt8) (k : Nat) (hk : k ≤ 100) (z : Int) (hz : z = ((k + 1 : Nat) : Int)) : EF fuel (n + 1) 37 [vS s, vS [c], vI z] [.c (.sl 1 .str)] = some (splN c s k, ()) := by
 subst hz
 rw [pSplN_k, capS_ok hs, show capQ ((k + 1 : Nat) : Int) = true by unfold capQ; rw [Bool.and_eq_true]; exact ⟨decide_eq_true (by omega), decide_eq_true (by omega)⟩]
 rfl
end
def okW : List (List UInt8) → List (List UInt8) → Bool
 | y :: f, z :: w => (y == [] || z == y) && okW f w
 | _, _ => true
theorem wloop {R : Type} {f w : List (List UInt8)} {bad fin : Option (Ans R)} {u v : R} (hl : w.length = f.length) (hf : f.length ≤ 100) (hb : bad = some (.ret u)) (hfin : okW f w = true → fin = some (.ret v)) :
  loopA 0 [tI, tI] (fun x => bif decide (x.fst < (Nat.cast (R := Int) (List.length f))) then (ix f x.fst).bind fun y => bif !y == [] then (ix w x.fst).bind fun y_1 => bif !y_1 == y then bad else some (.cont 0 [tI, tI] (IntKind.i64.wrap (x.fst + 1), x.snd.fst, ())) else some (.cont 0 [tI, tI] (IntKind.i64.wrap (x.fst + 1), x.snd.fst, ())) else fin) fuel (0, 0, ()) = some (.ret (bif okW f w then v else u)) := by
 refine loopA_inv (ts := [tI, tI]) (fun x => ∃ k, k ≤ f.length ∧ x = ((k : Int), 0, ()) ∧ okW (f.drop k) (w.drop k) = okW f w) (fun (x : Int × Int × Unit) => f.length - x.1.toNat) (fun x hx => ?_) _ ⟨0, by omega, rfl, rfl⟩ (fuel_lt (by omega))
 obtain ⟨k, hk, rfl, ha⟩ := hx
 dsimp only
 by_cases hk2 : k = f.length
 ·subst hk2
  have : okW f w = true := by
   rw [← ha, List.drop_length]
   cases w.drop f.length <;> rfl
  exact .inl ⟨by rw [dge (Nat.le_refl _), cond_false, hfin this, this]; rfl, rfl⟩
 ·have hk3 : k < f.length := by omega
  have hk4 : k < w.length := by omega
  rw [List.drop_eq_getElem_cons hk3, List.drop_eq_getElem_cons hk4] at ha
  have ha : ((f[k] == [] || w[k] == f[k]) && okW (f.drop (k + 1)) (w.drop (k + 1))) = okW f w := ha
  have mu : f.length - ((k + 1 : Nat) : Int).toNat < f.length - (k : Int).toNat := by omega
  rw [dlt hk3, cond_true, ix_lt hk3, Option.bind_some]
  cases h1 : f[k] == []
  ·rw [h1, Bool.false_or] at ha
   rw [Bool.not_false, cond_true, ix_lt hk4, Option.bind_some]
   cases h2 : w[k] == f[k]
   ·rw [h2, Bool.false_and] at ha
    exact .inl ⟨by rw [Bool.not_false, cond_true, hb, ← ha]; rfl, rfl⟩
   ·rw [h2, Bool.true_and] at ha
    exact .inr ⟨_, by rw [Bool.not_true, cond_false, w64n (by omega)], ⟨k + 1, by omega, rfl, ha⟩, mu⟩
  ·rw [h1, Bool.true_or, Bool.true_and] at ha
   exact .inr ⟨_, by rw [Bool.not_true, cond_false, w64n (by omega)], ⟨k + 1, by omega, rfl, ha⟩, mu⟩
structure PS where
 c : Int
 r : Res
theorem w2 {w : List (List UInt8)} (h : w.length = 2) : ∃ a b, w = [a, b] := by
 rcases w with _ | ⟨s0, _ | ⟨s1, _ | ⟨s2, s⟩⟩⟩
 all_goals first
  | exact ⟨_, _, rfl⟩
  | (exfalso; simp only [List.length_cons, List.length_nil] at h; omega)
theorem w3 {w : List (List UInt8)} (h : w.length = 3) : ∃ a b c, w = [a, b, c] := by
 rcases w with _ | ⟨s0, _ | ⟨s1, _ | ⟨s2, _ | ⟨s3, s⟩⟩⟩⟩
 all_goals first
  | exact ⟨_, _, _, rfl⟩
  | (exfalso; simp only [List.length_cons, List.length_nil] at h; omega)
theorem w4 {w : List (List UInt8)} (h : w.length = 4) : ∃ a b c d, w = [a, b, c, d] := by
 rcases w with _ | ⟨s0, _ | ⟨s1, _ | ⟨s2, _ | ⟨s3, _ | ⟨s4, s⟩⟩⟩⟩⟩
 all_goals first
  | exact ⟨_, _, _, _, rfl⟩
  | (exfalso; simp only [List.length_cons, List.length_nil] at h; omega)
def line0 (s : List UInt8) (p : PS) : Int × PS := match splN 32 s 2 with
 | [a, b] => bif a == [99, 97, 110, 100, 105, 100, 97, 116, 101] then ((candE b, ⟨(bif candE b == 0 then (identE b).2.1 else p.c), p.r⟩)) else (2, p)
 | _ => (2, p)
def line1 (s : List UInt8) (p : PS) : Int × PS := match splN 32 s 2 with
 | [a, b] => bif a == [115, 99, 111, 114, 101] then ((numE b, ⟨p.c, (bif numE b == 0 then { p.r with sc := intV b } else p.r)⟩)) else (2, p)
 | _ => (2, p)
def line2 (s : List UInt8) (p : PS) : Int × PS := match splN 32 s 4 with
 | [a, b, c, d] => bif a == [97, 98, 105, 108, 105, 116, 121] && c == [118, 97, 114, 105, 97, 110, 99, 101] then (bif ratPE b == 0 then (ratPE d, ⟨p.c, (bif ratPE d == 0 then { p.r with m := ratQ b, v := ratQ d } else { p.r with m := ratQ b })⟩) else (ratPE b, p)) else (2, p)
 | _ => (2, p)
def line3 (s : List UInt8) (p : PS) : Int × PS := match splN 32 s 3 with
 | [a, b, c] => bif a == [105, 110, 116, 101, 114, 118, 97, 108] then (bif numE b == 0 then (numE c, ⟨p.c, (bif numE c == 0 then { p.r with lo := intV b, hi := intV c } else { p.r with lo := intV b })⟩) else (numE b, p)) else (2, p)
 | _ => (2, p)
def line4 (s : List UInt8) (p : PS) : Int × PS := match splN 32 s 3 with
 | [a, b, c] => bif a == [105, 116, 101, 109, 115] then (bif numE b == 0 then (reasE c, ⟨p.c, (bif reasE c == 0 then { p.r with sp := intV b, st := (firstR c : Int) } else { p.r with sp := intV b })⟩) else (numE b, p)) else (2, p)
 | _ => (2, p)
def line5 (s : List UInt8) (p : PS) : Int × PS := match splN 32 s 2 with
 | [a, b] => bif a == [101, 115, 115, 97, 121] then ((numE b, ⟨p.c, (bif numE b == 0 then { p.r with es := intV b } else p.r)⟩)) else (2, p)
 | _ => (2, p)
end Go.Proofs.YtcggnmddcbhchaaGreatDoor
set_option linter.unusedSimpArgs false
set_option linter.unusedVariables false
namespace Go.Proofs.YtcggnmddcbhchaaGreatDoor
open Go.RowKit Lim
theorem splN_mem (c : UInt8) : ∀ (s : List UInt8) (k : Nat), ∀ x ∈ splN c s k, x.length ≤ s.length
 | [], k, x, h => by
  have : splN c [] k = [[]] := by cases k <;> rfl
  rw [this] at h
  simp only [List.mem_singleton] at h
  subst h; exact Nat.le_refl _
 | b :: s, 0, x, h => by
  simp only [splN, List.mem_singleton] at h
  subst h; exact Nat.le_refl _
 | b :: s, k + 1, x, h => by
  simp only [splN] at h
  cases hb : b == c with
  | true =>
   rw [hb, cond_true] at h
   rcases List.mem_cons.1 h with rfl | h
   ·simp
   ·have := splN_mem c s k x h
    simp only [List.length_cons]; omega
  | false =>
   rw [hb, cond_false] at h
   cases hl : splN c s (k + 1) with
   | nil => rw [hl] at h; cases h
   | cons y l =>
    rw [hl] at h
    have key := splN_mem c s (k + 1)
    rw [hl] at key
    rcases List.mem_cons.1 h with rfl | h
    ·have := key y List.mem_cons_self
     simp only [List.length_cons]; omega
    ·have := key x (List.mem_cons_of_mem _ h)
     simp only [List.length_cons]; omega
section
variable (n : Nat)
set_option maxHeartbeats 1000000 in
theorem pLine0_e (s : List UInt8) (hs : s.length ≤ 4294967280) (p : PS) : EF fuel (n + 6) 38 [vI 0, vS s, .lent 0 [⟨.int .i64, p.c⟩], .lent 0 (cR p.r)] gLn = some ((line0 s p).1, (line0 s p).2.c, tR (line0 s p).2.r) := by
 refine (pLine0_m (n + 5) s p.c p.r.m.t p.r.m.a p.r.m.b p.r.v.t p.r.v.a p.r.v.b p.r.lo p.r.hi p.r.sc p.r.es p.r.st p.r.sp).trans ?_
 have hf : EF fuel (n + 5) 79 [vI 0] [.c (.sl 1 .str)] = some ([[99, 97, 110, 100, 105, 100, 97, 116, 101], []], ()) := form0_m (n + 4)
 rw [bind_go hf]
 dsimp only
 rw [show IntKind.i64.wrap ((Nat.cast (R := Int) (List.length ([[99, 97, 110, 100, 105, 100, 97, 116, 101], []] : List (List UInt8)))) + 1) = 3 from by decide +kernel, bind_go (split_e (n + 4) s hs 32 2 (by omega) 3 rfl)]
 dsimp only
 unfold line0
 have hm := splN_mem 32 s 2
 generalize splN 32 s 2 = w at *
 by_cases hw : w.length = 2
 ·obtain ⟨a, b, rfl⟩ := w2 hw
  have la : a.length ≤ 4294967296 := by have := hm a (by simp); omega
  have la2 : a.length ≤ 4294967280 := by have := hm a (by simp); omega
  have lb : b.length ≤ 4294967296 := by have := hm b (by simp); omega
  have lb2 : b.length ≤ 4294967280 := by have := hm b (by simp); omega
  rw [show ((Nat.cast (R := Int) (List.length [a, b])) != (Nat.cast (R := Int) (List.length ([[99, 97, 110, 100, 105, 100, 97, 116, 101], []] : List (List UInt8))))) = false from rfl, cond_false]
  dsimp only
  refine (congrArg unwrapA (wloop (f := [[99, 97, 110, 100, 105, 100, 97, 116, 101], []]) (w := [a, b]) (u := ((2, p.c, tR p.r) : denL gLn.ts)) (v := ((candE b, (bif candE b == 0 then (identE b).2.1 else p.c), tR p.r) : Int × Int × TR)) rfl (by decide) rfl (fun _ => ?_))).trans ?_
  ·(try dsimp only)
   rw [show ix [a, b] 1 = some b from rfl, Option.bind_some, bind_go (pCand_e (n + 2) b lb p.c)]
   rfl
  ·have e : okW [[99, 97, 110, 100, 105, 100, 97, 116, 101], []] [a, b] = (a == [99, 97, 110, 100, 105, 100, 97, 116, 101]) := by
    simp [okW]
   rw [e]
   cases (a == [99, 97, 110, 100, 105, 100, 97, 116, 101])
   ·rfl
   ·rfl
 ·have : ((Nat.cast (R := Int) (List.length w)) != (Nat.cast (R := Int) (List.length ([[99, 97, 110, 100, 105, 100, 97, 116, 101], []] : List (List UInt8))))) = true := by
   rw [bne_iff_ne]
   show ((w.length : Nat) : Int) ≠ 2
   omega
  rw [this, cond_true]
  split
  ·exact absurd rfl hw
  ·rfl
set_option maxHeartbeats 1000000 in
theorem pLine1_e (s : List UInt8) (hs : s.length ≤ 4294967280) (p : PS) : EF fuel (n + 6) 38 [vI 1, vS s, .lent 0 [⟨.int .i64, p.c⟩], .lent 0 (cR p.r)] gLn = some ((line1 s p).1, (line1 s p).2.c, tR (line1 s p).2.r) := by
 refine (pLine1_m (n + 5) s p.c p.r.m.t p.r.m.a p.r.m.b p.r.v.t p.r.v.a p.r.v.b p.r.lo p.r.hi p.r.sc p.r.es p.r.st p.r.sp).trans ?_
 have hf : EF fuel (n + 5) 79 [vI 1] [.c (.sl 1 .str)] = some ([[115, 99, 111, 114, 101], []], ()) := form1_m (n + 4)
 rw [bind_go hf]
 dsimp only
 rw [show IntKind.i64.wrap ((Nat.cast (R := Int) (List.length ([[115, 99, 111, 114, 101], []] : List (List UInt8)))) + 1) = 3 from by decide +kernel, bind_go (split_e (n + 4) s hs 32 2 (by omega) 3 rfl)]
 dsimp only
 unfold line1
 have hm := splN_mem 32 s 2
 generalize splN 32 s 2 = w at *
 by_cases hw : w.length = 2
 ·obtain ⟨a, b, rfl⟩ := w2 hw
  have la : a.length ≤ 4294967296 := by have := hm a (by simp); omega
  have la2 : a.length ≤ 4294967280 := by have := hm a (by simp); omega
  have lb : b.length ≤ 4294967296 := by have := hm b (by simp); omega
  have lb2 : b.length ≤ 4294967280 := by have := hm b (by simp); omega
  rw [show ((Nat.cast (R := Int) (List.length [a, b])) != (Nat.cast (R := Int) (List.length ([[115, 99, 111, 114, 101], []] : List (List UInt8))))) = false from rfl, cond_false]
  dsimp only
  refine (congrArg unwrapA (wloop (f := [[115, 99, 111, 114, 101], []]) (w := [a, b]) (u := ((2, p.c, tR p.r) : denL gLn.ts)) (v := ((numE b, p.c, tR (bif numE b == 0 then { p.r with sc := intV b } else p.r)) : Int × Int × TR)) rfl (by decide) rfl (fun _ => ?_))).trans ?_
  ·(try dsimp only)
   rw [show ix [a, b] 1 = some b from rfl, Option.bind_some, bind_go (pNumSc_e (n + 1) b lb p.r)]
   rfl
  ·have e : okW [[115, 99, 111, 114, 101], []] [a, b] = (a == [115, 99, 111, 114, 101]) := by
    simp [okW]
   rw [e]
   cases (a == [115, 99, 111, 114, 101])
   ·rfl
   ·rfl
 ·have : ((Nat.cast (R := Int) (List.length w)) != (Nat.cast (R := Int) (List.length ([[115, 99, 111, 114, 101], []] : List (List UInt8))))) = true := by
   rw [bne_iff_ne]
   show ((w.length : Nat) : Int) ≠ 2
   omega
  rw [this, cond_true]
  split
  ·exact absurd rfl hw
  ·rfl
set_option maxHeartbeats 1000000 in
theorem pLine2_e (s : List UInt8) (hs : s.length ≤ 4294967280) (p : PS) : EF fuel (n + 6) 38 [vI 2, vS s, .lent 0 [⟨.int .i64, p.c⟩], .lent 0 (cR p.r)] gLn = some ((line2 s p).1, (line2 s p).2.c, tR (line2 s p).2.r) := by
 refine (pLine2_m (n + 5) s p.c p.r.m.t p.r.m.a p.r.m.b p.r.v.t p.r.v.a p.r.v.b p.r.lo p.r.hi p.r.sc p.r.es p.r.st p.r.sp).trans ?_
 have hf : EF fuel (n + 5) 79 [vI 2] [.c (.sl 1 .str)] = some ([[97, 98, 105, 108, 105, 116, 121], [], [118, 97, 114, 105, 97, 110, 99, 101], []], ()) := form2_m (n + 4)
 rw [bind_go hf]
 dsimp only
 rw [show IntKind.i64.wrap ((Nat.cast (R := Int) (List.length ([[97, 98, 105, 108, 105, 116, 121], [], [118, 97, 114, 105, 97, 110, 99, 101], []] : List (List UInt8)))) + 1) = 5 from by decide +kernel, bind_go (split_e (n + 4) s hs 32 4 (by omega) 5 rfl)]
 dsimp only
 unfold line2
 have hm := splN_mem 32 s 4
 generalize splN 32 s 4 = w at *
 by_cases hw : w.length = 4
 ·obtain ⟨a, b, c, d, rfl⟩ := w4 hw
  have la : a.length ≤ 4294967296 := by have := hm a (by simp); omega
  have la2 : a.length ≤ 4294967280 := by have := hm a (by simp); omega
  have lb : b.length ≤ 4294967296 := by have := hm b (by simp); omega
  have lb2 : b.length ≤ 4294967280 := by have := hm b (by simp); omega
  have lc : c.length ≤ 4294967296 := by have := hm c (by simp); omega
  have lc2 : c.length ≤ 4294967280 := by have := hm c (by simp); omega
  have ld : d.length ≤ 4294967296 := by have := hm d (by simp); omega
  have ld2 : d.length ≤ 4294967280 := by have := hm d (by simp); omega
  rw [show ((Nat.cast (R := Int) (List.length [a, b, c, d])) != (Nat.cast (R := Int) (List.length ([[97, 98, 105, 108, 105, 116, 121], [], [118, 97, 114, 105, 97, 110, 99, 101], []] : List (List UInt8))))) = false from rfl, cond_false]
  dsimp only
  refine (congrArg unwrapA (wloop (f := [[97, 98, 105, 108, 105, 116, 121], [], [118, 97, 114, 105, 97, 110, 99, 101], []]) (w := [a, b, c, d]) (u := ((2, p.c, tR p.r) : denL gLn.ts)) (v := (bif ratPE b == 0 then (ratPE d, p.c, tR (bif ratPE d == 0 then { p.r with m := ratQ b, v := ratQ d } else { p.r with m := ratQ b })) else (ratPE b, p.c, tR p.r) : Int × Int × TR)) rfl (by decide) rfl (fun _ => ?_))).trans ?_
  ·(try dsimp only)
   rw [show ix [a, b, c, d] 1 = some b from rfl, Option.bind_some, bind_go (pRatM_e n b lb2 p.r)]
   cases h : ratPE b == 0
   ·rw [cond_false, cond_false]
    dsimp only [tR]
    rw [show (ratPE b != 0) = !(ratPE b == 0) from rfl, h]
    rfl
   ·rw [cond_true, cond_true]
    dsimp only [tR]
    rw [show (ratPE b != 0) = !(ratPE b == 0) from rfl, h, Bool.not_true, cond_false, show ix [a, b, c, d] 3 = some d from rfl, Option.bind_some, bind_go (pRatV_e n d ld2 { p.r with m := ratQ b })]
    cases ratPE d == 0 <;> rfl
  ·have e : okW [[97, 98, 105, 108, 105, 116, 121], [], [118, 97, 114, 105, 97, 110, 99, 101], []] [a, b, c, d] = (a == [97, 98, 105, 108, 105, 116, 121] && c == [118, 97, 114, 105, 97, 110, 99, 101]) := by
    simp [okW]
   rw [e]
   cases (a == [97, 98, 105, 108, 105, 116, 121] && c == [118, 97, 114, 105, 97, 110, 99, 101])
   ·rfl
   ·cases ratPE b == 0 <;> rfl
 ·have : ((Nat.cast (R := Int) (List.length w)) != (Nat.cast (R := Int) (List.length ([[97, 98, 105, 108, 105, 116, 121], [], [118, 97, 114, 105, 97, 110, 99, 101], []] : List (List UInt8))))) = true := by
   rw [bne_iff_ne]
   show ((w.length : Nat) : Int) ≠ 4
   omega
  rw [this, cond_true]
  split
  ·exact absurd rfl hw
  ·rfl
set_option maxHeartbeats 1000000 in
theorem pLine3_e (s : List UInt8) (hs : s.length ≤ 4294967280) (p : PS) : EF fuel (n + 6) 38 [vI 3, vS s, .lent 0 [⟨.int .i64, p.c⟩], .lent 0 (cR p.r)] gLn = some ((line3 s p).1, (line3 s p).2.c, tR (line3 s p).2.r) := by
 refine (pLine3_m (n + 5) s p.c p.r.m.t p.r.m.a p.r.m.b p.r.v.t p.r.v.a p.r.v.b p.r.lo p.r.hi p.r.sc p.r.es p.r.st p.r.sp).trans ?_
 have hf : EF fuel (n + 5) 79 [vI 3] [.c (.sl 1 .str)] = some ([[105, 110, 116, 101, 114, 118, 97, 108], [], []], ()) := form3_m (n + 4)
 rw [bind_go hf]
 dsimp only
 rw [show IntKind.i64.wrap ((Nat.cast (R := Int) (List.length ([[105, 110, 116, 101, 114, 118, 97, 108], [], []] : List (List UInt8)))) + 1) = 4 from by decide +kernel, bind_go (split_e (n + 4) s hs 32 3 (by omega) 4 rfl)]
 dsimp only
 unfold line3
 have hm := splN_mem 32 s 3
 generalize splN 32 s 3 = w at *
 by_cases hw : w.length = 3
 ·obtain ⟨a, b, c, rfl⟩ := w3 hw
  have la : a.length ≤ 4294967296 := by have := hm a (by simp); omega
  have la2 : a.length ≤ 4294967280 := by have := hm a (by simp); omega
  have lb : b.length ≤ 4294967296 := by have := hm b (by simp); omega
  have lb2 : b.length ≤ 4294967280 := by have := hm b (by simp); omega
  have lc : c.length ≤ 4294967296 := by have := hm c (by simp); omega
  have lc2 : c.length ≤ 4294967280 := by have := hm c (by simp); omega
  rw [show ((Nat.cast (R := Int) (List.length [a, b, c])) != (Nat.cast (R := Int) (List.length ([[105, 110, 116, 101, 114, 118, 97, 108], [], []] : List (List UInt8))))) = false from rfl, cond_false]
  dsimp only
  refine (congrArg unwrapA (wloop (f := [[105, 110, 116, 101, 114, 118, 97, 108], [], []]) (w := [a, b, c]) (u := ((2, p.c, tR p.r) : denL gLn.ts)) (v := (bif numE b == 0 then (numE c, p.c, tR (bif numE c == 0 then { p.r with lo := intV b, hi := intV c } else { p.r with lo := intV b })) else (numE b, p.c, tR p.r) : Int × Int × TR)) rfl (by decide) rfl (fun _ => ?_))).trans ?_
  ·(try dsimp only)
   rw [show ix [a, b, c] 1 = some b from rfl, Option.bind_some, bind_go (pNumLo_e (n + 1) b lb p.r)]
   cases h : numE b == 0
   ·rw [cond_false, cond_false]
    dsimp only [tR]
    rw [show (numE b != 0) = !(numE b == 0) from rfl, h]
    rfl
   ·rw [cond_true, cond_true]
    dsimp only [tR]
    rw [show (numE b != 0) = !(numE b == 0) from rfl, h, Bool.not_true, cond_false, show ix [a, b, c] 2 = some c from rfl, Option.bind_some, bind_go (pNumHi_e (n + 1) c lc { p.r with lo := intV b })]
    cases numE c == 0 <;> rfl
  ·have e : okW [[105, 110, 116, 101, 114, 118, 97, 108], [], []] [a, b, c] = (a == [105, 110, 116, 101, 114, 118, 97, 108]) := by
    simp [okW]
   rw [e]
   cases (a == [105, 110, 116, 101, 114, 118, 97, 108])
   ·rfl
   ·cases numE b == 0 <;> rfl
 ·have : ((Nat.cast (R := Int) (List.length w)) != (Nat.cast (R := Int) (List.length ([[105, 110, 116, 101, 114, 118, 97, 108], [], []] : List (List UInt8))))) = true := by
   rw [bne_iff_ne]
   show ((w.length : Nat) : Int) ≠ 3
   omega
  rw [this, cond_true]
  split
  ·exact absurd rfl hw
  ·rfl
set_option maxHeartbeats 1000000 in
theorem pLine4_e (s : List UInt8) (hs : s.length ≤ 4294967280) (p : PS) : EF fuel (n + 6) 38 [vI 4, vS s, .lent 0 [⟨.int .i64, p.c⟩], .lent 0 (cR p.r)] gLn = some ((line4 s p).1, (line4 s p).2.c, tR (line4 s p).2.r) := by
 refine (pLine4_m (n + 5) s p.c p.r.m.t p.r.m.a p.r.m.b p.r.v.t p.r.v.a p.r.v.b p.r.lo p.r.hi p.r.sc p.r.es p.r.st p.r.sp).trans ?_
 have hf : EF fuel (n + 5) 79 [vI 4] [.c (.sl 1 .str)] = some ([[105, 116, 101, 109, 115], [], []], ()) := form4_m (n + 4)
 rw [bind_go hf]
 dsimp only
 rw [show IntKind.i64.wrap ((Nat.cast (R := Int) (List.length ([[105, 116, 101, 109, 115], [], []] : List (List UInt8)))) + 1) = 4 from by decide +kernel, bind_go (split_e (n + 4) s hs 32 3 (by omega) 4 rfl)]
 dsimp only
 unfold line4
 have hm := splN_mem 32 s 3
 generalize splN 32 s 3 = w at *
 by_cases hw : w.length = 3
 ·obtain ⟨a, b, c, rfl⟩ := w3 hw
  have la : a.length ≤ 4294967296 := by have := hm a (by simp); omega
  have la2 : a.length ≤ 4294967280 := by have := hm a (by simp); omega
  have lb : b.length ≤ 4294967296 := by have := hm b (by simp); omega
  have lb2 : b.length ≤ 4294967280 := by have := hm b (by simp); omega
  have lc : c.length ≤ 4294967296 := by have := hm c (by simp); omega
  have lc2 : c.length ≤ 4294967280 := by have := hm c (by simp); omega
  rw [show ((Nat.cast (R := Int) (List.length [a, b, c])) != (Nat.cast (R := Int) (List.length ([[105, 116, 101, 109, 115], [], []] : List (List UInt8))))) = false from rfl, cond_false]
  dsimp only
  refine (congrArg unwrapA (wloop (f := [[105, 116, 101, 109, 115], [], []]) (w := [a, b, c]) (u := ((2, p.c, tR p.r) : denL gLn.ts)) (v := (bif numE b == 0 then (reasE c, p.c, tR (bif reasE c == 0 then { p.r with sp := intV b, st := (firstR c : Int) } else { p.r with sp := intV b })) else (numE b, p.c, tR p.r) : Int × Int × TR)) rfl (by decide) rfl (fun _ => ?_))).trans ?_
  ·(try dsimp only)
   rw [show ix [a, b, c] 1 = some b from rfl, Option.bind_some, bind_go (pNumSp_e (n + 1) b lb p.r)]
   cases h : numE b == 0
   ·rw [cond_false, cond_false]
    dsimp only [tR]
    rw [show (numE b != 0) = !(numE b == 0) from rfl, h]
    rfl
   ·rw [cond_true, cond_true]
    dsimp only [tR]
    rw [show (numE b != 0) = !(numE b == 0) from rfl, h, Bool.not_true, cond_false, show ix [a, b, c] 2 = some c from rfl, Option.bind_some, bind_go (pReas_e (n + 3) c { p.r with sp := intV b })]
    cases reasE c == 0 <;> rfl
  ·have e : okW [[105, 116, 101, 109, 115], [], []] [a, b, c] = (a == [105, 116, 101, 109, 115]) := by
    simp [okW]
   rw [e]
   cases (a == [105, 116, 101, 109, 115])
   ·rfl
   ·cases numE b == 0 <;> rfl
 ·have : ((Nat.cast (R := Int) (List.length w)) != (Nat.cast (R := Int) (List.length ([[105, 116, 101, 109, 115], [], []] : List (List UInt8))))) = true := by
   rw [bne_iff_ne]
   show ((w.length : Nat) : Int) ≠ 3
   omega
  rw [this, cond_true]
  split
  ·exact absurd rfl hw
  ·rfl
set_option maxHeartbeats 1000000 in
theorem pLine5_e (s : List UInt8) (hs : s.length ≤ 4294967280) (p : PS) : EF fuel (n + 6) 38 [vI 5, vS s, .lent 0 [⟨.int .i64, p.c⟩], .lent 0 (cR p.r)] gLn = some ((line5 s p).1, (line5 s p).2.c, tR (line5 s p).2.r) := by
 refine (pLine5_m (n + 5) s p.c p.r.m.t p.r.m.a p.r.m.b p.r.v.t p.r.v.a p.r.v.b p.r.lo p.r.hi p.r.sc p.r.es p.r.st p.r.sp).trans ?_
 have hf : EF fuel (n + 5) 79 [vI 5] [.c (.sl 1 .str)] = some ([[101, 115, 115, 97, 121], []], ()) := form5_m (n + 4)
 rw [bind_go hf]
 dsimp only
 rw [show IntKind.i64.wrap ((Nat.cast (R := Int) (List.length ([[101, 115, 115, 97, 121], []] : List (List UInt8)))) + 1) = 3 from by decide +kernel, bind_go (split_e (n + 4) s hs 32 2 (by omega) 3 rfl)]
 dsimp only
 unfold line5
 have hm := splN_mem 32 s 2
 generalize splN 32 s 2 = w at *
 by_cases hw : w.length = 2
 ·obtain ⟨a, b, rfl⟩ := w2 hw
  have la : a.length ≤ 4294967296 := by have := hm a (by simp); omega
  have la2 : a.length ≤ 4294967280 := by have := hm a (by simp); omega
  have lb : b.length ≤ 4294967296 := by have := hm b (by simp); omega
  have lb2 : b.length ≤ 4294967280 := by have := hm b (by simp); omega
  rw [show ((Nat.cast (R := Int) (List.length [a, b])) != (Nat.cast (R := Int) (List.length ([[101, 115, 115, 97, 121], []] : List (List UInt8))))) = false from rfl, cond_false]
  dsimp only
  refine (congrArg unwrapA (wloop (f := [[101, 115, 115, 97, 121], []]) (w := [a, b]) (u := ((2, p.c, tR p.r) : denL gLn.ts)) (v := ((numE b, p.c, tR (bif numE b == 0 then { p.r with es := intV b } else p.r)) : Int × Int × TR)) rfl (by decide) rfl (fun _ => ?_))).trans ?_
  ·(try dsimp only)
   rw [show ix [a, b] 1 = some b from rfl, Option.bind_some, bind_go (pNumEs_e (n + 1) b lb p.r)]
   rfl
  ·have e : okW [[101, 115, 115, 97, 121], []] [a, b] = (a == [101, 115, 115, 97, 121]) := by
    simp [okW]
   rw [e]
   cases (a == [101, 115, 115, 97, 121])
   ·rfl
   ·rfl
 ·have : ((Nat.cast (R := Int) (List.length w)) != (Nat.cast (R := Int) (List.length ([[101, 115, 115, 97, 121], []] : List (List UInt8))))) = true := by
   rw [bne_iff_ne]
   show ((w.length : Nat) : Int) ≠ 2
   omega
  rw [this, cond_true]
  split
  ·exact absurd rfl hw
  ·rfl
end
end Go.Proofs.YtcggnmddcbhchaaGreatDoor
set_option linter.unusedSimpArgs false
set_option linter.unusedVariables false
namespace Go.Proofs.YtcggnmddcbhchaaGreatDoor
open Go.RowKit Lim
def lineP (i : Nat) (s : List UInt8) (p : PS) : Int × PS := match i with
 | 0 => line0 s p
 | 1 => line1 s p
 | 2 => line2 s p
 | 3 => line3 s p
 | 4 => line4 s p
 | _ => line5 s p
def goP (L : List (List UInt8)) : Nat → PS → Int × PS
 | 0, p => (0, p)
 | k + 1, p => bif (lineP (5 - k) (L.getD (5 - k) []) p).1 == 0 then goP L k (lineP (5 - k) (L.getD (5 - k) []) p).2 else lineP (5 - k) (L.getD (5 - k) []) p
theorem numE_in {s : List UInt8} (h : (numE s == 0) = true) : -9999999 ≤ intV s ∧ intV s ≤ 9999999 := by
 have h := eq_of_beq h
 unfold numE at h
 cases h1 : intE s == 0 with
 | false => rw [h1, cond_false] at h; rw [h] at h1; cases h1
 | true =>
  rw [h1, cond_true] at h
  cases h2 : okN (intV s) with
  | false => rw [h2] at h; cases h
  | true =>
   unfold okN at h2
   rw [Bool.and_eq_true] at h2
   exact ⟨of_decide_eq_true h2.1, of_decide_eq_true h2.2⟩
theorem numE_64 {s : List UInt8} (h : (numE s == 0) = true) : in64 (intV s) := by
 have := numE_in h
 exact ⟨by omega, by omega⟩
theorem ratPE_ok {s : List UInt8} (h : (ratPE s == 0) = true) : ratE s = 0 ∧ (ratQ s).tx = s := by
 have h := eq_of_beq h
 unfold ratPE at h
 cases h1 : ratE s == 0 with
 | false => rw [h1, cond_false] at h; rw [h] at h1; cases h1
 | true =>
  rw [h1, cond_true] at h
  cases h2 : (ratQ s).tx == s with
  | false => rw [h2] at h; cases h
  | true => exact ⟨eq_of_beq h1, eq_of_beq h2⟩
theorem firstR_64 (s : List UInt8) : in64 (firstR s : Int) := by
 have := firstR_le s
 exact ⟨by omega, by omega⟩
theorem lineP_ok (i : Nat) (s : List UInt8) (p : PS) (h : p.r.OK) : (lineP i s p).2.r.OK := by
 unfold lineP
 split
 ·unfold line0
  split
  ·rename_i a b _
   cases (a == [99, 97, 110, 100, 105, 100, 97, 116, 101]) <;> exact h
  ·exact h
 ·unfold line1
  split
  ·rename_i a b _
   cases (a == [115, 99, 111, 114, 101])
   ·exact h
   ·cases hb : numE b == 0
    ·exact h
    ·exact ⟨h.m, h.v, h.lo, h.hi, numE_64 hb, h.es, h.st, h.sp⟩
  ·exact h
 ·unfold line2
  split
  ·rename_i a b c d _
   cases (a == [97, 98, 105, 108, 105, 116, 121] && c == [118, 97, 114, 105, 97, 110, 99, 101])
   ·exact h
   ·cases hb : ratPE b == 0
    ·exact h
    ·have h1 := ratQ_ok (ratPE_ok hb).1
     cases hd : ratPE d == 0
     ·exact ⟨h1, h.v, h.lo, h.hi, h.sc, h.es, h.st, h.sp⟩
     ·exact ⟨h1, ratQ_ok (ratPE_ok hd).1, h.lo, h.hi, h.sc, h.es, h.st, h.sp⟩
  ·exact h
 ·unfold line3
  split
  ·rename_i a b c _
   cases (a == [105, 110, 116, 101, 114, 118, 97, 108])
   ·exact h
   ·cases hb : numE b == 0
    ·exact h
    ·cases hc : numE c == 0
     ·exact ⟨h.m, h.v, numE_64 hb, h.hi, h.sc, h.es, h.st, h.sp⟩
     ·exact ⟨h.m, h.v, numE_64 hb, numE_64 hc, h.sc, h.es, h.st, h.sp⟩
  ·exact h
 ·unfold line4
  split
  ·rename_i a b c _
   cases (a == [105, 116, 101, 109, 115])
   ·exact h
   ·cases hb : numE b == 0
    ·exact h
    ·cases hc : reasE c == 0
     ·exact ⟨h.m, h.v, h.lo, h.hi, h.sc, h.es, h.st, numE_64 hb⟩
     ·exact ⟨h.m, h.v, h.lo, h.hi, h.sc, h.es, firstR_64 c, numE_64 hb⟩
  ·exact h
 ·unfold line5
  split
  ·rename_i a b _
   cases (a == [101, 115, 115, 97, 121])
   ·exact h
   ·cases hb : numE b == 0
    ·exact h
    ·exact ⟨h.m, h.v, h.lo, h.hi, h.sc, numE_64 hb, h.st, h.sp⟩
  ·exact h
theorem goP_loop {R : Type} {ts : List VT} {step : denL ts → Option (Ans R)} {L : List (List UInt8)} (S : Nat → PS → denL ts) {out : Int × PS → R}
  (h1 : ∀ i, i < 6 → ∀ p : PS, p.r.OK → step (S i p) = bif (lineP i (L.getD i []) p).1 == 0 then some (.cont 0 ts (S (i + 1) (lineP i (L.getD i []) p).2)) else some (.ret (out (lineP i (L.getD i []) p))))
  (h2 : ∀ p : PS, p.r.OK → step (S 6 p) = some (.ret (out (0, p)))) (p : PS) (hp : p.r.OK) : loopA 0 ts step fuel (S 0 p) = some (.ret (out (goP L 6 p))) := by
 have key : ∀ k, k ≤ 6 → ∀ p : PS, p.r.OK → ∀ F, k < F → loopA 0 ts step F (S (6 - k) p) = some (.ret (out (goP L k p))) := by
  intro k
  induction k with
  | zero =>
   intro _ p hp F hF
   obtain ⟨F, rfl⟩ := Nat.exists_eq_succ_of_ne_zero (show F ≠ 0 by omega)
   exact loopA_end (h2 p hp) rfl
  | succ k ih =>
   intro hk p hp F hF
   obtain ⟨F, rfl⟩ := Nat.exists_eq_succ_of_ne_zero (show F ≠ 0 by omega)
   have hs := h1 (5 - k) (by omega) p hp
   have hq := lineP_ok (5 - k) (L.getD (5 - k) []) p hp
   rw [show 6 - (k + 1) = 5 - k by omega]
   unfold goP
   cases hz : (lineP (5 - k) (L.getD (5 - k) []) p).1 == 0 with
   | false =>
    rw [hz, cond_false] at hs
    rw [cond_false]
    exact loopA_end hs rfl
   | true =>
    rw [hz, cond_true] at hs
    rw [cond_true, loopA_go hs, show 5 - k + 1 = 6 - k by omega]
    exact ih (by omega) _ hq F (by omega)
 exact key 6 (by omega) p hp fuel (fuel_lt (by omega))
def r0 : Res := ⟨⟨false, [], []⟩, ⟨false, [], []⟩, 0, 0, 0, 0, 0, 0⟩
theorem r0_ok : r0.OK := by
 have h : in64 0 := ⟨by omega, by omega⟩
 have q : Q3.OK ⟨false, [], []⟩ := ⟨dig_nil, dig_nil, Nat.zero_le _, Nat.zero_le _⟩
 exact ⟨q, q, h, h, h, h, h, h⟩
abbrev gPs : Sig := [.c (.int .i64), gR, .c (.int .i64)]
abbrev TP : Type := Int × Bool × List Nat × List Nat × Bool × List Nat × List Nat × Int × Int × Int × Int × Int × Int × Int × Unit
def tP (c : Int) (r : Res) (e : Int) : TP := (c, r.m.t, r.m.a, r.m.b, r.v.t, r.v.a, r.v.b, r.lo, r.hi, r.sc, r.es, r.st, r.sp, e, ())
def outP (q : Int × PS) : Int × PS := bif q.1 == 0 then (bif q.2.r.valid != 0 then (q.2.r.valid, ⟨0, r0⟩) else (0, q.2)) else (q.1, ⟨0, r0⟩)
def parseP (t : List UInt8) : Int × PS := bif (splN 10 t 7).length != 7 then (2, ⟨0, r0⟩) else bif !((splN 10 t 7).getD 6 [] == []) then (2, ⟨0, r0⟩) else outP (goP (splN 10 t 7) 6 ⟨0, r0⟩)
section
variable (n : Nat)
theorem parse_e (t : List UInt8) (ht : t.length ≤ 4294967280) : EF fuel (n + 7) 16 [vS t] gPs = some (tP (parseP t).2.c (parseP t).2.r (parseP t).1) := by
 refine (rParse_m (n + 6) t).trans ?_
 rw [bind_go (split_e (n + 5) t ht 10 7 (by omega) 8 rfl)]
 dsimp only
 unfold parseP
 have hm := splN_mem 10 t 7
 generalize splN 10 t 7 = L at *
 have e7 : ((Nat.cast (R := Int) (List.length L)) != 7) = (L.length != 7) := by
  rw [Bool.eq_iff_iff, bne_iff_ne, bne_iff_ne]
  omega
 rw [e7]
 cases h7 : L.length != 7
 case true => rfl
 have h7 : L.length = 7 := by simpa using h7
 have hg : ∀ i : Nat, i < 7 → ix L (i : Int) = some (L.getD i []) := fun i hi => by
  rw [ix_lt (show i < L.length by omega), List.getD_eq_getElem?_getD, List.getElem?_eq_getElem (show i < L.length by omega)]; rfl
 rw [cond_false, cond_false, show ix L 6 = some (L.getD 6 []) from hg 6 (by omega), Option.bind_some]
 cases h6 : L.getD 6 [] == []
 case false => rfl
 rw [Bool.not_true, cond_false, cond_false]
 refine congrArg (a₂ := some (Ans.ret (tP (outP (goP L 6 ⟨0, r0⟩)).2.c (outP (goP L 6 ⟨0, r0⟩)).2.r (outP (goP L 6 ⟨0, r0⟩)).1 : denL gPs.ts))) unwrapA ?_
 refine goP_loop (R := denL gPs.ts) (ts := [tI, tI, tI, tB, tN, tN, tB, tN, tN, tI, tI, tI, tI, tI, tI, tI, tB, tN, tN, tB, tN, tN, tI, tI, tI, tI, tI, tI]) (L := L)
  (fun i p => ((i : Int), 0, 0, p.r.m.t, p.r.m.a, p.r.m.b, p.r.v.t, p.r.v.a, p.r.v.b, p.r.lo, p.r.hi, p.r.sc, p.r.es, p.r.st, p.r.sp, p.c, false, [], [], false, [], [], 0, 0, 0, 0, 0, 0, ()))
  (out := fun q => (tP (outP q).2.c (outP q).2.r (outP q).1 : TP)) (fun i hi p hp => ?_) (fun p hp => ?_) ⟨0, r0⟩ r0_ok
 ·dsimp only
  have hl : (L.getD i []).length ≤ 4294967280 := by
   rw [List.getD_eq_getElem?_getD, List.getElem?_eq_getElem (show i < L.length by omega)]
   have := hm _ (List.getElem_mem (show i < L.length by omega))
   show L[i].length ≤ _
   omega
  rw [decide_eq_true (show (i : Int) < 6 by omega), cond_true, hg i (by omega), Option.bind_some, w64n (by omega)]
  generalize L.getD i [] = s at *
  have step : ∀ (e : Int) (q : PS), EF fuel (n + 6) 38 [vI (i : Int), vS s, .lent 0 [⟨.int .i64, p.c⟩], .lent 0 (cR p.r)] gLn = some (e, q.c, tR q.r) → lineP i s p = (e, q) → True := fun _ _ _ _ => trivial
  have call : EF fuel (n + 6) 38 [vI (i : Int), vS s, .lent 0 [⟨.int .i64, p.c⟩], .lent 0 (cR p.r)] gLn = some ((lineP i s p).1, (lineP i s p).2.c, tR (lineP i s p).2.r) := by
   rcases (show i = 0 ∨ i = 1 ∨ i = 2 ∨ i = 3 ∨ i = 4 ∨ i = 5 by omega) with rfl | rfl | rfl | rfl | rfl | rfl
   ·exact pLine0_e n s hl p
   ·exact pLine1_e n s hl p
   ·exact pLine2_e n s hl p
   ·exact pLine3_e n s hl p
   ·exact pLine4_e n s hl p
   ·exact pLine5_e n s hl p
  rw [bind_go call]
  dsimp only [tR]
  generalize lineP i s p = q
  unfold outP
  rw [show (q.1 != 0) = !(q.1 == 0) from rfl]
  cases q.1 == 0 <;> rfl
 ·dsimp only
  rw [decide_eq_false (show ¬ ((6 : Nat) : Int) < 6 by omega), cond_false, bind_go (valid_e (n + 2) p.r hp)]
  dsimp only
  unfold outP
  rw [show (((0 : Int), p).1 == 0) = true from rfl, cond_true]
  cases p.r.valid != 0 <;> rfl
end
end Go.Proofs.YtcggnmddcbhchaaGreatDoor
set_option linter.unusedSimpArgs false
set_option linter.unusedVariables false
namespace Go.Proofs.YtcggnmddcbhchaaGreatDoor
open Go.RowKit Lim
theorem ref56_Valid_m {F : Nat} (n0 : Nat) (x0_0 : Bool) (x0_1 x0_2 : List Nat) (x0_3 : Bool) (x0_4 x0_5 : List Nat) (x0_6 x0_7 x0_8 x0_9 x0_10 x0_11 : Int) : EF F (n0 + 1) 12 [.o (.agg (cL x0_0 x0_1 x0_2 x0_3 x0_4 x0_5 x0_6 x0_7 x0_8 x0_9 x0_10 x0_11))] [.c (.int .i64)] = unwrapA ((EF F n0 34 [.o (.agg [⟨tB, x0_3⟩, ⟨tN, x0_4⟩, ⟨tN, x0_5⟩])] [.c (tI)]).bind fun x => bif decide (x.1 < 0) then some (.ret (3, ())) else (EF F n0 35 [vI x0_6, vI (-1000), vI 1000] [.c tB]).bind fun x => bif !x.1 then some (.ret (3, ())) else (EF F n0 35 [vI x0_7, vI (-1000), vI 1000] [.c tB]).bind fun x => bif !x.1 then some (.ret (3, ())) else (EF F n0 35 [vI x0_8, vI (-1000000), vI 1000000] [.c tB]).bind fun x => bif !x.1 then some (.ret (3, ())) else (EF F n0 35 [vI x0_9, vI 0, vI 1000000] [.c tB]).bind fun x => bif !x.1 then some (.ret (3, ())) else (EF F n0 35 [vI x0_11, vI 0, vI 18] [.c tB]).bind fun x => bif !x.1 then some (.ret (3, ())) else bif decide (x0_7 < x0_6) then some (.ret (23, ())) else (EF F n0 35 [vI x0_10, vI 0, vI 4] [.c tB]).bind fun x => bif !x.1 then some (.ret (1, ())) else some (.ret (0, ()))) := by kernel_rfl
theorem ref56_Reason_m {F : Nat} (n0 : Nat) (x0 : Int) : EF F (n0 + 1) 14 [.o (.c ⟨(.int .i64), x0⟩)] [.c .str] = unwrapA (bif x0 == 0 then some (.ret ([103, 111, 105, 110, 103], ())) else bif x0 == 1 then some (.ret ([108, 101, 110, 103, 116, 104], ())) else bif x0 == 2 then some (.ret ([112, 114, 101, 99, 105, 115, 105, 111, 110], ())) else bif x0 == 3 then some (.ret ([99, 108, 97, 115, 115], ())) else bif x0 == 4 then some (.ret ([101, 110, 100, 101, 100], ())) else some (.ret ([], ()))) := by kernel_rfl
theorem ref03_Print_m {F : Nat} (n0 : Nat) (x0_0 : Bool) (x0_1 x0_2 : List Nat) : EF F (n0 + 1) 31 [.o (.agg [⟨.bool, x0_0⟩, ⟨.nat, x0_1⟩, ⟨.nat, x0_2⟩])] [.c .str] = unwrapA ((EF F n0 67 [.o (.agg [⟨tB, x0_0⟩, ⟨tN, x0_1⟩, ⟨tN, x0_2⟩])] [.agg [tB, tN, tN]]).bind fun x => (EF F n0 69 [.o (.agg [⟨tB, x.1⟩, ⟨tN, x.2.1⟩])] [.c tS]).bind fun x_1 => (EF F n0 72 [.o (.c ⟨VT.int IntKind.u64, 1⟩)] [.c tN]).bind fun x_2 => (EF F n0 71 [vN x.2.2.1, vN x_2.1] [.c (tI)]).bind fun x_3 => bif x_3.1 != 0 then bif strB (List.length x_1.1) [47].length then (EF F n0 68 [vN x.2.2.1] [.c tS]).bind fun x => bif strB (x_1.1 ++ [47]).length (List.length x.1) then some (.ret (x_1.1 ++ [47] ++ x.1, ())) else none else none else some (.ret (x_1.1, ()))) := by kernel_rfl
theorem ref56_within_m {F : Nat} (n0 : Nat) (x0 x1 x2 : Int) : EF F (n0 + 1) 35 [.o (.c ⟨(.int .i64), x0⟩), .o (.c ⟨(.int .i64), x1⟩), .o (.c ⟨(.int .i64), x2⟩)] [.c .bool] = unwrapA (bif decide (x1 ≤ x0) then some (.ret (decide (x0 ≤ x2), ())) else some (.ret (false, ()))) := by kernel_rfl
theorem ref09_Check_m {F : Nat} (n0 : Nat) (x0 x1 : Int) : EF F (n0 + 1) 64 [.o (.c ⟨(.int .i64), x0⟩), .o (.c ⟨(.int .i64), x1⟩)] [.c (.int .i64), .c (.int .i64)] = unwrapA ((EF F n0 65 [vI x0] [.c tS]).bind fun x => bif x.1 == [] then some (.ret (0, 1, ())) else bif decide (x1 < 1) then some (.ret (0, 3, ())) else bif decide (9999999 < x1) then some (.ret (0, 3, ())) else some (.ret (IntKind.i64.wrap (98 - (IntKind.i64.wrap (IntKind.i64.wrap (IntKind.i64.wrap (x0 * 10000000) + x1) * 100)).tmod 97), 0, ()))) := by kernel_rfl
theorem ref09_prefix_m {F : Nat} (n0 : Nat) (x0 : Int) : EF F (n0 + 1) 65 [.o (.c ⟨(.int .i64), x0⟩)] [.c .str] = unwrapA (bif x0 == 1 then some (.ret ([73, 84, 77], ())) else bif x0 == 2 then some (.ret ([70, 82, 77], ())) else bif x0 == 3 then some (.ret ([67, 65, 78], ())) else bif x0 == 4 then some (.ret ([83, 69, 83], ())) else bif x0 == 5 then some (.ret ([82, 65, 84], ())) else bif x0 == 6 then some (.ret ([65, 83, 84], ())) else some (.ret ([], ()))) := by kernel_rfl
theorem ref03_Norm_m {F : Nat} (n0 : Nat) (x0_0 : Bool) (x0_1 x0_2 : List Nat) : EF F (n0 + 1) 67 [.o (.agg [⟨.bool, x0_0⟩, ⟨.nat, x0_1⟩, ⟨.nat, x0_2⟩])] [.agg [.bool, .nat, .nat]] = unwrapA ((EF F n0 76 [.o (.agg [⟨tB, x0_0⟩, ⟨tN, x0_1⟩, ⟨tN, x0_2⟩])] [.agg [tB, tN]]).bind fun x => (EF F n0 132 [.o (.agg [⟨tB, x0_0⟩, ⟨tN, x0_1⟩, ⟨tN, x0_2⟩])] [.c tN]).bind fun x_1 => (EF F n0 131 [.o (.agg [⟨tB, x.1⟩, ⟨tN, x.2.1⟩]), vN x_1.1] [.agg [tB, tN, tN]]).bind fun x => some (.ret (x.1, x.2.1, x.2.2.1, ()))) := by kernel_rfl
theorem ref01_Print_m {F : Nat} (n0 : Nat) (x0 : List Nat) : EF F (n0 + 1) 68 [.o (.c ⟨.nat, x0⟩)] [.c .str] = unwrapA ((EF F n0 133 [vN x0] [.c tN]).bind fun x => bif (Nat.cast (R := Int) (List.length x.1)) == 0 then some (.ret ([48], ())) else bif mkB 0 (IntKind.i64.wrap (10 * (Nat.cast (R := Int) (List.length x.1)))) 1 then loopA 0 [VT.sl 1 VT.byte, tN] (fun x_1 => bif decide (0 < (Nat.cast (R := Int) (List.length x_1.2.1))) then (EF F n0 134 [vN x_1.2.1, .o (.c ⟨VT.int IntKind.u64, 10⟩)] [.c tN, .c (VT.int IntKind.u64)]).bind fun x_2 => bif byteR (IntKind.u8.wrap (IntKind.u64.wrap (48 + x_2.2.1))) && true then bif capB (List.length x_1.1 + [UInt8.ofNat (IntKind.u8.wrap (IntKind.u64.wrap (48 + x_2.2.1))).toNat].length) 1 then some (.cont 0 [VT.sl 1 VT.byte, tN] (x_1.1 ++ [UInt8.ofNat (IntKind.u8.wrap (IntKind.u64.wrap (48 + x_2.2.1))).toNat], x_2.1, ())) else none else none else bif mkB ((Nat.cast (R := Int) (List.length x_1.1))) ((Nat.cast (R := Int) (List.length x_1.1))) 1 then loopA 0 [tI, VT.sl 1 VT.byte] (fun x_2 => bif decide (x_2.1 < (Nat.cast (R := Int) (List.length x_1.1))) then bif Nat.beq 1 1 && (decide (0 ≤ x_2.1) && decide (Int.toNat x_2.1 < List.length x_1.1)) then x_1.1[Int.toNat x_2.1]?.bind fun y => bif Nat.beq 1 1 && (decide (0 ≤ IntKind.i64.wrap (IntKind.i64.wrap ((Nat.cast (R := Int) (List.length x_1.1)) - 1) - x_2.1)) && decide ((IntKind.i64.wrap (IntKind.i64.wrap ((Nat.cast (R := Int) (List.length x_1.1)) - 1) - x_2.1)).toNat < List.length x_2.2.1)) then x_2.2.1[(IntKind.i64.wrap (IntKind.i64.wrap ((Nat.cast (R := Int) (List.length x_1.1)) - 1) - x_2.1)).toNat]?.bind fun el' => bif byteR (Nat.cast (R := Int) y.toNat) && true then some (.cont 0 [tI, VT.sl 1 VT.byte] (IntKind.i64.wrap (x_2.1 + 1), List.set x_2.2.1 (IntKind.i64.wrap (IntKind.i64.wrap ((Nat.cast (R := Int) (List.length x_1.1)) - 1) - x_2.1)).toNat (UInt8.ofNat ((Nat.cast (R := Int) y.toNat)).toNat), ())) else none else none else none else some (.ret (x_2.2.1, ()))) F (0, List.replicate ((Nat.cast (R := Int) (List.length x_1.1))).toNat (UInt8.ofNat (Int.toNat 0)), ()) else none) F (List.replicate (Int.toNat 0) (UInt8.ofNat (Int.toNat 0)), x.1, ()) else none) := by kernel_rfl
theorem ref02_Print_m {F : Nat} (n0 : Nat) (x0_0 : Bool) (x0_1 : List Nat) : EF F (n0 + 1) 69 [.o (.agg [⟨.bool, x0_0⟩, ⟨.nat, x0_1⟩])] [.c .str] = unwrapA ((EF F n0 115 [.o (.agg [⟨tB, x0_0⟩, ⟨tN, x0_1⟩])] [.agg [tB, tN]]).bind fun x => bif x.1 then (EF F n0 68 [vN x.2.1] [.c tS]).bind fun x => bif strB [45].length (List.length x.1) then some (.ret ([45] ++ x.1, ())) else none else (EF F n0 68 [vN x.2.1] [.c tS]).bind fun x => some (.ret (x.1, ()))) := by kernel_rfl
end Go.Proofs.YtcggnmddcbhchaaGreatDoor
set_option linter.unusedSimpArgs false
set_option linter.unusedVariables false
namespace Go.Proofs.YtcggnmddcbhchaaGreatDoor
open Go.RowKit Lim
theorem pd1Norm_k (b : Bool) (n0 : Nat) (a0 : List Nat) : ev (evwF fuel) (n0 + 1) b 133 [.o (.c ⟨.nat, a0⟩)] [.c .nat] = bif capD a0 then some (limbsK (val a0), ()) else none := by cases b <;> kernel_rfl
theorem pd1Norm_e {b : Bool} (n0 : Nat) (a0 : List Nat) (c0 : capD a0 = true) : ev (evwF fuel) (n0 + 1) b 133 [.o (.c ⟨.nat, a0⟩)] [.c .nat] = some (limbsK (val a0), ()) := by
 rw [pd1Norm_k]
 simp only [c0, Bool.and_self, Bool.and_true, cond_true]
 try rfl
theorem pd1Of_k (b : Bool) (n0 : Nat) (z0 : Int) : ev (evwF fuel) (n0 + 1) b 72 [.o (.c ⟨.int .u64, z0⟩)] [.c .nat] = bif capU z0 then some (limbsK (z0.toNat), ()) else none := by cases b <;> kernel_rfl
theorem pd1Of_e {b : Bool} (n0 : Nat) (z0 : Int) (c0 : (capU z0) = true) : ev (evwF fuel) (n0 + 1) b 72 [.o (.c ⟨.int .u64, z0⟩)] [.c .nat] = some (limbsK (z0.toNat), ()) := by
 rw [pd1Of_k]
 simp only [c0, Bool.and_self, Bool.and_true, cond_true]
 try rfl
theorem pd1Cmp_k (b : Bool) (n0 : Nat) (a0 : List Nat) (a1 : List Nat) : ev (evwF fuel) (n0 + 1) b 71 [.o (.c ⟨.nat, a0⟩), .o (.c ⟨.nat, a1⟩)] [.c (.int .i64)] = bif capD a0 && capD a1 then some (cmpI (val a0) (val a1), ()) else none := by cases b <;> kernel_rfl
theorem pd1Cmp_e {b : Bool} (n0 : Nat) (a0 : List Nat) (a1 : List Nat) (c0 : capD a0 = true) (c1 : capD a1 = true) : ev (evwF fuel) (n0 + 1) b 71 [.o (.c ⟨.nat, a0⟩), .o (.c ⟨.nat, a1⟩)] [.c (.int .i64)] = some (cmpI (val a0) (val a1), ()) := by
 rw [pd1Cmp_k]
 simp only [c0, c1, Bool.and_self, Bool.and_true, cond_true]
 try rfl
theorem pd1Short_k (b : Bool) (n0 : Nat) (a0 : List Nat) (z1 : Int) : ev (evwF fuel) (n0 + 1) b 134 [.o (.c ⟨.nat, a0⟩), .o (.c ⟨.int .u64, z1⟩)] [.c .nat, .c (.int .u64)] = bif capD a0 && (decide (0 < z1) && decide (z1 < 4294967296)) then some (limbsK (val a0 / z1.toNat), ((val a0 % z1.toNat : Nat) : Int), ()) else none := by cases b <;> kernel_rfl
theorem pd1Short_e {b : Bool} (n0 : Nat) (a0 : List Nat) (z1 : Int) (c0 : capD a0 = true) (c1 : ((decide (0 < z1) && decide (z1 < 4294967296))) = true) : ev (evwF fuel) (n0 + 1) b 134 [.o (.c ⟨.nat, a0⟩), .o (.c ⟨.int .u64, z1⟩)] [.c .nat, .c (.int .u64)] = some (limbsK (val a0 / z1.toNat), ((val a0 % z1.toNat : Nat) : Int), ()) := by
 rw [pd1Short_k]
 simp only [c0, c1, Bool.and_self, Bool.and_true, cond_true]
 try rfl
theorem pd1Mul_k (b : Bool) (n0 : Nat) (a0 : List Nat) (a1 : List Nat) : ev (evwF fuel) (n0 + 1) b 108 [.o (.c ⟨.nat, a0⟩), .o (.c ⟨.nat, a1⟩)] [.c .nat] = bif capD a0 && capD a1 then some (limbsK (val a0 * val a1), ()) else none := by cases b <;> kernel_rfl
theorem pd1Mul_e {b : Bool} (n0 : Nat) (a0 : List Nat) (a1 : List Nat) (c0 : capD a0 = true) (c1 : capD a1 = true) : ev (evwF fuel) (n0 + 1) b 108 [.o (.c ⟨.nat, a0⟩), .o (.c ⟨.nat, a1⟩)] [.c .nat] = some (limbsK (val a0 * val a1), ()) := by
 rw [pd1Mul_k]
 simp only [c0, c1, Bool.and_self, Bool.and_true, cond_true]
 try rfl
theorem pd1Add_k (b : Bool) (n0 : Nat) (a0 : List Nat) (a1 : List Nat) : ev (evwF fuel) (n0 + 1) b 171 [.o (.c ⟨.nat, a0⟩), .o (.c ⟨.nat, a1⟩)] [.c .nat] = bif capD a0 && capD a1 then some (limbsK (val a0 + val a1), ()) else none := by cases b <;> kernel_rfl
theorem pd1Add_e {b : Bool} (n0 : Nat) (a0 : List Nat) (a1 : List Nat) (c0 : capD a0 = true) (c1 : capD a1 = true) : ev (evwF fuel) (n0 + 1) b 171 [.o (.c ⟨.nat, a0⟩), .o (.c ⟨.nat, a1⟩)] [.c .nat] = some (limbsK (val a0 + val a1), ()) := by
 rw [pd1Add_k]
 simp only [c0, c1, Bool.and_self, Bool.and_true, cond_true]
 try rfl
theorem pd1Bits_k (b : Bool) (n0 : Nat) (a0 : List Nat) : ev (evwF fuel) (n0 + 1) b 137 [.o (.c ⟨.nat, a0⟩)] [.c (.int .i64)] = bif capD a0 then some (((bitsN (val a0) : Nat) : Int), ()) else none := by cases b <;> kernel_rfl
theorem pd1Bits_e {b : Bool} (n0 : Nat) (a0 : List Nat) (c0 : capD a0 = true) : ev (evwF fuel) (n0 + 1) b 137 [.o (.c ⟨.nat, a0⟩)] [.c (.int .i64)] = some (((bitsN (val a0) : Nat) : Int), ()) := by
 rw [pd1Bits_k]
 simp only [c0, Bool.and_self, Bool.and_true, cond_true]
 try rfl
theorem pd2Make_k (b : Bool) (n0 : Nat) (t0 : Bool) (a1 : List Nat) : ev (evwF fuel) (n0 + 1) b 135 [.o (.c ⟨.bool, t0⟩), .o (.c ⟨.nat, a1⟩)] [.agg [.bool, .nat]] = bif capD a1 then some (decide ((sg t0 (val a1)) < 0), limbsK (sg t0 (val a1)).natAbs, ()) else none := by cases b <;> kernel_rfl
theorem pd2Make_e {b : Bool} (n0 : Nat) (t0 : Bool) (a1 : List Nat) (c0 : capD a1 = true) : ev (evwF fuel) (n0 + 1) b 135 [.o (.c ⟨.bool, t0⟩), .o (.c ⟨.nat, a1⟩)] [.agg [.bool, .nat]] = some (decide ((sg t0 (val a1)) < 0), limbsK (sg t0 (val a1)).natAbs, ()) := by
 rw [pd2Make_k]
 simp only [c0, Bool.and_self, Bool.and_true, cond_true]
 try rfl
theorem pd2Norm_k (b : Bool) (n0 : Nat) (t0 : Bool) (a0 : List Nat) : ev (evwF fuel) (n0 + 1) b 115 [.o (.agg [⟨.bool, t0⟩, ⟨.nat, a0⟩])] [.agg [.bool, .nat]] = bif capD a0 then some (decide ((sg t0 (val a0)) < 0), limbsK (sg t0 (val a0)).natAbs, ()) else none := by cases b <;> kernel_rfl
theorem pd2Norm_e {b : Bool} (n0 : Nat) (t0 : Bool) (a0 : List Nat) (c0 : capD a0 = true) : ev (evwF fuel) (n0 + 1) b 115 [.o (.agg [⟨.bool, t0⟩, ⟨.nat, a0⟩])] [.agg [.bool, .nat]] = some (decide ((sg t0 (val a0)) < 0), limbsK (sg t0 (val a0)).natAbs, ()) := by
 rw [pd2Norm_k]
 simp only [c0, Bool.and_self, Bool.and_true, cond_true]
 try rfl
theorem pd3Top_k (b : Bool) (n0 : Nat) (t0 : Bool) (a0 b0 : List Nat) : ev (evwF fuel) (n0 + 1) b 76 [.o (.agg [⟨.bool, t0⟩, ⟨.nat, a0⟩, ⟨.nat, b0⟩])] [.agg [.bool, .nat]] = bif capD a0 && capD b0 then some (decide ((pz (sg t0 (val a0)) (val b0)) < 0), limbsK (pz (sg t0 (val a0)) (val b0)).natAbs, ()) else none := by cases b <;> kernel_rfl
theorem pd3Top_e {b : Bool} (n0 : Nat) (t0 : Bool) (a0 b0 : List Nat) (c0 : capD a0 = true) (c1 : capD b0 = true) : ev (evwF fuel) (n0 + 1) b 76 [.o (.agg [⟨.bool, t0⟩, ⟨.nat, a0⟩, ⟨.nat, b0⟩])] [.agg [.bool, .nat]] = some (decide ((pz (sg t0 (val a0)) (val b0)) < 0), limbsK (pz (sg t0 (val a0)) (val b0)).natAbs, ()) := by
 rw [pd3Top_k]
 simp only [c0, c1, Bool.and_self, Bool.and_true, cond_true]
 try rfl
theorem pd3Low_k (b : Bool) (n0 : Nat) (t0 : Bool) (a0 b0 : List Nat) : ev (evwF fuel) (n0 + 1) b 132 [.o (.agg [⟨.bool, t0⟩, ⟨.nat, a0⟩, ⟨.nat, b0⟩])] [.c .nat] = bif capD a0 && capD b0 then some (limbsK (pd (val b0)), ()) else none := by cases b <;> kernel_rfl
theorem pd3Low_e {b : Bool} (n0 : Nat) (t0 : Bool) (a0 b0 : List Nat) (c0 : capD a0 = true) (c1 : capD b0 = true) : ev (evwF fuel) (n0 + 1) b 132 [.o (.agg [⟨.bool, t0⟩, ⟨.nat, a0⟩, ⟨.nat, b0⟩])] [.c .nat] = some (limbsK (pd (val b0)), ()) := by
 rw [pd3Low_k]
 simp only [c0, c1, Bool.and_self, Bool.and_true, cond_true]
 try rfl
theorem pd3Red_k (b : Bool) (n0 : Nat) (t0 : Bool) (a0 : List Nat) (a1 : List Nat) : ev (evwF fuel) (n0 + 1) b 131 [.o (.agg [⟨.bool, t0⟩, ⟨.nat, a0⟩]), .o (.c ⟨.nat, a1⟩)] [.agg [.bool, .nat, .nat]] = bif capD a0 && capD a1 && Nat.blt 0 (val a1) then some (decide ((rn (sg t0 (val a0)) (val a1)) < 0), limbsK (rn (sg t0 (val a0)) (val a1)).natAbs, limbsK (rd (sg t0 (val a0)) (val a1)), ()) else none := by cases b <;> kernel_rfl
theorem pd3Red_e {b : Bool} (n0 : Nat) (t0 : Bool) (a0 : List Nat) (a1 : List Nat) (c0 : capD a0 = true) (c1 : capD a1 = true) (c2 : (Nat.blt 0 (val a1)) = true) : ev (evwF fuel) (n0 + 1) b 131 [.o (.agg [⟨.bool, t0⟩, ⟨.nat, a0⟩]), .o (.c ⟨.nat, a1⟩)] [.agg [.bool, .nat, .nat]] = some (decide ((rn (sg t0 (val a0)) (val a1)) < 0), limbsK (rn (sg t0 (val a0)) (val a1)).natAbs, limbsK (rd (sg t0 (val a0)) (val a1)), ()) := by
 rw [pd3Red_k]
 simp only [c0, c1, c2, Bool.and_self, Bool.and_true, cond_true]
 try rfl
theorem pd3Sign_k (b : Bool) (n0 : Nat) (t0 : Bool) (a0 b0 : List Nat) : ev (evwF fuel) (n0 + 1) b 34 [.o (.agg [⟨.bool, t0⟩, ⟨.nat, a0⟩, ⟨.nat, b0⟩])] [.c (.int .i64)] = bif capD a0 && capD b0 then some (sgnI (pz (sg t0 (val a0)) (val b0)), ()) else none := by cases b <;> kernel_rfl
theorem pd3Sign_e {b : Bool} (n0 : Nat) (t0 : Bool) (a0 b0 : List Nat) (c0 : capD a0 = true) (c1 : capD b0 = true) : ev (evwF fuel) (n0 + 1) b 34 [.o (.agg [⟨.bool, t0⟩, ⟨.nat, a0⟩, ⟨.nat, b0⟩])] [.c (.int .i64)] = some (sgnI (pz (sg t0 (val a0)) (val b0)), ()) := by
 rw [pd3Sign_k]
 simp only [c0, c1, Bool.and_self, Bool.and_true, cond_true]
 try rfl
end Go.Proofs.YtcggnmddcbhchaaGreatDoor
set_option linter.unusedSimpArgs false
set_option linter.unusedVariables false
namespace Go.Proofs.YtcggnmddcbhchaaGreatDoor
open Go.RowKit Lim
theorem mkB_ok {n m : Int} {b : Nat} (h0 : 0 ≤ n) (h1 : n ≤ m) (h2 : m.toNat * b ≤ 140737488355328) (h3 : m.toNat ≤ 9223372036854775807) : mkB n m b = true := by
 unfold mkB
 rw [decide_eq_true h0, decide_eq_true h1, Nat.ble_eq_true_of_le h2, Nat.ble_eq_true_of_le h3]
 rfl
theorem limbsK_dig (k : Nat) : Dig (limbsK k) := by rw [limbsK_eq]; exact dig_limbs k
theorem limbsK_mono {l : List Nat} {k : Nat} (h : k ≤ val l) (hd : Dig l) : (limbsK k).length ≤ l.length := by
 rw [limbsK_eq]
 exact Nat.le_trans (nlen_mono h) (nlen_val hd)
theorem limbsK_len0 (k : Nat) : (limbsK k).length = 0 ↔ k = 0 := by
 rw [limbsK_eq, List.length_eq_zero_iff]
 exact limbs_eq_nil
theorem set_rep {α : Type} (a v : α) (R : List α) : ∀ k, (List.replicate (k + 1) a ++ R).set k v = List.replicate k a ++ v :: R
 | 0 => rfl
 | k + 1 => by
  have := set_rep a v R k
  rw [List.replicate_succ, List.cons_append, List.set_cons_succ, this]
  rfl
theorem rev_loop {step : denL [tI, VT.sl 1 VT.byte] → Option (Ans (denL [tS]))} (b : List UInt8) (hb : b.length < 9223372036854775807) (hs : ∀ (i : Nat) (hi : i < b.length) (o : List UInt8), o.length = b.length → step ((i : Int), o, ()) = some (.cont 0 [tI, VT.sl 1 VT.byte] (((i + 1 : Nat) : Int), o.set (b.length - 1 - i) b[i], ()))) (he : ∀ o, step ((b.length : Int), o, ()) = some (.ret (o, ()))) :
  loopA 0 [tI, VT.sl 1 VT.byte] step fuel (0, List.replicate b.length 0, ()) = some (.ret (b.reverse, ())) := by
 refine (congrArg (fun o => loopA 0 [tI, VT.sl 1 VT.byte] step fuel (0, o, ())) (show List.replicate b.length 0 = List.replicate (b.length - 0) 0 ++ (b.take 0).reverse by simp)).trans ?_
 refine loopA_range (R := denL [tS]) (ts := [tI, VT.sl 1 VT.byte]) (N := b.length) (fun i => ((i : Int), List.replicate (b.length - i) 0 ++ (b.take i).reverse, ())) (fun i hi => ?_) ?_ rfl (fuel_lt (by omega))
 ·rw [hs i hi _ (by simp; omega)]
  obtain ⟨j, hj⟩ : ∃ j, b.length - i = j + 1 := ⟨b.length - i - 1, by omega⟩
  rw [hj, show b.length - 1 - i = j by omega, set_rep, show b.length - (i + 1) = j by omega, List.take_add_one, List.getElem?_eq_getElem hi, List.reverse_append]
  rfl
 ·rw [he, Nat.sub_self, List.take_length]
  rfl
def restD (m : Nat) : List UInt8 := if m = 0 then [] else Lib.decDigits m
theorem restD_step {m : Nat} (h : m ≠ 0) : restD m = restD (m / 10) ++ [UInt8.ofNat (48 + m % 10)] := by
 unfold restD
 rw [if_neg h]
 by_cases h10 : m < 10
 ·rw [if_pos (by omega), Lib.decDigits_one h10, Nat.mod_eq_of_lt h10]; rfl
 ·rw [if_neg (by omega), dec_big h10]
section
variable (n : Nat)
theorem r1print_e (l : List Nat) (hd : Dig l) (hl : l.length ≤ 1048600) : EF fuel (n + 2) 68 [vN l] gS = some (decK (val l), ()) := by
 refine (ref01_Print_m (n + 1) l).trans ?_
 rw [bind_go (pd1Norm_e (b := true) n l (capD_ok hd hl))]
 dsimp only
 have hlen := limbsK_mono (Nat.le_refl (val l)) hd
 by_cases h0 : val l = 0
 ·rw [show (((limbsK (val l)).length : Int) == 0) = true by rw [beq_iff_eq]; have := (limbsK_len0 (val l)).2 h0; omega, cond_true, h0]
  rfl
 rw [show (((limbsK (val l)).length : Int) == 0) = false by rw [beq_eq_false_iff_ne]; intro e; exact h0 ((limbsK_len0 (val l)).1 (by omega)), cond_false]
 rw [w64 (z := 10 * ((limbsK (val l)).length : Int)) (by omega) (by omega), mkB_ok (by omega) (by omega) (by omega) (by omega), cond_true]
 refine congrArg (a₂ := some (Ans.ret (decK (val l), ()))) unwrapA ?_
 have hD : (Lib.decDigits (val l)).length ≤ 10995116277761 := dec_len (by have := nlen_val hd; omega)
 refine loopA_inv (R := denL [tS]) (ts := [VT.sl 1 VT.byte, tN]) (fun x => ∃ m b, x = (b, limbsK m, ()) ∧ m ≤ val l ∧ restD m ++ b.reverse = Lib.decDigits (val l)) (fun (x : List UInt8 × List Nat × Unit) => (restD (val x.2.1)).length) (fun x hx => ?_) _ ⟨val l, [], rfl, Nat.le_refl _, by unfold restD; rw [if_neg h0]; simp⟩ ?_
 ·obtain ⟨m, b, rfl, hm, hinv⟩ := hx
  have hbl : b.length ≤ 10995116277761 := by
   have := congrArg List.length hinv
   rw [List.length_append, List.length_reverse] at this
   omega
  dsimp only
  by_cases hm0 : m = 0
  ·subst hm0
   refine .inl ⟨?_, rfl⟩
   rw [decide_eq_false (show ¬ 0 < ((limbsK 0).length : Int) by have := (limbsK_len0 0).2 rfl; omega), cond_false, mkB_ok (by omega) (by omega) (by omega) (by omega), cond_true]
   have hr : b.reverse = decK (val l) := by rw [decK_eq, ← hinv]; rfl
   rw [← hr, Int.toNat_natCast]
   refine rev_loop b (by omega) (fun i hi o ho => ?_) (fun o => ?_)
   ·dsimp only
    have e1 : IntKind.i64.wrap (IntKind.i64.wrap ((b.length : Int) - 1) - (i : Int)) = ((b.length - 1 - i : Nat) : Int) := by
     rw [w64 (z := (b.length : Int) - 1) (by omega) (by omega), w64 (by omega) (by omega)]
     omega
    have e2 : byteR ((b[i].toNat : Nat) : Int) = true := by
     have := b[i].toNat_lt
     unfold byteR
     rw [decide_eq_true (by omega), decide_eq_true (by omega)]; rfl
    rw [dlt hi, cond_true, Int.toNat_natCast, decide_eq_true (show (0 : Int) ≤ (i : Int) by omega), decide_eq_true (show i < b.length from hi), show (Nat.beq 1 1 && (true && true)) = true from rfl, cond_true, List.getElem?_eq_getElem hi, Option.bind_some, e1, Int.toNat_natCast, decide_eq_true (show (0 : Int) ≤ ((b.length - 1 - i : Nat) : Int) by omega), decide_eq_true (show b.length - 1 - i < o.length by omega), show (Nat.beq 1 1 && (true && true)) = true from rfl, cond_true, List.getElem?_eq_getElem (show b.length - 1 - i < o.length by omega), Option.bind_some, e2, Bool.and_true, cond_true, w64n (by omega), Int.toNat_natCast, UInt8.ofNat_toNat]
   ·dsimp only
    rw [dge (Nat.le_refl _), cond_false]
  ·have hs := restD_step hm0
   have hpos : 0 < (limbsK m).length := by
    rcases Nat.eq_zero_or_pos (limbsK m).length with h | h
    ·exact absurd ((limbsK_len0 m).1 h) hm0
    ·exact h
   have hml := limbsK_mono hm hd
   have e1 : IntKind.u8.wrap (IntKind.u64.wrap (48 + ((m % 10 : Nat) : Int))) = ((48 + m % 10 : Nat) : Int) := by
    rw [u64w (z := 48 + ((m % 10 : Nat) : Int)) (by omega) (by omega)]
    simp [IntKind.wrap, IntKind.bits, IntKind.signed]
    omega
   have e2 : byteR ((48 + m % 10 : Nat) : Int) = true := by
    unfold byteR
    rw [decide_eq_true (by omega), decide_eq_true (by omega)]; rfl
   refine .inr ⟨(b ++ [UInt8.ofNat (48 + m % 10)], limbsK (m / 10), ()), ?_, ⟨m / 10, b ++ [UInt8.ofNat (48 + m % 10)], rfl, by omega, ?_⟩, ?_⟩
   ·rw [decide_eq_true (show 0 < ((limbsK m).length : Int) by omega), cond_true, bind_go (pd1Short_e (b := true) n (limbsK m) 10 (capD_ok (limbsK_dig m) (by omega)) (by decide))]
    dsimp only
    rw [val_K, show (10 : Int).toNat = 10 from rfl, e1, e2, Bool.and_true, cond_true, capB_le (by simp only [List.length_cons, List.length_nil]; omega), cond_true, Int.toNat_natCast]
   ·rw [List.reverse_append, ← hinv, hs]
    simp
   ·show (restD (val (limbsK (m / 10)))).length < (restD (val (limbsK m))).length
    rw [val_K, val_K, hs, List.length_append]
    simp
 ·show (restD (val (limbsK (val l)))).length < fuel
  rw [val_K]
  unfold restD
  rw [if_neg h0]
  exact fuel_lt (by omega)
theorem decK_len {k : Nat} (h : nlen k < 1099511627776) : (decK k).length ≤ 10995116277761 := by
 rw [decK_eq]
 exact dec_len h
theorem r2print_e (t : Bool) (l : List Nat) (hd : Dig l) (hl : l.length ≤ 1048600) : EF fuel (n + 3) 69 [.o (.agg [⟨.bool, t⟩, ⟨.nat, l⟩])] gS = some (itoaK (sg t (val l)), ()) := by
 refine (ref02_Print_m (n + 2) t l).trans ?_
 rw [bind_go (pd2Norm_e (b := true) (n + 1) t l (capD_ok hd hl))]
 dsimp only
 have hm : (sg t (val l)).natAbs ≤ val l := by rw [sg_abs]; exact Nat.le_refl _
 have hml := limbsK_mono hm hd
 have hn : nlen (sg t (val l)).natAbs < 1099511627776 := by
  rw [limbsK_eq] at hml
  have : nlen (sg t (val l)).natAbs ≤ l.length := hml
  omega
 have hp := r1print_e n (limbsK (sg t (val l)).natAbs) (limbsK_dig _) (by omega)
 rw [val_K] at hp
 have hk := decK_len hn
 unfold itoaK
 by_cases hz : sg t (val l) < 0
 ·rw [decide_eq_true hz, cond_true, cond_true, bind_go hp]
  dsimp only
  rw [strB_le (by simp only [List.length_cons, List.length_nil]; omega)]
  rfl
 ·rw [decide_eq_false hz, cond_false, cond_false, bind_go hp, show (sg t (val l)).toNat = (sg t (val l)).natAbs by omega]
  rfl
theorem Q3.OK.kz {q : Q3} (h : q.OK) : capD (limbsK q.z.natAbs) = true := by
 refine capD_ok (limbsK_dig _) ?_
 have h1 : q.z.natAbs ≤ val q.a := by
  unfold Q3.z pz
  split
  ·simp
  ·rw [sg_abs]; exact Nat.le_refl _
 have := limbsK_mono h1 h.da
 have := h.la
 omega
theorem Q3.OK.kd {q : Q3} (h : q.OK) : capD (limbsK q.d) = true := by
 refine capD_ok (limbsK_dig _) ?_
 have hb := h.lb
 by_cases h0 : val q.b = 0
 ·have h2 : q.d = 1 := by unfold Q3.d pd; rw [if_pos h0]
  have h4 : nlen 1 = 1 := by decide +kernel
  rw [limbsK_eq, h2]
  show nlen 1 ≤ _
  omega
 ·have h2 : q.d = val q.b := by unfold Q3.d pd; rw [if_neg h0]
  have := limbsK_mono (k := q.d) (l := q.b) (by omega) h.db
  omega
theorem Q3.OK.kn {q : Q3} (h : q.OK) : (limbsK q.n.natAbs).length ≤ 1048600 := by
 have := limbsK_mono q.n_le h.da
 have := h.la
 omega
theorem Q3.OK.km {q : Q3} (h : q.OK) : (limbsK q.m).length ≤ 1048600 := by
 have h1 : q.m ≤ q.d := Nat.div_le_self _ _
 have h2 := limbsK_mono (k := q.m) (l := limbsK q.d) (by rw [val_K]; exact h1) (limbsK_dig _)
 have h3 := (capD_of h.kd).2
 omega
theorem r3norm_e (q : Q3) (h : q.OK) : EF fuel (n + 2) 67 [vQ q] gQ = some (decide (q.n < 0), limbsK q.n.natAbs, limbsK q.m, ()) := by
 have ca : capD q.a = true := capD_ok h.da (by have := h.la; omega)
 have cb : capD q.b = true := capD_ok h.db (by have := h.lb; omega)
 refine (ref03_Norm_m (n + 1) q.t q.a q.b).trans ?_
 rw [bind_go (pd3Top_e (b := true) n q.t q.a q.b ca cb), bind_go (pd3Low_e (b := true) n q.t q.a q.b ca cb)]
 have hz : capD (limbsK (pz (sg q.t (val q.a)) (val q.b)).natAbs) = true := h.kz
 have hd : capD (limbsK (pd (val q.b))) = true := h.kd
 have hp : Nat.blt 0 (val (limbsK (pd (val q.b)))) = true := by
  rw [val_K]
  exact Nat.ble_eq_true_of_le q.d_pos
 rw [bind_go (pd3Red_e (b := true) n _ _ _ hz hd hp), val_K, val_K, sg_own]
 rfl
theorem r3print_e (q : Q3) (h : q.OK) (hl : q.long = false) : EF fuel (n + 4) 31 [vQ q] gS = some (q.tx, ()) := by
 refine (ref03_Print_m (n + 3) q.t q.a q.b).trans ?_
 have p2 := r2print_e n (decide (q.n < 0)) (limbsK q.n.natAbs) (limbsK_dig _) h.kn
 rw [val_K, sg_own] at p2
 have p1 := r1print_e (n + 1) (limbsK q.m) (limbsK_dig _) h.km
 rw [val_K] at p1
 have ht := Q3.tx_len hl
 have h1 : (limbsK 1).length ≤ 1048600 := by
  rw [limbsK_eq]
  show nlen 1 ≤ _
  have h4 : nlen 1 = 1 := by decide +kernel
  omega
 rw [bind_go (r3norm_e (n + 1) q h), bind_go p2, bind_go (pd1Of_e (b := true) (n + 2) 1 (capU_ok (by omega) (by omega)))]
 dsimp only
 rw [bind_go (pd1Cmp_e (b := true) (n + 2) (limbsK q.m) (limbsK (1 : Int).toNat) (capD_ok (limbsK_dig _) h.km) (capD_ok (limbsK_dig _) h1)), val_K, val_K]
 dsimp only
 have e : (cmpI q.m (1 : Int).toNat != 0) = !(Nat.beq q.m 1) := by
  rw [show (1 : Int).toNat = 1 from rfl]
  by_cases hm : q.m = 1
  ·rw [hm]; rfl
  ·have : Nat.beq q.m 1 = false := by rw [beq_iff]; simpa using hm
   rw [this]
   unfold cmpI
   by_cases h2 : q.m < 1
   ·rw [if_pos h2]; rfl
   ·rw [if_neg h2, if_pos (by omega)]; rfl
 rw [e]
 unfold Q3.tx ratK at *
 cases hb : Nat.beq q.m 1 with
 | true => rfl
 | false =>
  rw [hb, cond_false] at ht
  simp only [List.length_append, List.length_cons, List.length_nil] at ht
  rw [Bool.not_false, cond_true, strB_s (by simp only [List.length_cons, List.length_nil]; omega), cond_true, bind_go p1]
  dsimp only
  rw [strB_s (by simp only [List.length_append, List.length_cons, List.length_nil]; omega)]
  rfl
theorem within_e (x lo hi : Int) : EF fuel (n + 1) 35 [vI x, vI lo, vI hi] gB = some (decide (lo ≤ x) && decide (x ≤ hi), ()) := by
 refine (ref56_within_m n x lo hi).trans ?_
 cases decide (lo ≤ x) <;> rfl
theorem r56reason_e (z : Int) : EF fuel (n + 1) 14 [vI z] gS = some (reason z, ()) := by
 refine (ref56_Reason_m n z).trans ?_
 unfold reason
 cases z == 0
 case true => rfl
 cases z == 1
 case true => rfl
 cases z == 2
 case true => rfl
 cases z == 3
 case true => rfl
 cases z == 4 <;> rfl
theorem wi {x lo hi : Int} : (decide (lo ≤ x) && decide (x ≤ hi)) = !(decide (x < lo) || decide (hi < x)) := by
 by_cases h1 : x < lo
 ·rw [decide_eq_true h1, decide_eq_false (show ¬ lo ≤ x by omega)]; rfl
 ·rw [decide_eq_false h1, decide_eq_true (show lo ≤ x by omega)]
  by_cases h2 : hi < x
  ·rw [decide_eq_true h2, decide_eq_false (show ¬ x ≤ hi by omega)]; rfl
  ·rw [decide_eq_false h2, decide_eq_true (show x ≤ hi by omega)]; rfl
theorem r56valid_e (r : Res) (h : r.OK) : EF fuel (n + 2) 12 [vR r] gI = some (r.valid, ()) := by
 have ca : capD r.v.a = true := capD_ok h.v.da (by have := h.v.la; omega)
 have cb : capD r.v.b = true := capD_ok h.v.db (by have := h.v.lb; omega)
 refine (ref56_Valid_m (n + 1) r.m.t r.m.a r.m.b r.v.t r.v.a r.v.b r.lo r.hi r.sc r.es r.st r.sp).trans ?_
 rw [bind_go (pd3Sign_e (b := true) n r.v.t r.v.a r.v.b ca cb), bind_go (within_e n r.lo (-1000) 1000), bind_go (within_e n r.hi (-1000) 1000), bind_go (within_e n r.sc (-1000000) 1000000), bind_go (within_e n r.es 0 1000000), bind_go (within_e n r.sp 0 18), bind_go (within_e n r.st 0 4)]
 unfold Res.valid beyondB
 dsimp only
 rw [wi, wi, wi, wi, wi, wi]
 rw [show pz (sg r.v.t (val r.v.a)) (val r.v.b) = r.v.z from rfl]
 generalize decide (sgnI r.v.z < 0) = b1
 generalize (decide (r.lo < -1000) || decide (1000 < r.lo)) = b2
 generalize (decide (r.hi < -1000) || decide (1000 < r.hi)) = b3
 generalize (decide (r.sc < -1000000) || decide (1000000 < r.sc)) = b4
 generalize decide (r.es < 0) = b5
 generalize decide (1000000 < r.es) = b6
 generalize decide (r.sp < 0) = b7
 generalize decide (18 < r.sp) = b8
 generalize decide (r.hi < r.lo) = b9
 generalize decide (r.st < 0) = c1
 generalize decide (4 < r.st) = c2
 cases b1
 case true => rfl
 cases b2
 case true => rfl
 cases b3
 case true => rfl
 cases b4
 case true => rfl
 cases b5
 case true => rfl
 cases b6
 case true => rfl
 cases b7
 case true => rfl
 cases b8
 case true => rfl
 cases b9
 case true => rfl
 cases c1
 case true => rfl
 cases c2 <;> rfl
end
end Go.Proofs.YtcggnmddcbhchaaGreatDoor
set_option linter.unusedSimpArgs false
set_option linter.unusedVariables false
namespace Go.Proofs.YtcggnmddcbhchaaGreatDoor
open Go.RowKit Lim
theorem law56_ReportParses_m {F : Nat} (n0 : Nat) (x0 : List UInt8) : EF F (n0 + 1) 4 [.o (.c ⟨.str, x0⟩)] [.c .bool] = unwrapA ((EF F n0 16 [vS x0] [.c (tI), .agg tT, .c (tI)]).bind fun x => (EF F n0 17 [vS x0] [.c (tI), .agg tT, .c (tI)]).bind fun x_1 => bif x.1 == x_1.1 then (EF F n0 18 [.o (.agg (cL x.2.1 x.2.2.1 x.2.2.2.1 x.2.2.2.2.1 x.2.2.2.2.2.1 x.2.2.2.2.2.2.1 x.2.2.2.2.2.2.2.1 x.2.2.2.2.2.2.2.2.1 x.2.2.2.2.2.2.2.2.2.1 x.2.2.2.2.2.2.2.2.2.2.1 x.2.2.2.2.2.2.2.2.2.2.2.1 x.2.2.2.2.2.2.2.2.2.2.2.2.1)), .o (.agg (cL x_1.2.1 x_1.2.2.1 x_1.2.2.2.1 x_1.2.2.2.2.1 x_1.2.2.2.2.2.1 x_1.2.2.2.2.2.2.1 x_1.2.2.2.2.2.2.2.1 x_1.2.2.2.2.2.2.2.2.1 x_1.2.2.2.2.2.2.2.2.2.1 x_1.2.2.2.2.2.2.2.2.2.2.1 x_1.2.2.2.2.2.2.2.2.2.2.2.1 x_1.2.2.2.2.2.2.2.2.2.2.2.2.1))] [.c tB]).bind fun x_2 => bif x_2.1 then bif x.2.2.2.2.2.2.2.2.2.2.2.2.2.1 == x_1.2.2.2.2.2.2.2.2.2.2.2.2.2.1 then (EF F n0 15 [] [.c tB]).bind fun x => some (.ret (x.1, ())) else some (.ret (false, ())) else some (.ret (false, ())) else some (.ret (false, ()))) := by kernel_rfl
theorem ref56_Parse_m {F : Nat} (n0 : Nat) (x0 : List UInt8) : EF F (n0 + 1) 17 [.o (.c ⟨.str, x0⟩)] [.c (.int .i64), .agg tT, .c (.int .i64)] = unwrapA ((EF F n0 39 [vS x0, .o (.c ⟨VT.int IntKind.u8, 10⟩)] [.c (VT.sl 1 tS)]).bind fun x => bif (Nat.cast (R := Int) (List.length x.1)) != 7 then some (.ret (0, false, [], [], false, [], [], 0, 0, 0, 0, 0, 0, 2, ())) else (ix x.1 6).bind fun y => bif !y == [] then some (.ret (0, false, [], [], false, [], [], 0, 0, 0, 0, 0, 0, 2, ())) else (EF F n0 40 [.o (.c ⟨VT.sl 1 tS, x.1⟩)] [.c (tI), .agg tT, .c (tI)]).bind fun x => bif x.2.2.2.2.2.2.2.2.2.2.2.2.2.1 != 0 then some (.ret (0, false, [], [], false, [], [], 0, 0, 0, 0, 0, 0, x.2.2.2.2.2.2.2.2.2.2.2.2.2.1, ())) else some (.ret (x.1, x.2.1, x.2.2.1, x.2.2.2.1, x.2.2.2.2.1, x.2.2.2.2.2.1, x.2.2.2.2.2.2.1, x.2.2.2.2.2.2.2.1, x.2.2.2.2.2.2.2.2.1, x.2.2.2.2.2.2.2.2.2.1, x.2.2.2.2.2.2.2.2.2.2.1, x.2.2.2.2.2.2.2.2.2.2.2.1, x.2.2.2.2.2.2.2.2.2.2.2.2.1, 0, ()))) := by kernel_rfl
theorem law56_same_m {F : Nat} (n0 : Nat) (x0_0 : Bool) (x0_1 x0_2 : List Nat) (x0_3 : Bool) (x0_4 x0_5 : List Nat) (x0_6 x0_7 x0_8 x0_9 x0_10 x0_11 : Int) (x1_0 : Bool) (x1_1 x1_2 : List Nat) (x1_3 : Bool) (x1_4 x1_5 : List Nat) (x1_6 x1_7 x1_8 x1_9 x1_10 x1_11 : Int) : EF F (n0 + 1) 18 [.o (.agg (cL x0_0 x0_1 x0_2 x0_3 x0_4 x0_5 x0_6 x0_7 x0_8 x0_9 x0_10 x0_11)), .o (.agg (cL x1_0 x1_1 x1_2 x1_3 x1_4 x1_5 x1_6 x1_7 x1_8 x1_9 x1_10 x1_11))] [.c .bool] = unwrapA ((EF F n0 41 [.o (.agg [⟨tB, x0_0⟩, ⟨tN, x0_1⟩, ⟨tN, x0_2⟩]), .o (.agg [⟨tB, x1_0⟩, ⟨tN, x1_1⟩, ⟨tN, x1_2⟩])] [.c tB]).bind fun x => bif x.1 then (EF F n0 41 [.o (.agg [⟨tB, x0_3⟩, ⟨tN, x0_4⟩, ⟨tN, x0_5⟩]), .o (.agg [⟨tB, x1_3⟩, ⟨tN, x1_4⟩, ⟨tN, x1_5⟩])] [.c tB]).bind fun x => bif x.1 then bif x0_6 == x1_6 then bif x0_7 == x1_7 then bif x0_8 == x1_8 then bif x0_9 == x1_9 then bif x0_10 == x1_10 then some (.ret (x0_11 == x1_11, ())) else some (.ret (false, ())) else some (.ret (false, ())) else some (.ret (false, ())) else some (.ret (false, ())) else some (.ret (false, ())) else some (.ret (false, ())) else some (.ret (false, ()))) := by kernel_rfl
theorem ref56_split_m {F : Nat} (n0 : Nat) (x0 : List UInt8) (x1 : Int) : EF F (n0 + 1) 39 [.o (.c ⟨.str, x0⟩), .o (.c ⟨(.int .u8), x1⟩)] [.c (.sl 1 .str)] = unwrapA (loopA 0 [tI, tI, VT.sl 1 tS] (fun x => bif decide (x.1 ≤ (Nat.cast (R := Int) (List.length x0))) then bif x.1 == (Nat.cast (R := Int) (List.length x0)) then (sub x0 x.2.1 x.1).bind fun m => bif capB (List.length x.2.2.1 + [m].length) 16 then some (.cont 0 [tI, tI, VT.sl 1 tS] (IntKind.i64.wrap (x.1 + 1), IntKind.i64.wrap (x.1 + 1), x.2.2.1 ++ [m], ())) else none else (ix x0 x.1).bind fun b => bif (Nat.cast (R := Int) b.toNat) == x1 then (sub x0 x.2.1 x.1).bind fun m => bif capB (List.length x.2.2.1 + [m].length) 16 then some (.cont 0 [tI, tI, VT.sl 1 tS] (IntKind.i64.wrap (x.1 + 1), IntKind.i64.wrap (x.1 + 1), x.2.2.1 ++ [m], ())) else none else some (.cont 0 [tI, tI, VT.sl 1 tS] (IntKind.i64.wrap (x.1 + 1), x.2.1, x.2.2.1, ())) else some (.ret (x.2.2.1, ()))) F (0, 0, [], ())) := by kernel_rfl
theorem ref56_pars_m {F : Nat} (n0 : Nat) (x0 : VT.den (.sl 1 .str)) : EF F (n0 + 1) 40 [.o (.c ⟨(.sl 1 .str), x0⟩)] [.c (.int .i64), .agg tT, .c (.int .i64)] = unwrapA ((ix x0 0).bind fun y => (EF F n0 84 [vS y, .o (.c ⟨VT.sl 1 tS, [[99, 97, 110, 100, 105, 100, 97, 116, 101], []]⟩)] [.c (VT.sl 1 tS), .c (tI)]).bind fun x => bif x.2.1 != 0 then some (.ret (0, false, [], [], false, [], [], 0, 0, 0, 0, 0, 0, x.2.1, ())) else (ix x.1 1).bind fun y => (EF F n0 85 [vS y] [.c (tI), .c (tI)]).bind fun x => bif x.2.1 != 0 then some (.ret (0, false, [], [], false, [], [], 0, 0, 0, 0, 0, 0, x.2.1, ())) else (ix x0 1).bind fun y => (EF F n0 84 [vS y, .o (.c ⟨VT.sl 1 tS, [[115, 99, 111, 114, 101], []]⟩)] [.c (VT.sl 1 tS), .c (tI)]).bind fun x_1 => bif x_1.2.1 != 0 then some (.ret (0, false, [], [], false, [], [], 0, 0, 0, 0, 0, 0, x_1.2.1, ())) else (ix x_1.1 1).bind fun y => (EF F n0 86 [vS y] [.c (tI), .c (tI)]).bind fun x_2 => bif x_2.2.1 != 0 then some (.ret (0, false, [], [], false, [], [], 0, 0, x_2.1, 0, 0, 0, x_2.2.1, ())) else (ix x0 2).bind fun y => (EF F n0 84 [vS y, .o (.c ⟨VT.sl 1 tS, [[97, 98, 105, 108, 105, 116, 121], [], [118, 97, 114, 105, 97, 110, 99, 101], []]⟩)] [.c (VT.sl 1 tS), .c (tI)]).bind fun x_3 => bif x_3.2.1 != 0 then some (.ret (0, false, [], [], false, [], [], 0, 0, x_2.1, 0, 0, 0, x_3.2.1, ())) else (ix x_3.1 1).bind fun y => (EF F n0 87 [vS y] [.agg [tB, tN, tN], .c (tI)]).bind fun x_4 => bif x_4.2.2.2.1 != 0 then some (.ret (0, x_4.1, x_4.2.1, x_4.2.2.1, false, [], [], 0, 0, x_2.1, 0, 0, 0, x_4.2.2.2.1, ())) else (ix x_3.1 3).bind fun y => (EF F n0 87 [vS y] [.agg [tB, tN, tN], .c (tI)]).bind fun x_5 => bif x_5.2.2.2.1 != 0 then some (.ret (0, x_4.1, x_4.2.1, x_4.2.2.1, x_5.1, x_5.2.1, x_5.2.2.1, 0, 0, x_2.1, 0, 0, 0, x_5.2.2.2.1, ())) else (ix x0 3).bind fun y => (EF F n0 84 [vS y, .o (.c ⟨VT.sl 1 tS, [[105, 110, 116, 101, 114, 118, 97, 108], [], []]⟩)] [.c (VT.sl 1 tS), .c (tI)]).bind fun x_6 => bif x_6.2.1 != 0 then some (.ret (0, x_4.1, x_4.2.1, x_4.2.2.1, x_5.1, x_5.2.1, x_5.2.2.1, 0, 0, x_2.1, 0, 0, 0, x_6.2.1, ())) else (ix x_6.1 1).bind fun y => (EF F n0 86 [vS y] [.c (tI), .c (tI)]).bind fun x_7 => bif x_7.2.1 != 0 then some (.ret (0, x_4.1, x_4.2.1, x_4.2.2.1, x_5.1, x_5.2.1, x_5.2.2.1, x_7.1, 0, x_2.1, 0, 0, 0, x_7.2.1, ())) else (ix x_6.1 2).bind fun y => (EF F n0 86 [vS y] [.c (tI), .c (tI)]).bind fun x_8 => bif x_8.2.1 != 0 then some (.ret (0, x_4.1, x_4.2.1, x_4.2.2.1, x_5.1, x_5.2.1, x_5.2.2.1, x_7.1, x_8.1, x_2.1, 0, 0, 0, x_8.2.1, ())) else (ix x0 4).bind fun y => (EF F n0 84 [vS y, .o (.c ⟨VT.sl 1 tS, [[105, 116, 101, 109, 115], [], []]⟩)] [.c (VT.sl 1 tS), .c (tI)]).bind fun x_9 => bif x_9.2.1 != 0 then some (.ret (0, x_4.1, x_4.2.1, x_4.2.2.1, x_5.1, x_5.2.1, x_5.2.2.1, x_7.1, x_8.1, x_2.1, 0, 0, 0, x_9.2.1, ())) else (ix x_9.1 1).bind fun y => (EF F n0 86 [vS y] [.c (tI), .c (tI)]).bind fun x_10 => bif x_10.2.1 != 0 then some (.ret (0, x_4.1, x_4.2.1, x_4.2.2.1, x_5.1, x_5.2.1, x_5.2.2.1, x_7.1, x_8.1, x_2.1, 0, 0, x_10.1, x_10.2.1, ())) else (ix x_9.1 2).bind fun y => (EF F n0 88 [vS y] [.c (tI), .c (tI)]).bind fun x_11 => bif x_11.2.1 != 0 then some (.ret (0, x_4.1, x_4.2.1, x_4.2.2.1, x_5.1, x_5.2.1, x_5.2.2.1, x_7.1, x_8.1, x_2.1, 0, x_11.1, x_10.1, x_11.2.1, ())) else (ix x0 5).bind fun y => (EF F n0 84 [vS y, .o (.c ⟨VT.sl 1 tS, [[101, 115, 115, 97, 121], []]⟩)] [.c (VT.sl 1 tS), .c (tI)]).bind fun x_12 => bif x_12.2.1 != 0 then some (.ret (0, x_4.1, x_4.2.1, x_4.2.2.1, x_5.1, x_5.2.1, x_5.2.2.1, x_7.1, x_8.1, x_2.1, 0, x_11.1, x_10.1, x_12.2.1, ())) else (ix x_12.1 1).bind fun y => (EF F n0 86 [vS y] [.c (tI), .c (tI)]).bind fun x_13 => bif x_13.2.1 != 0 then some (.ret (0, x_4.1, x_4.2.1, x_4.2.2.1, x_5.1, x_5.2.1, x_5.2.2.1, x_7.1, x_8.1, x_2.1, x_13.1, x_11.1, x_10.1, x_13.2.1, ())) else (EF F n0 12 [.o (.agg (cL x_4.1 x_4.2.1 x_4.2.2.1 x_5.1 x_5.2.1 x_5.2.2.1 x_7.1 x_8.1 x_2.1 x_13.1 x_11.1 x_10.1))] [.c (tI)]).bind fun x_14 => some (.ret (x.1, x_4.1, x_4.2.1, x_4.2.2.1, x_5.1, x_5.2.1, x_5.2.2.1, x_7.1, x_8.1, x_2.1, x_13.1, x_11.1, x_10.1, x_14.1, ()))) := by kernel_rfl
theorem law56_equal_m {F : Nat} (n0 : Nat) (x0_0 : Bool) (x0_1 x0_2 : List Nat) (x1_0 : Bool) (x1_1 x1_2 : List Nat) : EF F (n0 + 1) 41 [.o (.agg [⟨.bool, x0_0⟩, ⟨.nat, x0_1⟩, ⟨.nat, x0_2⟩]), .o (.agg [⟨.bool, x1_0⟩, ⟨.nat, x1_1⟩, ⟨.nat, x1_2⟩])] [.c .bool] = unwrapA (bif x0_0 == x1_0 then (EF F n0 89 [vN x0_1, vN x1_1] [.c tB]).bind fun x => bif x.1 then (EF F n0 89 [vN x0_2, vN x1_2] [.c tB]).bind fun x => some (.ret (x.1, ())) else some (.ret (false, ())) else some (.ret (false, ()))) := by kernel_rfl
theorem ref56_words_m {F : Nat} (n0 : Nat) (x0 : List UInt8) (x1 : VT.den (.sl 1 .str)) : EF F (n0 + 1) 84 [.o (.c ⟨.str, x0⟩), .o (.c ⟨(.sl 1 .str), x1⟩)] [.c (.sl 1 .str), .c (.int .i64)] = unwrapA ((EF F n0 39 [vS x0, .o (.c ⟨VT.int IntKind.u8, 32⟩)] [.c (VT.sl 1 tS)]).bind fun x => bif (Nat.cast (R := Int) (List.length x.1)) != (Nat.cast (R := Int) (List.length x1)) then some (.ret ([], 2, ())) else loopA 0 [VT.sl 1 tS, tI, tI] (fun x_1 => bif decide (x_1.2.1 < (Nat.cast (R := Int) (List.length x1))) then (ix x1 x_1.2.1).bind fun y => bif !y == [] then (ix x.1 x_1.2.1).bind fun y_1 => bif !y_1 == y then some (.ret ([], 2, ())) else some (.cont 0 [VT.sl 1 tS, tI, tI] (x_1.1, IntKind.i64.wrap (x_1.2.1 + 1), x_1.2.2.1, ())) else some (.cont 0 [VT.sl 1 tS, tI, tI] (x_1.1, IntKind.i64.wrap (x_1.2.1 + 1), x_1.2.2.1, ())) else some (.ret (x.1, 0, ()))) F ([], 0, 0, ())) := by kernel_rfl
theorem ref56_candidate_m {F : Nat} (n0 : Nat) (x0 : List UInt8) : EF F (n0 + 1) 85 [.o (.c ⟨.str, x0⟩)] [.c (.int .i64), .c (.int .i64)] = unwrapA ((EF F n0 146 [vS x0] [.c (tI), .c (tI), .c (tI)]).bind fun x => bif x.2.2.1 != 0 then some (.ret (0, x.2.2.1, ())) else bif x.1 != 3 then some (.ret (0, 2, ())) else some (.ret (x.2.1, 0, ()))) := by kernel_rfl
theorem ref56_integer_m {F : Nat} (n0 : Nat) (x0 : List UInt8) : EF F (n0 + 1) 86 [.o (.c ⟨.str, x0⟩)] [.c (.int .i64), .c (.int .i64)] = unwrapA ((EF F n0 147 [vS x0] [.agg [tB, tN], .c (tI)]).bind fun x => bif x.2.2.1 != 0 then some (.ret (0, x.2.2.1, ())) else (EF F n0 148 [.o (.agg [⟨tB, x.1⟩, ⟨tN, x.2.1⟩])] [.c (tI), .c tB]).bind fun x => bif !x.2.1 then some (.ret (0, 3, ())) else bif decide (x.1 < -9999999) then some (.ret (0, 3, ())) else bif decide (9999999 < x.1) then some (.ret (0, 3, ())) else some (.ret (x.1, 0, ()))) := by kernel_rfl
theorem ref56_ratio_m {F : Nat} (n0 : Nat) (x0 : List UInt8) : EF F (n0 + 1) 87 [.o (.c ⟨.str, x0⟩)] [.agg [.bool, .nat, .nat], .c (.int .i64)] = unwrapA ((EF F n0 149 [vS x0] [.agg [tB, tN, tN], .c (tI)]).bind fun x => bif x.2.2.2.1 != 0 then some (.ret (false, [], [], x.2.2.2.1, ())) else (EF F n0 31 [.o (.agg [⟨tB, x.1⟩, ⟨tN, x.2.1⟩, ⟨tN, x.2.2.1⟩])] [.c tS]).bind fun x_1 => bif !x_1.1 == x0 then some (.ret (false, [], [], 2, ())) else some (.ret (x.1, x.2.1, x.2.2.1, 0, ()))) := by kernel_rfl
theorem ref56_reason_m {F : Nat} (n0 : Nat) (x0 : List UInt8) : EF F (n0 + 1) 88 [.o (.c ⟨.str, x0⟩)] [.c (.int .i64), .c (.int .i64)] = unwrapA (loopA 0 [tI, tI, tI] (fun x => bif decide (x.1 ≤ 4) then (EF F n0 14 [vI x.1] [.c tS]).bind fun x_1 => bif x_1.1 == x0 then some (.ret (x.1, 0, ())) else some (.cont 0 [tI, tI, tI] (IntKind.i64.wrap (x.1 + 1), x.2.1, x.2.2.1, ())) else some (.ret (0, 2, ()))) F (0, 0, 0, ())) := by kernel_rfl
theorem law56_limbs_m {F : Nat} (n0 : Nat) (x0 x1 : List Nat) : EF F (n0 + 1) 89 [.o (.c ⟨.nat, x0⟩), .o (.c ⟨.nat, x1⟩)] [.c .bool] = unwrapA (bif (Nat.cast (R := Int) (List.length x0)) != (Nat.cast (R := Int) (List.length x1)) then some (.ret (false, ())) else loopA 0 [tI, tB] (fun x => bif decide (x.1 < (Nat.cast (R := Int) (List.length x0))) then (ix x0 x.1).bind fun y => (ix x1 x.1).bind fun y_1 => bif (Nat.cast (R := Int) y) != (Nat.cast (R := Int) y_1) then some (.ret (false, ())) else some (.cont 0 [tI, tB] (IntKind.i64.wrap (x.1 + 1), x.2.1, ())) else some (.ret (true, ()))) F (0, false, ())) := by kernel_rfl
theorem ref09_Parse_m {F : Nat} (n0 : Nat) (x0 : List UInt8) : EF F (n0 + 1) 146 [.o (.c ⟨.str, x0⟩)] [.c (.int .i64), .c (.int .i64), .c (.int .i64)] = unwrapA (bif (Nat.cast (R := Int) (List.length x0)) != 14 then some (.ret (0, 0, 2, ())) else (ix x0 3).bind fun b => bif (Nat.cast (R := Int) b.toNat) != 45 then some (.ret (0, 0, 2, ())) else (ix x0 11).bind fun b => bif (Nat.cast (R := Int) b.toNat) != 45 then some (.ret (0, 0, 2, ())) else loopA 0 [tI, tI] (fun x => bif decide (x.1 ≤ 6) then (EF F n0 65 [vI x.1] [.c tS]).bind fun x_1 => (sub x0 0 3).bind fun m => bif x_1.1 == m then some (.cont 0 [tI, tI] (IntKind.i64.wrap (x.1 + 1), x.1, ())) else some (.cont 0 [tI, tI] (IntKind.i64.wrap (x.1 + 1), x.2.1, ())) else (sub x0 4 11).bind fun m => (EF F n0 195 [vS m] [.c (tI)]).bind fun x_1 => (sub x0 12 (Nat.cast (R := Int) (List.length x0))).bind fun m => (EF F n0 195 [vS m] [.c (tI)]).bind fun x_2 => bif x.2.1 == 0 then some (.ret (0, 0, 2, ())) else bif decide (x_1.1 < 0) then some (.ret (0, 0, 2, ())) else bif decide (x_2.1 < 0) then some (.ret (0, 0, 2, ())) else bif x_1.1 == 0 then some (.ret (0, 0, 3, ())) else (EF F n0 64 [vI x.2.1, vI x_1.1] [.c (tI), .c (tI)]).bind fun x_3 => bif x_2.1 != x_3.1 then some (.ret (0, 0, 12, ())) else some (.ret (x.2.1, x_1.1, 0, ()))) F (1, 0, ())) := by kernel_rfl
theorem ref02_Parse_m {F : Nat} (n0 : Nat) (x0 : List UInt8) : EF F (n0 + 1) 147 [.o (.c ⟨.str, x0⟩)] [.agg [.bool, .nat], .c (.int .i64)] = unwrapA (bif decide (0 < (Nat.cast (R := Int) (List.length x0))) then (ix x0 0).bind fun b => bif (Nat.cast (R := Int) b.toNat) == 45 then (sub x0 1 (Nat.cast (R := Int) (List.length x0))).bind fun m => (EF F n0 196 [vS m] [.c tN, .c (tI)]).bind fun x => bif x.2.1 != 0 then some (.ret (false, [], x.2.1, ())) else bif (Nat.cast (R := Int) b.toNat) == 45 then bif (Nat.cast (R := Int) (List.length x.1)) == 0 then some (.ret (false, [], 2, ())) else (EF F n0 135 [vB ((Nat.cast (R := Int) b.toNat) == 45), vN x.1] [.agg [tB, tN]]).bind fun x => some (.ret (x.1, x.2.1, 0, ())) else (EF F n0 135 [vB ((Nat.cast (R := Int) b.toNat) == 45), vN x.1] [.agg [tB, tN]]).bind fun x => some (.ret (x.1, x.2.1, 0, ())) else (EF F n0 196 [vS x0] [.c tN, .c (tI)]).bind fun x => bif x.2.1 != 0 then some (.ret (false, [], x.2.1, ())) else bif (Nat.cast (R := Int) b.toNat) == 45 then bif (Nat.cast (R := Int) (List.length x.1)) == 0 then some (.ret (false, [], 2, ())) else (EF F n0 135 [vB ((Nat.cast (R := Int) b.toNat) == 45), vN x.1] [.agg [tB, tN]]).bind fun x => some (.ret (x.1, x.2.1, 0, ())) else (EF F n0 135 [vB ((Nat.cast (R := Int) b.toNat) == 45), vN x.1] [.agg [tB, tN]]).bind fun x => some (.ret (x.1, x.2.1, 0, ())) else (EF F n0 196 [vS x0] [.c tN, .c (tI)]).bind fun x => bif x.2.1 != 0 then some (.ret (false, [], x.2.1, ())) else (EF F n0 135 [vB false, vN x.1] [.agg [tB, tN]]).bind fun x => some (.ret (x.1, x.2.1, 0, ()))) := by kernel_rfl
theorem ref02_Int64_m {F : Nat} (n0 : Nat) (x0_0 : Bool) (x0_1 : List Nat) : EF F (n0 + 1) 148 [.o (.agg [⟨.bool, x0_0⟩, ⟨.nat, x0_1⟩])] [.c (.int .i64), .c .bool] = unwrapA ((EF F n0 115 [.o (.agg [⟨tB, x0_0⟩, ⟨tN, x0_1⟩])] [.agg [tB, tN]]).bind fun x => (EF F n0 197 [vN x.2.1] [.c (VT.int IntKind.u64), .c tB]).bind fun x_1 => bif !x_1.2.1 then some (.ret (0, false, ())) else bif x.1 then bif decide (9223372036854775808 < x_1.1) then some (.ret (0, false, ())) else some (.ret (IntKind.i64.wrap (IntKind.i64.wrap (0 - IntKind.i64.wrap (IntKind.u64.wrap (x_1.1 - 1))) - 1), true, ())) else bif decide (9223372036854775808 ≤ x_1.1) then some (.ret (0, false, ())) else some (.ret (IntKind.i64.wrap x_1.1, true, ()))) := by kernel_rfl
theorem ref03_Parse_m {F : Nat} (n0 : Nat) (x0 : List UInt8) : EF F (n0 + 1) 149 [.o (.c ⟨.str, x0⟩)] [.agg [.bool, .nat, .nat], .c (.int .i64)] = unwrapA (loopA 0 [tI, tI] (fun x => bif decide (x.1 < (Nat.cast (R := Int) (List.length x0))) then bif decide (x.2.1 < 0) then (ix x0 x.1).bind fun b => bif (Nat.cast (R := Int) b.toNat) == 47 then some (.cont 0 [tI, tI] (IntKind.i64.wrap (x.1 + 1), x.1, ())) else some (.cont 0 [tI, tI] (IntKind.i64.wrap (x.1 + 1), x.2.1, ())) else bif decide (x.2.1 < 0) then (EF F n0 147 [vS x0] [.agg [tB, tN], .c (tI)]).bind fun x => bif x.2.2.1 != 0 then (EF F n0 183 [] [.agg [tB, tN, tN]]).bind fun x_1 => some (.ret (x_1.1, x_1.2.1, x_1.2.2.1, x.2.2.1, ())) else (EF F n0 72 [.o (.c ⟨VT.int IntKind.u64, 1⟩)] [.c tN]).bind fun x_1 => (EF F n0 131 [.o (.agg [⟨tB, x.1⟩, ⟨tN, x.2.1⟩]), vN x_1.1] [.agg [tB, tN, tN]]).bind fun x => some (.ret (x.1, x.2.1, x.2.2.1, 0, ())) else (sub x0 0 x.2.1).bind fun m => (EF F n0 147 [vS m] [.agg [tB, tN], .c (tI)]).bind fun x_1 => bif x_1.2.2.1 != 0 then (EF F n0 183 [] [.agg [tB, tN, tN]]).bind fun x => some (.ret (x.1, x.2.1, x.2.2.1, x_1.2.2.1, ())) else (sub x0 (IntKind.i64.wrap (x.2.1 + 1)) (Nat.cast (R := Int) (List.length x0))).bind fun m => (EF F n0 196 [vS m] [.c tN, .c (tI)]).bind fun x => bif x.2.1 != 0 then (EF F n0 183 [] [.agg [tB, tN, tN]]).bind fun x_2 => some (.ret (x_2.1, x_2.2.1, x_2.2.2.1, x.2.1, ())) else (EF F n0 137 [vN x.1] [.c (tI)]).bind fun x_2 => bif x_2.1 == 0 then (EF F n0 183 [] [.agg [tB, tN, tN]]).bind fun x => some (.ret (x.1, x.2.1, x.2.2.1, 2, ())) else (EF F n0 131 [.o (.agg [⟨tB, x_1.1⟩, ⟨tN, x_1.2.1⟩]), vN x.1] [.agg [tB, tN, tN]]).bind fun x => some (.ret (x.1, x.2.1, x.2.2.1, 0, ())) else bif decide (x.2.1 < 0) then (EF F n0 147 [vS x0] [.agg [tB, tN], .c (tI)]).bind fun x => bif x.2.2.1 != 0 then (EF F n0 183 [] [.agg [tB, tN, tN]]).bind fun x_1 => some (.ret (x_1.1, x_1.2.1, x_1.2.2.1, x.2.2.1, ())) else (EF F n0 72 [.o (.c ⟨VT.int IntKind.u64, 1⟩)] [.c tN]).bind fun x_1 => (EF F n0 131 [.o (.agg [⟨tB, x.1⟩, ⟨tN, x.2.1⟩]), vN x_1.1] [.agg [tB, tN, tN]]).bind fun x => some (.ret (x.1, x.2.1, x.2.2.1, 0, ())) else (sub x0 0 x.2.1).bind fun m => (EF F n0 147 [vS m] [.agg [tB, tN], .c (tI)]).bind fun x_1 => bif x_1.2.2.1 != 0 then (EF F n0 183 [] [.agg [tB, tN, tN]]).bind fun x => some (.ret (x.1, x.2.1, x.2.2.1, x_1.2.2.1, ())) else (sub x0 (IntKind.i64.wrap (x.2.1 + 1)) (Nat.cast (R := Int) (List.length x0))).bind fun m => (EF F n0 196 [vS m] [.c tN, .c (tI)]).bind fun x => bif x.2.1 != 0 then (EF F n0 183 [] [.agg [tB, tN, tN]]).bind fun x_2 => some (.ret (x_2.1, x_2.2.1, x_2.2.2.1, x.2.1, ())) else (EF F n0 137 [vN x.1] [.c (tI)]).bind fun x_2 => bif x_2.1 == 0 then (EF F n0 183 [] [.agg [tB, tN, tN]]).bind fun x => some (.ret (x.1, x.2.1, x.2.2.1, 2, ())) else (EF F n0 131 [.o (.agg [⟨tB, x_1.1⟩, ⟨tN, x_1.2.1⟩]), vN x.1] [.agg [tB, tN, tN]]).bind fun x => some (.ret (x.1, x.2.1, x.2.2.1, 0, ()))) F (0, -1, ())) := by kernel_rfl
theorem ref09_number_m {F : Nat} (n0 : Nat) (x0 : List UInt8) : EF F (n0 + 1) 195 [.o (.c ⟨.str, x0⟩)] [.c (.int .i64)] = unwrapA (loopA 0 [tI, tI, tI] (fun x => bif decide (x.1 < (Nat.cast (R := Int) (List.length x0))) then (ix x0 x.1).bind fun b => bif decide ((Nat.cast (R := Int) b.toNat) < 48) then some (.ret (-1, ())) else (ix x0 x.1).bind fun b => bif decide (57 < (Nat.cast (R := Int) b.toNat)) then some (.ret (-1, ())) else (ix x0 x.1).bind fun b => some (.cont 0 [tI, tI, tI] (IntKind.i64.wrap (x.1 + 1), IntKind.i64.wrap (IntKind.i64.wrap (10 * x.2.1) + IntKind.i64.wrap (IntKind.u8.wrap ((Nat.cast (R := Int) b.toNat) - 48))), x.2.2.1, ())) else some (.ret (x.2.1, ()))) F (0, 0, 0, ())) := by kernel_rfl
theorem ref01_Parse_m {F : Nat} (n0 : Nat) (x0 : List UInt8) : EF F (n0 + 1) 196 [.o (.c ⟨.str, x0⟩)] [.c .nat, .c (.int .i64)] = unwrapA (bif (Nat.cast (R := Int) (List.length x0)) == 0 then some (.ret ([], 2, ())) else bif decide (1 < (Nat.cast (R := Int) (List.length x0))) then (ix x0 0).bind fun b => bif (Nat.cast (R := Int) b.toNat) == 48 then some (.ret ([], 2, ())) else loopA 0 [tN, tI, tI] (fun x => bif decide (x.2.1 < (Nat.cast (R := Int) (List.length x0))) then (ix x0 x.2.1).bind fun b => bif decide ((Nat.cast (R := Int) b.toNat) < 48) then some (.ret ([], 2, ())) else (ix x0 x.2.1).bind fun b => bif decide (57 < (Nat.cast (R := Int) b.toNat)) then some (.ret ([], 2, ())) else some (.cont 0 [tN, tI, tI] (x.1, IntKind.i64.wrap (x.2.1 + 1), x.2.2.1, ())) else bif decide (400 < (Nat.cast (R := Int) (List.length x0))) then some (.ret ([], 5, ())) else loopA 0 [tI, tN] (fun x => bif decide (x.1 < (Nat.cast (R := Int) (List.length x0))) then (EF F n0 108 [vN x.2.1, vN ([Int.toNat 10])] [.c tN]).bind fun x_1 => (ix x0 x.1).bind fun b => (bif u32B (IntKind.u32.wrap (IntKind.u8.wrap ((Nat.cast (R := Int) b.toNat) - 48))) then some [(IntKind.u32.wrap (IntKind.u8.wrap ((Nat.cast (R := Int) b.toNat) - 48))).toNat] else none).bind fun ns => (EF F n0 171 [vN x_1.1, vN ns] [.c tN]).bind fun x_2 => some (.cont 0 [tI, tN] (IntKind.i64.wrap (x.1 + 1), x_2.1, ())) else some (.ret (x.2.1, 0, ()))) F (0, [], ())) F ([], 0, 0, ()) else loopA 0 [tN, tI, tI] (fun x => bif decide (x.2.1 < (Nat.cast (R := Int) (List.length x0))) then (ix x0 x.2.1).bind fun b => bif decide ((Nat.cast (R := Int) b.toNat) < 48) then some (.ret ([], 2, ())) else (ix x0 x.2.1).bind fun b => bif decide (57 < (Nat.cast (R := Int) b.toNat)) then some (.ret ([], 2, ())) else some (.cont 0 [tN, tI, tI] (x.1, IntKind.i64.wrap (x.2.1 + 1), x.2.2.1, ())) else bif decide (400 < (Nat.cast (R := Int) (List.length x0))) then some (.ret ([], 5, ())) else loopA 0 [tI, tN] (fun x => bif decide (x.1 < (Nat.cast (R := Int) (List.length x0))) then (EF F n0 108 [vN x.2.1, vN ([Int.toNat 10])] [.c tN]).bind fun x_1 => (ix x0 x.1).bind fun b => (bif u32B (IntKind.u32.wrap (IntKind.u8.wrap ((Nat.cast (R := Int) b.toNat) - 48))) then some [(IntKind.u32.wrap (IntKind.u8.wrap ((Nat.cast (R := Int) b.toNat) - 48))).toNat] else none).bind fun ns => (EF F n0 171 [vN x_1.1, vN ns] [.c tN]).bind fun x_2 => some (.cont 0 [tI, tN] (IntKind.i64.wrap (x.1 + 1), x_2.1, ())) else some (.ret (x.2.1, 0, ()))) F (0, [], ())) F ([], 0, 0, ())) := by kernel_rfl
theorem ref01_Uint_m {F : Nat} (n0 : Nat) (x0 : List Nat) : EF F (n0 + 1) 197 [.o (.c ⟨.nat, x0⟩)] [.c (.int .u64), .c .bool] = unwrapA ((EF F n0 133 [vN x0] [.c tN]).bind fun x => bif decide (2 < (Nat.cast (R := Int) (List.length x.1))) then some (.ret (0, false, ())) else (EF F n0 136 [vN x.1, vI 1] [.c (VT.int IntKind.u64)]).bind fun x_1 => (EF F n0 136 [vN x.1, vI 0] [.c (VT.int IntKind.u64)]).bind fun x => some (.ret (IntKind.u64.wrap (IntKind.u64.wrap (x_1.1 * 2 ^ min (Int.toNat 32) IntKind.u64.bits) + x.1), true, ()))) := by kernel_rfl
theorem ref01_limb_m {F : Nat} (n0 : Nat) (x0 : List Nat) (x1 : Int) : EF F (n0 + 1) 136 [.o (.c ⟨.nat, x0⟩), .o (.c ⟨(.int .i64), x1⟩)] [.c (.int .u64)] = unwrapA (bif decide (x1 < (Nat.cast (R := Int) (List.length x0))) then (ix x0 x1).bind fun y => some (.ret (IntKind.u64.wrap (Nat.cast (R := Int) y), ())) else some (.ret (0, ()))) := by kernel_rfl
theorem ref03_zero_m {F : Nat} (n0 : Nat)  : EF F (n0 + 1) 183 [] [.agg [.bool, .nat, .nat]] = unwrapA ((EF F n0 72 [.o (.c ⟨VT.int IntKind.u64, 1⟩)] [.c tN]).bind fun x => some (.ret (false, [], x.1, ()))) := by kernel_rfl
end Go.Proofs.YtcggnmddcbhchaaGreatDoor
