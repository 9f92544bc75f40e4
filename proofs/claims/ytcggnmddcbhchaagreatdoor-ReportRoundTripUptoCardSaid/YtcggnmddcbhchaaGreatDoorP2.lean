import Derived.Test.YtcggnmddcbhchaaGreatDoorP1
import Derived.Test.YtcggnmddcbhchaaGreatDoorRows
import Derived.ProofKit
import Derived.OpenShut
import Derived.ChangeArms
import Derived.ChangeSlices
import Derived.Deep.DeepHandedRow
import Derived.Deep.Slices
import Derived.Below
import Derived.Carry
import Derived.ChangeSame
import Derived.Lay
import Derived.MakeChecks
import Derived.Shelf.Vars
import Derived.Lib.LaidTab
import Derived.ChangeBears2
/- Texts merged: Zb Zt Yd WSh WSi Ye Zc Yr. -/
set_option linter.unusedSimpArgs false
set_option linter.unusedVariables false
namespace Go.Proofs.YtcggnmddcbhchaaGreatDoor
open Go.RowKit Lim
section
variable {c : UInt8} {s : List UInt8}
theorem sp2 {a b : List UInt8} (h : splN c s 2 = [a, b]) : s = a ++ c :: b := by
  obtain ⟨r, h1, h2⟩ := splN_more (k := 1) h
  rw [h1, splN_last h2]
theorem sp3 {a b d : List UInt8} (h : splN c s 3 = [a, b, d]) : s = a ++ c :: (b ++ c :: d) := by
  obtain ⟨r, h1, h2⟩ := splN_more (k := 2) h
  rw [h1, sp2 h2]
theorem sp4 {a b d e : List UInt8} (h : splN c s 4 = [a, b, d, e]) : s = a ++ c :: (b ++ c :: (d ++ c :: e)) := by
  obtain ⟨r, h1, h2⟩ := splN_more (k := 3) h
  rw [h1, sp3 h2]
theorem sp7 {a0 a1 a2 a3 a4 a5 a6 : List UInt8} (h : splN c s 7 = [a0, a1, a2, a3, a4, a5, a6]) : s = a0 ++ c :: (a1 ++ c :: (a2 ++ c :: (a3 ++ c :: (a4 ++ c :: (a5 ++ c :: a6))))) := by
  obtain ⟨r1, h1, q1⟩ := splN_more (k := 6) h
  obtain ⟨r2, h2, q2⟩ := splN_more (k := 5) q1
  obtain ⟨r3, h3, q3⟩ := splN_more (k := 4) q2
  obtain ⟨r4, h4, q4⟩ := splN_more (k := 3) q3
  rw [h1, h2, h3, h4, sp3 q4]
end
theorem num_back {b : List UInt8} (h : numE b = 0) : itoaK (intV b) = b := by
  unfold numE at h
  cases h1 : intE b == 0 with
  | false => rw [h1, cond_false] at h; rw [h] at h1; cases h1
  | true => exact intE_back (eq_of_beq h1)
theorem ratD_lt {s : List UInt8} (h : ratE s = 0) : ratD s < 10 ^ e400 := by
  have := ten_le
  unfold ratE at h
  cases h1 : intE (Lib.cut s [47]).1 == 0 with
  | false => rw [h1, cond_false] at h; rw [h] at h1; cases h1
  | true =>
    rw [h1, cond_true] at h
    unfold ratD
    cases h2 : (Lib.cut s [47]).2.2 with
    | false => rw [cond_false]; omega
    | true =>
      rw [h2, cond_true] at h
      rw [cond_true]
      cases h3 : natE (Lib.cut s [47]).2.1 == 0 with
      | false => rw [h3, cond_false] at h; rw [h] at h3; cases h3
      | true => exact natE_lt (eq_of_beq h3)
theorem rat_fit {s : List UInt8} (h : ratE s = 0) : (ratQ s).long = false := by
  obtain ⟨h1, h2, _⟩ := ratE_ok h
  have h3 := ratD_lt h
  have v1 := intV_lt h1
  obtain ⟨e1, e2⟩ := nQ_nm (intV (Lib.cut s [47]).1) h2
  have b : ∀ k, k < 10 ^ e400 → ¬ 400 < (decK k).length := fun k hk => by
    rw [decK_eq]
    have := dd_len (n := k) (k := e400) (by unfold e400; omega) hk
    unfold e400 at this
    omega
  unfold Q3.long
  rw [show (ratQ s).n = rn (intV (Lib.cut s [47]).1) (ratD s) from e1, show (ratQ s).m = rd (intV (Lib.cut s [47]).1) (ratD s) from e2]
  rw [decide_eq_false (b _ (by
    rw [rn_abs]
    have := Nat.div_le_self (intV (Lib.cut s [47]).1).natAbs (Nat.gcd (intV (Lib.cut s [47]).1).natAbs (ratD s))
    omega)), decide_eq_false (b _ (by
    unfold rd
    have := Nat.div_le_self (ratD s) (Nat.gcd (intV (Lib.cut s [47]).1).natAbs (ratD s))
    omega))]
  rfl
theorem err20 {p q : PS} {P : Prop} (h : ((2 : Int), p) = (0, q)) : P := by
  have := (Prod.mk.inj h).1
  omega
theorem line0_inv {s : List UInt8} {p q : PS} (h : line0 s p = (0, q)) : 1 ≤ q.c ∧ q.c ≤ 9999999 ∧ s = ln0 q.c ∧ q.r = p.r := by
  unfold line0 at h
  split at h
  · rename_i a b hw
    have hs := sp2 hw
    cases ha : a == [99, 97, 110, 100, 105, 100, 97, 116, 101]
    · rw [ha, cond_false] at h; exact err20 h
    · rw [ha, cond_true] at h
      obtain ⟨h1, rfl⟩ := Prod.mk.inj h
      have ha := eq_of_beq ha
      subst ha
      have h1' := h1
      unfold candE at h1
      cases e1 : (identE b).2.2.1 != 0
      · rw [e1, cond_false] at h1
        cases e2 : (identE b).1 != 3
        · have e1 : (identE b).2.2.1 = 0 := by simpa using e1
          have e2 : (identE b).1 = 3 := by simpa using e2
          obtain ⟨i1, i2, i3⟩ := identE_back e1 e2
          rw [h1']
          refine ⟨i1, i2, ?_, rfl⟩
          rw [hs]
          show _ ++ 32 :: b = ln0 (identE b).2.1
          unfold ln0
          rw [← i3]
        · rw [e2] at h1; cases h1
      · rw [e1, cond_true] at h1
        rw [h1] at e1
        cases e1
  · exact err20 h
theorem line1_inv {s : List UInt8} {p q : PS} (h : line1 s p = (0, q)) : ∃ z, s = [115, 99, 111, 114, 101] ++ 32 :: itoaK z ∧ q = ⟨p.c, { p.r with sc := z }⟩ := by
  unfold line1 at h
  split at h
  · rename_i a b hw
    have hs := sp2 hw
    cases ha : a == [115, 99, 111, 114, 101]
    · rw [ha, cond_false] at h; exact err20 h
    · rw [ha, cond_true] at h
      obtain ⟨h1, rfl⟩ := Prod.mk.inj h
      have ha := eq_of_beq ha
      subst ha
      exact ⟨intV b, by rw [num_back h1, hs], by rw [h1]; rfl⟩
  · exact err20 h
theorem line5_inv {s : List UInt8} {p q : PS} (h : line5 s p = (0, q)) : ∃ z, s = [101, 115, 115, 97, 121] ++ 32 :: itoaK z ∧ q = ⟨p.c, { p.r with es := z }⟩ := by
  unfold line5 at h
  split at h
  · rename_i a b hw
    have hs := sp2 hw
    cases ha : a == [101, 115, 115, 97, 121]
    · rw [ha, cond_false] at h; exact err20 h
    · rw [ha, cond_true] at h
      obtain ⟨h1, rfl⟩ := Prod.mk.inj h
      have ha := eq_of_beq ha
      subst ha
      exact ⟨intV b, by rw [num_back h1, hs], by rw [h1]; rfl⟩
  · exact err20 h
theorem line2_inv {s : List UInt8} {p q : PS} (h : line2 s p = (0, q)) : ∃ m v : Q3, m.long = false ∧ v.long = false ∧ s = [97, 98, 105, 108, 105, 116, 121] ++ 32 :: (m.tx ++ 32 :: ([118, 97, 114, 105, 97, 110, 99, 101] ++ 32 :: v.tx)) ∧ q = ⟨p.c, { p.r with m := m, v := v }⟩ := by
  unfold line2 at h
  split at h
  · rename_i a b c d hw
    have hs := sp4 hw
    cases ha : (a == [97, 98, 105, 108, 105, 116, 121] && c == [118, 97, 114, 105, 97, 110, 99, 101])
    · rw [ha, cond_false] at h; exact err20 h
    · rw [ha, cond_true] at h
      rw [Bool.and_eq_true] at ha
      obtain ⟨ha, hc⟩ := ha
      have ha := eq_of_beq ha
      have hc := eq_of_beq hc
      subst ha hc
      cases hb : ratPE b == 0
      · rw [hb, cond_false] at h
        have := (Prod.mk.inj h).1
        rw [this] at hb; cases hb
      · rw [hb, cond_true] at h
        obtain ⟨h1, rfl⟩ := Prod.mk.inj h
        obtain ⟨b1, b2⟩ := ratPE_ok hb
        have hd : (ratPE d == 0) = true := by rw [h1]; rfl
        obtain ⟨d1, d2⟩ := ratPE_ok hd
        exact ⟨ratQ b, ratQ d, rat_fit b1, rat_fit d1, by rw [b2, d2, hs], by rw [h1]; rfl⟩
  · exact err20 h
theorem line3_inv {s : List UInt8} {p q : PS} (h : line3 s p = (0, q)) : ∃ x y, s = [105, 110, 116, 101, 114, 118, 97, 108] ++ 32 :: (itoaK x ++ 32 :: itoaK y) ∧ q = ⟨p.c, { p.r with lo := x, hi := y }⟩ := by
  unfold line3 at h
  split at h
  · rename_i a b c hw
    have hs := sp3 hw
    cases ha : a == [105, 110, 116, 101, 114, 118, 97, 108]
    · rw [ha, cond_false] at h; exact err20 h
    · rw [ha, cond_true] at h
      have ha := eq_of_beq ha
      subst ha
      cases hb : numE b == 0
      · rw [hb, cond_false] at h
        have := (Prod.mk.inj h).1
        rw [this] at hb; cases hb
      · rw [hb, cond_true] at h
        obtain ⟨h1, rfl⟩ := Prod.mk.inj h
        exact ⟨intV b, intV c, by rw [num_back (eq_of_beq hb), num_back h1, hs], by rw [h1]; rfl⟩
  · exact err20 h
theorem line4_inv {s : List UInt8} {p q : PS} (h : line4 s p = (0, q)) : ∃ x y, s = [105, 116, 101, 109, 115] ++ 32 :: (itoaK x ++ 32 :: reason y) ∧ q = ⟨p.c, { p.r with sp := x, st := y }⟩ := by
  unfold line4 at h
  split at h
  · rename_i a b c hw
    have hs := sp3 hw
    cases ha : a == [105, 116, 101, 109, 115]
    · rw [ha, cond_false] at h; exact err20 h
    · rw [ha, cond_true] at h
      have ha := eq_of_beq ha
      subst ha
      cases hb : numE b == 0
      · rw [hb, cond_false] at h
        have := (Prod.mk.inj h).1
        rw [this] at hb; cases hb
      · rw [hb, cond_true] at h
        obtain ⟨h1, rfl⟩ := Prod.mk.inj h
        have h2 : firstR c < 5 := by
          unfold reasE at h1
          cases h5 : decide (firstR c < 5)
          · rw [h5] at h1; cases h1
          · exact of_decide_eq_true h5
        exact ⟨intV b, (firstR c : Int), by rw [num_back (eq_of_beq hb), ← firstR_yes c h2, hs], by rw [h1]; rfl⟩
  · exact err20 h
theorem goP_inv {L : List (List UInt8)} {k : Nat} {p q : PS} (h : goP L (k + 1) p = (0, q)) : ∃ p', lineP (5 - k) (L.getD (5 - k) []) p = (0, p') ∧ goP L k p' = (0, q) := by
  unfold goP at h
  cases hz : (lineP (5 - k) (L.getD (5 - k) []) p).1 == 0
  · rw [hz, cond_false] at h
    rw [h] at hz
    cases hz
  · rw [hz, cond_true] at h
    have hz := eq_of_beq hz
    exact ⟨(lineP (5 - k) (L.getD (5 - k) []) p).2, by rw [← hz], h⟩
theorem w7 {w : List (List UInt8)} (h : w.length = 7) : ∃ a0 a1 a2 a3 a4 a5 a6, w = [a0, a1, a2, a3, a4, a5, a6] := by
  rcases w with _ | ⟨s0, _ | ⟨s1, _ | ⟨s2, _ | ⟨s3, _ | ⟨s4, _ | ⟨s5, _ | ⟨s6, _ | ⟨s7, s⟩⟩⟩⟩⟩⟩⟩⟩
  all_goals first
    | exact ⟨_, _, _, _, _, _, _, rfl⟩
    | (exfalso; simp only [List.length_cons, List.length_nil] at h; omega)
theorem parse_back {t : List UInt8} {p : PS} (h : parseP t = (0, p)) : printE p.c p.r = (t, 0, ()) ∧ p.r.valid = 0 := by
  unfold parseP at h
  cases h7 : (splN 10 t 7).length != 7
  case true => rw [h7, cond_true] at h; exact err20 h
  rw [h7, cond_false] at h
  have h7 : (splN 10 t 7).length = 7 := by simpa using h7
  obtain ⟨a0, a1, a2, a3, a4, a5, a6, hw⟩ := w7 h7
  have ht := sp7 hw
  rw [hw] at h
  cases h6 : a6 == []
  case false =>
    rw [show ([a0, a1, a2, a3, a4, a5, a6].getD 6 [] == []) = (a6 == []) from rfl, h6] at h
    exact err20 h
  rw [show ([a0, a1, a2, a3, a4, a5, a6].getD 6 [] == []) = (a6 == []) from rfl, h6, Bool.not_true, cond_false] at h
  have h6 := eq_of_beq h6
  subst h6
  have hg : goP [a0, a1, a2, a3, a4, a5, []] 6 ⟨0, r0⟩ = (0, p) ∧ p.r.valid = 0 := by
    generalize goP [a0, a1, a2, a3, a4, a5, []] 6 ⟨0, r0⟩ = g at h
    unfold outP at h
    cases e : g.1 == 0
    · rw [e, cond_false] at h
      have := (Prod.mk.inj h).1
      rw [this] at e; cases e
    · rw [e, cond_true] at h
      cases ev : g.2.r.valid != 0
      · rw [ev, cond_false] at h
        obtain ⟨_, rfl⟩ := Prod.mk.inj h
        have e := eq_of_beq e
        exact ⟨by rw [← e], by simpa using ev⟩
      · rw [ev, cond_true] at h
        have := (Prod.mk.inj h).1
        rw [this] at ev; cases ev
  obtain ⟨hg, hv⟩ := hg
  obtain ⟨p1, l0, hg⟩ := goP_inv hg
  obtain ⟨p2, l1, hg⟩ := goP_inv hg
  obtain ⟨p3, l2, hg⟩ := goP_inv hg
  obtain ⟨p4, l3, hg⟩ := goP_inv hg
  obtain ⟨p5, l4, hg⟩ := goP_inv hg
  obtain ⟨p6, l5, hg⟩ := goP_inv hg
  have hp : p6 = p := (Prod.mk.inj hg).2
  subst hp
  obtain ⟨c1, c2, e0, q0⟩ := line0_inv l0
  obtain ⟨z1, e1, q1⟩ := line1_inv l1
  obtain ⟨m, v, m1, v1, e2, q2⟩ := line2_inv l2
  obtain ⟨x3, y3, e3, q3⟩ := line3_inv l3
  obtain ⟨x4, y4, e4, q4⟩ := line4_inv l4
  obtain ⟨z5, e5, q5⟩ := line5_inv l5
  obtain ⟨c, r⟩ := p1
  subst q1 q2 q3 q4 q5
  refine ⟨?_, hv⟩
  have e0 : a0 = ln0 c := e0
  have e1 : a1 = [115, 99, 111, 114, 101] ++ 32 :: itoaK z1 := e1
  have e2 : a2 = _ := e2
  have e3 : a3 = _ := e3
  have e4 : a4 = _ := e4
  have e5 : a5 = _ := e5
  unfold printE
  have c1 : 1 ≤ c := c1
  have c2 : c ≤ 9999999 := c2
  dsimp only at hv ⊢
  rw [decide_eq_false (show ¬ c < 1 by omega), decide_eq_false (show ¬ 9999999 < c by omega), hv, m1, v1]
  have hx : ∀ r' : Res, r'.sc = z1 → r'.m = m → r'.v = v → r'.lo = x3 → r'.hi = y3 → r'.sp = x4 → r'.st = y4 → r'.es = z5 → printT c r' = t := by
    intro r' g1 g2 g3 g4 g5 g6 g7 g8
    rw [printT_ln, ht, e0, e1, e2, e3, e4, e5]
    unfold ln1 ln2 ln3 ln4 ln5
    rw [g1, g2, g3, g4, g5, g6, g7, g8]
  rw [hx _ rfl rfl rfl rfl rfl rfl rfl rfl]
  rfl
end Go.Proofs.YtcggnmddcbhchaaGreatDoor
set_option linter.unusedSimpArgs false
set_option linter.unusedVariables false
namespace Go.Proofs.YtcggnmddcbhchaaGreatDoor
open Go.RowKit Lim
theorem lawTrip_m {F : Nat} (n0 : Nat) (x0 : Int) (c0 : Bool) (c1 c2 : List Nat) (c3 : Bool) (c4 c5 : List Nat) (c6 c7 c8 c9 c10 c11 : Int) (t : List UInt8) : EF F (n0 + 1) 6 [.o (.c ⟨.int .i64, x0⟩), .o (.agg (cL c0 c1 c2 c3 c4 c5 c6 c7 c8 c9 c10 c11)), .o (.c ⟨.str, t⟩)] [.c .bool] = unwrapA ((EF F n0 9 [vI x0, .o (.agg (cL c0 c1 c2 c3 c4 c5 c6 c7 c8 c9 c10 c11))] [.c tS, .c (tI)]).bind fun x => bif x.2.1 == 0 then (EF F n0 16 [vS x.1] [.c (tI), .agg tT, .c (tI)]).bind fun x => bif x.1 != x0 then some (.ret (false, ())) else bif x.2.2.2.2.2.2.2.2.2.2.2.2.2.1 != 0 then some (.ret (false, ())) else (EF F n0 22 [.o (.agg (cL x.2.1 x.2.2.1 x.2.2.2.1 x.2.2.2.2.1 x.2.2.2.2.2.1 x.2.2.2.2.2.2.1 x.2.2.2.2.2.2.2.1 x.2.2.2.2.2.2.2.2.1 x.2.2.2.2.2.2.2.2.2.1 x.2.2.2.2.2.2.2.2.2.2.1 x.2.2.2.2.2.2.2.2.2.2.2.1 x.2.2.2.2.2.2.2.2.2.2.2.2.1)), .o (.agg (cL c0 c1 c2 c3 c4 c5 c6 c7 c8 c9 c10 c11))] [.c tB]).bind fun x => bif !x.1 then some (.ret (false, ())) else (EF F n0 11 [.o (.agg (cL c0 c1 c2 c3 c4 c5 c6 c7 c8 c9 c10 c11))] [.c (tI)]).bind fun x => bif x.1 != 0 then some (.ret (false, ())) else (EF F n0 16 [vS t] [.c (tI), .agg tT, .c (tI)]).bind fun x => bif x.2.2.2.2.2.2.2.2.2.2.2.2.2.1 != 0 then bif x.1 == 0 then (EF F n0 18 [.o (.agg (cL x.2.1 x.2.2.1 x.2.2.2.1 x.2.2.2.2.1 x.2.2.2.2.2.1 x.2.2.2.2.2.2.1 x.2.2.2.2.2.2.2.1 x.2.2.2.2.2.2.2.2.1 x.2.2.2.2.2.2.2.2.2.1 x.2.2.2.2.2.2.2.2.2.2.1 x.2.2.2.2.2.2.2.2.2.2.2.1 x.2.2.2.2.2.2.2.2.2.2.2.2.1)), .o (.agg (cL false [] [] false [] [] 0 0 0 0 0 0))] [.c tB]).bind fun x => bif x.1 then (EF F n0 15 [] [.c tB]).bind fun x => some (.ret (x.1, ())) else some (.ret (false, ())) else some (.ret (false, ())) else (EF F n0 9 [vI x.1, .o (.agg (cL x.2.1 x.2.2.1 x.2.2.2.1 x.2.2.2.2.1 x.2.2.2.2.2.1 x.2.2.2.2.2.2.1 x.2.2.2.2.2.2.2.1 x.2.2.2.2.2.2.2.2.1 x.2.2.2.2.2.2.2.2.2.1 x.2.2.2.2.2.2.2.2.2.2.1 x.2.2.2.2.2.2.2.2.2.2.2.1 x.2.2.2.2.2.2.2.2.2.2.2.2.1))] [.c tS, .c (tI)]).bind fun x_1 => bif x_1.1 == t then bif x_1.2.1 == 0 then (EF F n0 11 [.o (.agg (cL x.2.1 x.2.2.1 x.2.2.2.1 x.2.2.2.2.1 x.2.2.2.2.2.1 x.2.2.2.2.2.2.1 x.2.2.2.2.2.2.2.1 x.2.2.2.2.2.2.2.2.1 x.2.2.2.2.2.2.2.2.2.1 x.2.2.2.2.2.2.2.2.2.2.1 x.2.2.2.2.2.2.2.2.2.2.2.1 x.2.2.2.2.2.2.2.2.2.2.2.2.1))] [.c (tI)]).bind fun x => bif x.1 == 0 then (EF F n0 15 [] [.c tB]).bind fun x => some (.ret (x.1, ())) else some (.ret (false, ())) else some (.ret (false, ())) else some (.ret (false, ())) else bif !x.1 == [] then some (.ret (false, ())) else (EF F n0 16 [vS t] [.c (tI), .agg tT, .c (tI)]).bind fun x => bif x.2.2.2.2.2.2.2.2.2.2.2.2.2.1 != 0 then bif x.1 == 0 then (EF F n0 18 [.o (.agg (cL x.2.1 x.2.2.1 x.2.2.2.1 x.2.2.2.2.1 x.2.2.2.2.2.1 x.2.2.2.2.2.2.1 x.2.2.2.2.2.2.2.1 x.2.2.2.2.2.2.2.2.1 x.2.2.2.2.2.2.2.2.2.1 x.2.2.2.2.2.2.2.2.2.2.1 x.2.2.2.2.2.2.2.2.2.2.2.1 x.2.2.2.2.2.2.2.2.2.2.2.2.1)), .o (.agg (cL false [] [] false [] [] 0 0 0 0 0 0))] [.c tB]).bind fun x => bif x.1 then (EF F n0 15 [] [.c tB]).bind fun x => some (.ret (x.1, ())) else some (.ret (false, ())) else some (.ret (false, ())) else (EF F n0 9 [vI x.1, .o (.agg (cL x.2.1 x.2.2.1 x.2.2.2.1 x.2.2.2.2.1 x.2.2.2.2.2.1 x.2.2.2.2.2.2.1 x.2.2.2.2.2.2.2.1 x.2.2.2.2.2.2.2.2.1 x.2.2.2.2.2.2.2.2.2.1 x.2.2.2.2.2.2.2.2.2.2.1 x.2.2.2.2.2.2.2.2.2.2.2.1 x.2.2.2.2.2.2.2.2.2.2.2.2.1))] [.c tS, .c (tI)]).bind fun x_1 => bif x_1.1 == t then bif x_1.2.1 == 0 then (EF F n0 11 [.o (.agg (cL x.2.1 x.2.2.1 x.2.2.2.1 x.2.2.2.2.1 x.2.2.2.2.2.1 x.2.2.2.2.2.2.1 x.2.2.2.2.2.2.2.1 x.2.2.2.2.2.2.2.2.1 x.2.2.2.2.2.2.2.2.2.1 x.2.2.2.2.2.2.2.2.2.2.1 x.2.2.2.2.2.2.2.2.2.2.2.1 x.2.2.2.2.2.2.2.2.2.2.2.2.1))] [.c (tI)]).bind fun x => bif x.1 == 0 then (EF F n0 15 [] [.c tB]).bind fun x => some (.ret (x.1, ())) else some (.ret (false, ())) else some (.ret (false, ())) else some (.ret (false, ()))) := by kernel_rfl
end Go.Proofs.YtcggnmddcbhchaaGreatDoor
set_option linter.unusedSimpArgs false
set_option linter.unusedVariables false
namespace Go.Proofs.YtcggnmddcbhchaaGreatDoor
open Go.RowKit Lim
section
variable (n : Nat)
end
theorem awake_e : EF fuel 20 15 [] gB = some (true, ()) := by kernel_rfl
end Go.Proofs.YtcggnmddcbhchaaGreatDoor
set_option linter.unusedSimpArgs false
set_option linter.unusedVariables false
namespace Go.Proofs.YtcggnmddcbhchaaGreatDoor
open Go.ChangeShapes Go.WideShapes Go.ChangeAt Go.RowKit Lim
inductive SH where
  | int (k : IntKind)
  | bool
  | str
  | nat
  | sl (e : SH)
  | nil
  | cons (f r : SH)
def SH.sz : SH → Nat
  | .nil => 0
  | .cons f r => f.sz + r.sz
  | _ => 1
inductive Ok (B : Nat) : SH → List AV → Prop
  | int {k : IntKind} {z : Int} (h : k.min ≤ z ∧ z ≤ k.max) : Ok B (.int k) [.lit (.int k z)]
  | bool {b : Bool} : Ok B .bool [.lit (.bool b)]
  | str {l : List UInt8} (h : l.length ≤ B) : Ok B .str [Go.Proofs.YtcggnmddcbhchaaGreatDoor.str l]
  | nat {l : List Nat} (h1 : Dig l) (h2 : l.length ≤ B) : Ok B .nat [.nat l]
  | sl {e : SH} {xs : List (List AV)} (h1 : xs.length ≤ B) (h2 : ∀ x, x ∈ xs → Ok B e x) : Ok B (.sl e) [.sl e.sz (xs.map (mkEl e.sz))]
  | nil : Ok B .nil []
  | cons {f r : SH} {a b : List AV} (h1 : Ok B f a) (h2 : Ok B r b) : Ok B (.cons f r) (a ++ b)
theorem Ok.facts {B : Nat} {s : SH} {cs : List AV} (h : Ok B s cs) : cs.length = s.sz ∧ cs.all AV.one = true := by
  induction h with
  | cons _ _ ih1 ih2 => simp only [SH.sz, List.length_append, List.all_append, ih1.1, ih2.1, ih1.2, ih2.2, Bool.and_self]; exact ⟨trivial, trivial⟩
  | nil => exact ⟨rfl, rfl⟩
  | _ => exact ⟨rfl, rfl⟩
def shB (P : Program) : SH → (TypeId → Bool) × (List Field → Nat → Bool)
  | .int k => (fun t => match P.underlying t with | some (.int k') => decide (k' = k) | _ => false, fun _ _ => false)
  | .bool => (fun t => match P.underlying t with | some .bool => true | _ => false, fun _ _ => false)
  | .str => (fun t => match P.underlying t with | some .string => true | _ => false, fun _ _ => false)
  | .nat => (fun t => match P.underlying t with | some (.slice e) => (match P.underlying e with | some (.int .u32) => P.cellsOf e == 1 | _ => false) | _ => false, fun _ _ => false)
  | .sl s => (fun t => match P.underlying t with | some (.slice e) => (shB P s).1 e && P.cellsOf e == s.sz && decide (0 < s.sz) | _ => false, fun _ _ => false)
  | .nil => (fun t => match P.underlying t with | some (.struct fs) => fs.toList.isEmpty && P.cellsOf t == 0 | _ => false, fun fs _ => fs.isEmpty)
  | .cons f r => (fun t => match P.underlying t with | some (.struct fs) => (match fs.toList with | g :: gs => g.offset == 0 && (shB P f).1 g.type && P.cellsOf g.type == f.sz && (shB P r).2 gs (0 + f.sz) | [] => false) && P.cellsOf t == f.sz + r.sz | _ => false,
      fun fs off => match fs with | g :: gs => g.offset == off && (shB P f).1 g.type && P.cellsOf g.type == f.sz && (shB P r).2 gs (off + f.sz) | [] => false)
theorem bulk_one {H : Type} (d : DataW H) : 1 ≤ Rows.uptoBulk d := by
  cases d with
  | lit l => cases l <;> simp [Rows.uptoBulk]
  | nil => simp [Rows.uptoBulk]
  | ptr d => simp [Rows.uptoBulk]
  | slice elems spare => simp [Rows.uptoBulk]
  | agg parts => simp [Rows.uptoBulk]
  | iface t d => simp [Rows.uptoBulk]
  | map entries => simp [Rows.uptoBulk]
  | held h => simp [Rows.uptoBulk]
theorem bulk_len {H : Type} (l : List (DataW H)) : l.length ≤ Rows.uptoBulkAll l := by
  induction l with
  | nil => simp [Rows.uptoBulkAll]
  | cons x r ih => have := bulk_one x; simp only [Rows.uptoBulkAll, List.length_cons]; omega
theorem bulk_mem {H : Type} {l : List (DataW H)} {x : DataW H} (h : x ∈ l) : Rows.uptoBulk x ≤ Rows.uptoBulkAll l := by
  induction l with
  | nil => simp at h
  | cons y r ih =>
    simp only [Rows.uptoBulkAll]
    rcases List.mem_cons.1 h with rfl | h
    · omega
    · have := ih h; omega
theorem cell_spot {w : World} {a : Addr} {v : Value} (h : w.cell? a = some v) : a = ⟨a.block, a.off, none⟩ := by
  obtain ⟨b, o, s⟩ := a
  cases s with
  | none => rfl
  | some q =>
    simp only [World.cell?] at h
    split at h <;> simp at h
abbrev inW (w : World) : Zone := fun b _ => b < w.heap.size
section
variable {H : Type} {enc : TypeId × Value → H} {P : Program} {w : World} {base : Nat} {spare : Nat → Bool} {held : Bool} {B : Nat}
theorem open_nat {t e : TypeId} {fuel : Nat} {cs : List Value} {x : DataW H × List MemPlace} (ht : P.underlying t = some (.slice e)) (he : P.underlying e = some (.int .u32)) (hc : P.cellsOf e = 1)
    (h : DataW.trod enc P w base spare held fuel t cs = some x) (hB : Rows.uptoBulk x.1 ≤ B) : ∃ l v, cs = [v] ∧ Dig l ∧ l.length ≤ B ∧ Rep w (inW w) (.nat l) v := by
  rcases open_ints ht he hc h with ⟨rfl, rfl⟩ | ⟨a, len, cap, zs, rfl, _, hl, hm, hz, rfl, hcell, hwf⟩
  · exact ⟨[], _, rfl, dig_nil, by simp, Rep.nat (l := []) (Rd.nil _ _) (by simp) (fun _ _ _ j hj => by simp at hj)⟩
  · have hlen : len ≤ zs.length := by rw [hz]; split <;> omega
    have hb : ∀ n ∈ zs, 0 ≤ n ∧ n < 4294967296 := fun n hn => by
      have := hwf n hn
      simp [Lit.wf, IntKind.min, IntKind.max, IntKind.signed, IntKind.bits] at this
      omega
    have hl2 : ((zs.take len).map Int.toNat).length = len := by simp; omega
    have hd : Dig ((zs.take len).map Int.toNat) := by
      intro y hy
      obtain ⟨n, hn, rfl⟩ := List.mem_map.1 hy
      have := hb n (List.mem_of_mem_take hn)
      omega
    have hR : Rd w (some a) ((zs.take len).map Int.toNat) := ⟨hd, fun hpos => by
      have h0 := hcell 0 (by omega)
      rw [show a.add 0 = a by simp [Addr.add]] at h0
      have ha := cell_spot h0
      refine ⟨a.block, a.off, by rw [← ha], World.block_lt_of_cell? w a h0, fun j hj => ?_⟩
      have hj2 : j < zs.length := by omega
      have := hcell j hj2
      rw [ha, add_addr] at this
      rw [this]
      simp only [List.getElem_map, List.getElem_take]
      have hb2 := hb zs[j] (List.getElem_mem hj2)
      rw [Int.toNat_of_nonneg hb2.1]
      simp [List.getD, List.getElem?_eq_getElem hj2]⟩
    refine ⟨(zs.take len).map Int.toNat, .slice (some a) ((zs.take len).map Int.toNat).length cap, by rw [hl2], hd, ?_, .nat hR (by omega) ?_⟩
    · rw [hl2]
      simp only [Rows.uptoBulk] at hB
      have h1 := bulk_len (lits (H := H) .u32 (zs.take len))
      have : (lits (H := H) .u32 (zs.take len)).length = len := by simp [lits]; omega
      omega
    · intro b off e j hj
      obtain ⟨b', off', e', hb', _⟩ := hR.2 (by omega)
      rw [e] at e'
      cases e'
      exact hb'
def Stand (w : World) (as' : List AV) (cs : List Value) : Prop := as'.length = cs.length ∧ ∀ j (h1 : j < as'.length) (h2 : j < cs.length), Rep w (inW w) (as'[j]'h1) (cs[j]'h2)
theorem Stand.one {a : AV} {v : Value} (h : Rep w (inW w) a v) : Stand w [a] [v] := ⟨rfl, fun j h1 h2 => by
  have : j = 0 := by simp at h1; exact h1
  subst this
  exact h⟩
theorem add_cell {a : Addr} {i j : Nat} : (a.add i).add j = a.add (i + j) := Go.Deep.add_add a i j
theorem open_sl {s : SH} {t e : TypeId} {fuel : Nat} {cs : List Value} {x : DataW H × List MemPlace} (ht : P.underlying t = some (.slice e)) (hc : P.cellsOf e = s.sz) (hs : 0 < s.sz)
    (ih : ∀ {n : Nat} {cs' : List Value} {y : DataW H × List MemPlace}, DataW.trod enc P w base spare held n e cs' = some y → Rows.uptoBulk y.1 ≤ B → ∃ as', Ok B s as' ∧ Stand w as' cs')
    (h : DataW.trod enc P w base spare held fuel t cs = some x) (hB : Rows.uptoBulk x.1 ≤ B) : ∃ as', Ok B (.sl s) as' ∧ Stand w as' cs := by
  rcases Go.Deep.open_slice ht h with ⟨rfl, rfl⟩ | ⟨a, len, cap, m, n, D, Pl, rfl, hb, hl, hm, hmm, rfl, hx⟩
  · exact ⟨_, .sl (xs := []) (by simp) (fun x hx => by simp at hx), Stand.one .nil⟩
  have hlm : len ≤ m := by rw [hmm]; split <;> omega
  simp only [Rows.uptoBulk] at hB
  have h1 := bulk_len ((List.range len).map D)
  have h2 : ((List.range len).map D).length = len := by simp
  have hel : ∀ i, i < len → ∃ as', Ok B s as' ∧ ∃ cs', w.cells? base (a.add (i * s.sz)) s.sz = some cs' ∧ Stand w as' cs' := fun i hi => by
    obtain ⟨cs', k1, k2⟩ := hx i (by omega)
    rw [hc] at k1
    have k3 : Rows.uptoBulk (D i) ≤ Rows.uptoBulkAll ((List.range len).map D) := bulk_mem (List.mem_map.2 ⟨i, List.mem_range.2 hi, rfl⟩)
    obtain ⟨as', o1, o2⟩ := ih k2 (show Rows.uptoBulk (D i) ≤ B by omega)
    exact ⟨as', o1, cs', k1, o2⟩
  let A : Nat → List AV := fun i => if h : i < len then Classical.choose (hel i h) else []
  have hA : ∀ i (hi : i < len), Ok B s (A i) ∧ ∃ cs', w.cells? base (a.add (i * s.sz)) s.sz = some cs' ∧ Stand w (A i) cs' := fun i hi => by
    have := Classical.choose_spec (hel i hi)
    simp only [A, dif_pos hi]
    exact this
  let V : Nat → List Value := fun i => (w.cells? base (a.add (i * s.sz)) s.sz).getD []
  have hV : ∀ i (hi : i < len), w.cells? base (a.add (i * s.sz)) s.sz = some (V i) ∧ Stand w (A i) (V i) := fun i hi => by
    obtain ⟨_, cs', k1, k2⟩ := hA i hi
    simp only [V, k1, Option.getD_some]
    exact ⟨trivial, k2⟩
  have hcl : ∀ i (hi : i < len) j (hj : j < s.sz), ∃ hv : j < (V i).length, w.cell? (a.add (i * s.sz + j)) = some ((V i)[j]'hv) := fun i hi j hj => by
    obtain ⟨_, k2, k3⟩ := World.cells?_some (hV i hi).1
    refine ⟨by omega, ?_⟩
    rw [← add_cell, k3 j hj, List.getElem?_eq_getElem]
  have hE : ∀ i (hi : i < len), (mkEl s.sz (A i)).cells = A i := fun i hi => mkEl_cells hs (hA i hi).1.facts.1 (hA i hi).1.facts.2
  have hmm' : ((List.range len).map A).map (mkEl s.sz) = (List.range len).map fun i => mkEl s.sz (A i) := by rw [List.map_map]; rfl
  refine ⟨_, .sl (xs := (List.range len).map A) (by simp; omega) (fun x hx => ?_), Stand.one ?_⟩
  · obtain ⟨i, hi, rfl⟩ := List.mem_map.1 hx
    exact (hA i (List.mem_range.1 hi)).1
  · rw [hmm']
    by_cases h0 : len = 0
    · subst h0
      exact .nil
    · obtain ⟨_, hc0⟩ := hcl 0 (by omega) 0 hs
      have hadd0 : a.add (0 * s.sz + 0) = a := by simp [Addr.add]
      rw [hadd0] at hc0
      have ha := cell_spot hc0
      have hlt := World.block_lt_of_cell? w a hc0
      have key : Rep w (inW w) (.sl s.sz ((List.range len).map fun i => mkEl s.sz (A i))) (.slice (some ⟨a.block, a.off, none⟩) ((List.range len).map fun i => mkEl s.sz (A i)).length cap) := by
        refine .sl (fun i j => (V i).getD j undef) hlt (by simp; exact hl) (fun i hi => ?_) (fun i j hi hj => ?_) (fun i hi j hj => ?_)
        · simp only [List.length_map, List.length_range] at hi
          simp only [List.getElem_map, List.getElem_range, hE i hi]
          exact (hA i hi).1.facts.1
        · simp only [List.length_map, List.length_range] at hi
          obtain ⟨q1, q2⟩ := hcl i hi j hj
          rw [ha, add_addr] at q2
          refine ⟨?_, hlt⟩
          rw [Nat.add_assoc, q2]
          simp [List.getD, List.getElem?_eq_getElem q1]
        · simp only [List.length_map, List.length_range] at hi
          have e0 : ((List.range len).map fun i => mkEl s.sz (A i))[i]'(by simpa using hi) = mkEl s.sz (A i) := by simp
          have hj' : j < (A i).length := by
            rw [← hE i hi]
            simpa [e0] using hj
          obtain ⟨q1, q2⟩ := hcl i hi j (by rw [← (hA i hi).1.facts.1]; exact hj')
          have := (hV i hi).2.2 j hj' q1
          have e1 : (V i).getD j undef = (V i)[j] := by simp [List.getD, List.getElem?_eq_getElem q1]
          rw [e1]
          have e2 : (((List.range len).map fun i => mkEl s.sz (A i))[i]'(by simpa using hi)).cells[j]'hj = (A i)[j] := by simp only [e0, hE i hi]
          rw [e2]
          exact this
      rw [ha]
      simpa using key
end
end Go.Proofs.YtcggnmddcbhchaaGreatDoor
set_option linter.unusedSimpArgs false
set_option linter.unusedVariables false
namespace Go.Proofs.YtcggnmddcbhchaaGreatDoor
open Go.ChangeShapes Go.WideShapes Go.ChangeAt Go.RowKit Lim
section
variable {H : Type} {enc : TypeId × Value → H} {P : Program} {w : World} {base : Nat} {spare : Nat → Bool} {held : Bool} {B : Nat}
theorem Stand.app {as' bs' : List AV} {cs ds : List Value} (h1 : Stand w as' cs) (h2 : Stand w bs' ds) : Stand w (as' ++ bs') (cs ++ ds) := by
  refine ⟨by rw [List.length_append, List.length_append, h1.1, h2.1], fun j k1 k2 => ?_⟩
  by_cases hj : j < as'.length
  · rw [List.getElem_append_left hj, List.getElem_append_left (by rw [← h1.1]; exact hj)]
    exact h1.2 j hj _
  · have e : cs.length = as'.length := h1.1.symm
    rw [List.getElem_append_right (by omega), List.getElem_append_right (by omega)]
    have := h2.2 (j - as'.length) (by simp at k1; omega) (by simp at k2; omega)
    simpa [e] using this
def OpenF (enc : TypeId × Value → H) (P : Program) (w : World) (base : Nat) (spare : Nat → Bool) (held : Bool) (B : Nat) (s : SH) : Prop :=
  ∀ (fs : List Field) (off n : Nat) (cs : List Value) (xs : List (DataW H × List MemPlace)), (shB P s).2 fs off = true → off + s.sz ≤ cs.length →
    (∀ (i : Nat) (f : Field), fs[i]? = some f → DataW.trod enc P w base spare held n f.type ((cs.drop f.offset).take (P.cellsOf f.type)) = xs[i]?) → xs.length = fs.length →
    Rows.uptoBulkAll (xs.map (·.1)) ≤ B → ∃ as', Ok B s as' ∧ Stand w as' ((cs.drop off).take s.sz)
def OpenT (enc : TypeId × Value → H) (P : Program) (w : World) (base : Nat) (spare : Nat → Bool) (held : Bool) (B : Nat) (s : SH) : Prop :=
  ∀ (t : TypeId) (n : Nat) (cs : List Value) (x : DataW H × List MemPlace), (shB P s).1 t = true → DataW.trod enc P w base spare held n t cs = some x → Rows.uptoBulk x.1 ≤ B → ∃ as', Ok B s as' ∧ Stand w as' cs
theorem openT_struct {s : SH} (hF : OpenF enc P w base spare held B s) {t : TypeId} {fs : Array Field} (hu : P.underlying t = some (.struct fs)) (hs : (shB P s).2 fs.toList 0 = true) (hc : P.cellsOf t = s.sz)
    {n : Nat} {cs : List Value} {x : DataW H × List MemPlace} (h : DataW.trod enc P w base spare held n t cs = some x) (hB : Rows.uptoBulk x.1 ≤ B) : ∃ as', Ok B s as' ∧ Stand w as' cs := by
  obtain ⟨xs, n, rfl, rfl, hl, hx, hf⟩ := DataW.trod_struct hu h
  rw [hc] at hl
  simp only [Rows.uptoBulk] at hB
  obtain ⟨as', h1, h2⟩ := hF fs.toList 0 n cs xs hs (by omega) (fun i f hi => hf i f (by simpa using hi)) (by simpa using hx) (by omega)
  rw [List.drop_zero, List.take_of_length_le (by omega)] at h2
  exact ⟨as', h1, h2⟩
theorem open_sh : ∀ s : SH, OpenT enc P w base spare held B s ∧ OpenF enc P w base spare held B s
  | .int k => ⟨fun t n cs x hs h hB => by
      simp only [shB] at hs
      split at hs
      · rename_i k' hu
        have hs := of_decide_eq_true hs
        subst hs
        obtain ⟨z, rfl, rfl, hw⟩ := DataW.trod_int hu h
        refine ⟨_, .int (z := z) ?_, Stand.one (.lit rfl)⟩
        simpa [Lit.wf] using hw
      · exact Bool.noConfusion hs, fun fs off n cs xs hs => by simp [shB] at hs⟩
  | .bool => ⟨fun t n cs x hs h hB => by
      simp only [shB] at hs
      split at hs
      · rename_i hu
        obtain ⟨b, rfl, rfl⟩ := DataW.trod_bool hu h
        exact ⟨_, .bool (b := b), Stand.one (.lit rfl)⟩
      · exact Bool.noConfusion hs, fun fs off n cs xs hs => by simp [shB] at hs⟩
  | .str => ⟨fun t n cs x hs h hB => by
      simp only [shB] at hs
      split at hs
      · rename_i hu
        obtain ⟨b, rfl, rfl, _⟩ := DataW.trod_string hu h
        simp only [Rows.uptoBulk] at hB
        refine ⟨_, .str (l := b.data.toList) (by omega), Stand.one ?_⟩
        have e : bs b.data.toList = b := by cases b; simp [bs]
        show Rep w _ (.lit (.string (bs b.data.toList))) (.string b)
        rw [e]
        exact .lit rfl
      · exact Bool.noConfusion hs, fun fs off n cs xs hs => by simp [shB] at hs⟩
  | .nat => ⟨fun t n cs x hs h hB => by
      simp only [shB] at hs
      split at hs
      · rename_i e hu
        split at hs
        · rename_i he
          obtain ⟨l, v, rfl, h1, h2, h3⟩ := open_nat hu he (by simpa using hs) h hB
          exact ⟨_, .nat h1 h2, Stand.one h3⟩
        · cases hs
      · exact Bool.noConfusion hs, fun fs off n cs xs hs => by simp [shB] at hs⟩
  | .sl s => ⟨fun t n cs x hs h hB => by
      simp only [shB] at hs
      split at hs
      · rename_i e hu
        simp only [Bool.and_eq_true, beq_iff_eq, decide_eq_true_eq] at hs
        exact open_sl hu hs.1.2 hs.2 (fun hy hb => (open_sh s).1 e _ _ _ hs.1.1 hy hb) h hB
      · exact Bool.noConfusion hs, fun fs off n cs xs hs => by simp [shB] at hs⟩
  | .nil => by
    have hF : OpenF enc P w base spare held B .nil := fun fs off n cs xs hs hl hf hx hb => ⟨[], .nil, by simp [SH.sz], fun j h1 h2 => by simp at h1⟩
    refine ⟨fun t n cs x hs h hB => ?_, hF⟩
    simp only [shB] at hs
    split at hs
    · rename_i fs hu
      simp only [Bool.and_eq_true, beq_iff_eq] at hs
      exact openT_struct hF hu hs.1 hs.2 h hB
    · cases hs
  | .cons f r => by
    have hF : OpenF enc P w base spare held B (.cons f r) := fun fs off n cs xs hs hl hf hx hb => by
      cases fs with
      | nil => simp [shB] at hs
      | cons g gs =>
        simp only [shB, Bool.and_eq_true, beq_iff_eq] at hs
        obtain ⟨⟨⟨ho, hg⟩, hc⟩, hr⟩ := hs
        cases xs with
        | nil => simp at hx
        | cons x xs =>
          simp only [List.map_cons, Rows.uptoBulkAll] at hb
          simp only [SH.sz] at hl
          have h0 := hf 0 g rfl
          rw [ho, hc] at h0
          obtain ⟨as1, k1, k2⟩ := (open_sh f).1 g.type n _ x hg h0 (by omega)
          obtain ⟨as2, k3, k4⟩ := (open_sh r).2 gs (off + f.sz) n cs xs hr (by omega) (fun i q hi => hf (i + 1) q (by simpa using hi)) (by simpa using hx) (by omega)
          refine ⟨as1 ++ as2, .cons k1 k3, ?_⟩
          have e : (cs.drop off).take (f.sz + r.sz) = (cs.drop off).take f.sz ++ (cs.drop (off + f.sz)).take r.sz := by
            rw [List.take_add, List.drop_drop]
          show Stand w _ ((cs.drop off).take (f.sz + r.sz))
          rw [e]
          exact k2.app k4
    refine ⟨fun t n cs x hs h hB => ?_, hF⟩
    simp only [shB] at hs
    split at hs
    · rename_i fs hu
      simp only [Bool.and_eq_true, beq_iff_eq] at hs
      exact openT_struct hF hu hs.1 hs.2 h hB
    · cases hs
def SH.top : SH → List AV → AV
  | .nil, cs => .agg cs
  | .cons _ _, cs => .agg cs
  | _, cs => cs.headD (.agg [])
theorem stand_top {s : SH} {t : TypeId} {v : Value} {as' : List AV} {r : Reach} (hs : (shB P s).1 t = true) (ho : Ok B s as') (h : Stand w as' v.cells.toList) (hv : Value.okWide P w r base t v) : Rep w (inW w) (s.top as') v := by
  have one : ∀ {a : AV}, as' = [a] → v.cells.toList = [v] → Rep w (inW w) a v := fun {a} e1 e2 => by
    subst e1
    rw [e2] at h
    exact h.2 0 (by simp) (by simp)
  have agg : (∃ cs, v = .agg cs) → Rep w (inW w) (.agg as') v := fun ⟨cs, e⟩ => by
    subst e
    have h' : Stand w as' cs.toList := h
    exact .agg (by have := h'.1; simp at this; omega) fun j hj => by
      have := h'.2 j hj (by have := h'.1; simp at this ⊢; omega)
      simpa using this
  cases ho with
  | int hh =>
    simp only [shB] at hs
    split at hs
    · rename_i hu
      obtain ⟨n, rfl⟩ := okWide_int hu hv
      exact one rfl rfl
    · cases hs
  | bool =>
    simp only [shB] at hs
    split at hs
    · rename_i hu
      obtain ⟨n, rfl⟩ := okWide_bool hu hv
      exact one rfl rfl
    · cases hs
  | str hh =>
    simp only [shB] at hs
    split at hs
    · rename_i hu
      obtain ⟨n, rfl⟩ := okWide_string hu hv
      exact one rfl rfl
    · cases hs
  | nat h1 h2 =>
    simp only [shB] at hs
    split at hs
    · rename_i hu
      obtain ⟨a, n, c, rfl⟩ := okWide_slice hu hv
      exact one rfl rfl
    · cases hs
  | sl h1 h2 =>
    simp only [shB] at hs
    split at hs
    · rename_i hu
      obtain ⟨a, n, c, rfl⟩ := okWide_slice hu hv
      exact one rfl rfl
    · cases hs
  | nil =>
    simp only [shB] at hs
    split at hs
    · rename_i hu
      obtain ⟨cs, e, _⟩ := okWide_struct hu hv
      exact agg ⟨cs, e⟩
    · cases hs
  | cons h1 h2 =>
    simp only [shB] at hs
    split at hs
    · rename_i hu
      obtain ⟨cs, e, _⟩ := okWide_struct hu hv
      exact agg ⟨cs, e⟩
    · cases hs
inductive OkA (B : Nat) : List SH → List AV → Prop
  | nil : OkA B [] []
  | cons {s : SH} {ss : List SH} {cs : List AV} {as' : List AV} (h1 : Ok B s cs) (h2 : OkA B ss as') : OkA B (s :: ss) (s.top cs :: as')
def shAll (P : Program) : List SH → List TypeId → Bool
  | [], [] => true
  | s :: ss, t :: ts => (shB P s).1 t && shAll P ss ts
  | _, _ => false
theorem args_open : ∀ (ss : List SH) (ts : List TypeId) (vs : List Value) (ds : List (DataW H)) (p : List MemPlace) (r : Reach) (b : Nat), shAll P ss ts = true → DataW.TrodAll enc P w base spare held ts vs ds p →
    (∀ (j : Nat) (t : TypeId) (v : Value), ts[j]? = some t → vs[j]? = some v → Value.okWide P w r b t v) → Rows.uptoBulkAll ds ≤ B → ∃ as', OkA B ss as' ∧ Stand w as' vs
  | [], [], vs, ds, p, r, b, _, h, _, _ => by
    obtain ⟨rfl, rfl, rfl⟩ := trodAll_nil h
    exact ⟨[], .nil, rfl, fun j h1 => by simp at h1⟩
  | [], t :: ts, _, _, _, _, _, hs, _, _, _ => by simp [shAll] at hs
  | s :: ss, [], _, _, _, _, _, hs, _, _, _ => by simp [shAll] at hs
  | s :: ss, t :: ts, vs, ds, p, r, b, hs, h, hv, hB => by
    obtain ⟨v, vs1, d, ds1, p1, p2, rfl, rfl, rfl, ⟨n, h1⟩, h2⟩ := trodAll_cons h
    simp only [shAll, Bool.and_eq_true] at hs
    simp only [Rows.uptoBulkAll] at hB
    obtain ⟨cs, k1, k2⟩ := (open_sh s).1 t n _ _ hs.1 h1 (show Rows.uptoBulk d ≤ B by omega)
    obtain ⟨as', k3, k4⟩ := args_open ss ts vs1 ds1 p2 r b hs.2 h2 (fun j t v ht hv' => hv (j + 1) t v (by simpa using ht) (by simpa using hv')) (by omega)
    have hr := stand_top hs.1 k1 k2 (hv 0 t v rfl rfl)
    exact ⟨_, .cons k1 k3, (Stand.one hr).app k4⟩
theorem stand_args {as' : List AV} {args : Array Value} (h : Stand w as' args.toList) : Rep w (inW w) (.agg as') (.agg args) :=
  .agg (by have := h.1; simp at this; omega) fun j hj => by
    have := h.2 j hj (by have := h.1; simp at this ⊢; omega)
    simpa using this
end
section
variable {H : Type} {enc : TypeId × Value → H} {P : Program}
theorem stay_all (hl : laidOutB P = true) {W W' : World} (hb : Below W.heap.size W W') : ∀ (ts : List TypeId) (vs : List Value) (ds : List (DataW H)) (p : List MemPlace), ts.all (fun t => P.readableRec t && decide (t < P.types.size)) = true →
    DataW.TrodAll enc P W 0 (fun _ => true) true ts vs ds p → (∀ x ∈ p, x.block < W.heap.size) → ∀ sp : Nat → Bool, (∀ q ∈ p, sp q.block = true) → DataW.TrodAll enc P W' 0 sp true ts vs ds p
  | [], vs, ds, p, _, h, _, sp, _ => by
    obtain ⟨rfl, rfl, rfl⟩ := trodAll_nil h
    exact trodAll_mk0
  | t :: ts, vs, ds, p, ht, h, hlt, sp, hsp => by
    obtain ⟨v, vs1, d, ds1, a, b, rfl, rfl, rfl, h1, h2⟩ := trodAll_cons h
    simp only [List.all_cons, Bool.and_eq_true, decide_eq_true_eq] at ht
    refine trodAll_cons_mk (WideElems.Trod_stays hl ht.1.1 ht.1.2 h1 (fun x hx => hb.same (hlt x (List.mem_append_left _ hx))) (fun x hx => hsp x (List.mem_append_left _ hx))) ?_
    exact stay_all hl hb ts vs1 ds1 b (by simpa using ht.2) h2 (fun x hx => hlt x (List.mem_append_right _ hx)) sp (fun x hx => hsp x (List.mem_append_right _ hx))
theorem law_end (hl : laidOutB P = true) {tb : TypeId} (hu : P.underlying tb = some .bool) {fid : FuncId} {fn : Func} {s : ChangeSpec} {apart : Bool} (hv : s.vars = []) (hres : fn.resultTypes = #[tb]) (hts : fn.params.toList.all (fun t => P.readableRec t && decide (t < P.types.size)) = true)
    {W : World} {args : Array Value} {ds : List (DataW H)} {before : List MemPlace} (hW : DataW.Whole enc P fn.params.toList s.vars apart W args.toList ds [] before)
    (hfn : s.fn H (ds ++ []) = { results := [.lit (.bool true)], args := ds }) (hc : Calls P fid args W fun e W' => e = .returned (.bool true) ∧ Below W.heap.size W W') :
    Calls P fid args W fun e W' => ∃ v, e = .returned v ∧ s.post enc P fn apart true false false W args v W' := by
  have hW' := hW
  obtain ⟨p, q, hA, hV, rfl, hfz, hnd⟩ := hW
  rw [hv] at hV
  obtain ⟨_, rfl⟩ := trodVars_none hV
  refine hc.mono fun e W' ⟨he, hb⟩ => ⟨.bool true, he, ?_⟩
  have hlt : ∀ x ∈ p, x.block < W.heap.size := fun x hx => hW'.lt x (List.mem_append_left _ hx)
  have hl2 : ∀ x ∈ p ++ [], x.block < W.heap.size := fun x hx => hW'.lt x hx
  have hA2 : ∀ sp : Nat → Bool, (∀ x ∈ p, sp x.block = true) → DataW.TrodAll enc P W' 0 sp true fn.params.toList args.toList (s.fn H (ds ++ [])).args p := fun sp h => by
    rw [hfn]
    exact stay_all hl hb _ _ _ _ hts hA hlt sp h
  have hR2 : ∀ b sp hd, DataW.TrodAll enc P W' b sp hd fn.resultTypes.toList ((Value.bool true).resultList fn.resultTypes.size) (s.fn H (ds ++ [])).results [] := fun b sp hd => by
    rw [hfn, hres]
    exact trodAll_cons_mk (shut_bool hu _) trodAll_mk0
  have hV2 : ∀ sp, DataW.TrodVars enc P W' sp s.vars (s.fn H (ds ++ [])).vars [] := fun sp => by
    rw [hfn, hv]
    rfl
  refine ⟨ds, [], p ++ [], [], p, [], hW', hR2 _ _ _, hA2 _ (fun x hx => by simpa using hlt x hx), hV2 _, World.keptBut_mono (fun x hx => ⟨hx, .inr (List.mem_append.1 hx)⟩) (hb.frame (· ∈ p ++ [])), fun _ =>
    ⟨ok_one hres rfl (okWide_bool_mk hu _), _, _, ([] ++ p) ++ [], ⟨[] ++ p, [], trodAll_append (hA2 _ fun _ _ => rfl) (hR2 _ _ _), hV2 _, rfl, fun b off hx => ?_, fun h => by simpa using hnd h⟩, fun x hx _ => by simpa using hx⟩⟩
  have hx2 : MemPlace.cell b off ∈ p ++ [] := by simpa using hx
  rw [hb.frozen (hl2 _ hx2)]
  exact hfz b off hx2
end
theorem ac_calls {fid : FuncId} {avs : List AV} {W : World} {args : Array Value} (hc : AC fid avs (boo true)) (hE : Env W) (hR : Rep W (inW W) (.agg avs) (.agg args)) :
    Calls Tryz.prog fid args W fun e W' => e = .returned (.bool true) ∧ Below W.heap.size W W' := by
  refine (hc.2 W _ args hE (fun _ _ h => h) (fun _ b o v h _ => World.block_lt_of_cell? W _ h) hR).mono fun e W' ⟨v, he, hb, hr⟩ => ⟨?_, hb⟩
  cases hr
  exact he
set_option maxRecDepth 100000 in
theorem law_row {H : Type} {enc : TypeId × Value → H} (hl : laidOutB Tryz.prog = true) {tb : TypeId} (hu : Tryz.prog.underlying tb = some .bool) {fid : FuncId} {fn : Func} {s : ChangeSpec} (hv : s.vars = []) (hres : fn.resultTypes = #[tb]) (hts : fn.params.toList.all (fun t => Tryz.prog.readableRec t && decide (t < Tryz.prog.types.size)) = true)
    (ss : List SH) (hss : shAll Tryz.prog ss fn.params.toList = true) (hfn : ∀ ds : List (DataW H), ds.length = fn.params.toList.length → s.fn H (ds ++ []) = { results := [.lit (.bool true)], args := ds })
    (law : ∀ as', OkA 1048576 ss as' → AC fid as' (boo true))
    {W : World} {base : Nat} {args : Array Value} {ds gs : List (DataW H)} {before : List MemPlace} (hval : ∀ (j : Nat) t v, fn.params[j]? = some t → args[j]? = some v → Value.okWide Tryz.prog W .any base t v)
    (hW : DataW.Whole enc Tryz.prog fn.params.toList s.vars false W args.toList ds gs before) (hE : Env W) (hsm : Rows.uptoSmall H (ds ++ gs) = true) :
    Calls Tryz.prog fid args W fun e W' => ∃ v, e = .returned v ∧ s.post enc Tryz.prog fn false true false false W args v W' := by
  have hW' := hW
  obtain ⟨p, q, hA, hV, rfl, hfz, hnd⟩ := hW
  rw [hv] at hV
  obtain ⟨rfl, rfl⟩ := trodVars_none hV
  simp only [Rows.uptoSmall, List.append_nil, decide_eq_true_eq] at hsm
  obtain ⟨as', k1, k2⟩ := args_open ss _ _ _ _ .any base hss hA (fun j t v ht hv' => hval j t v (by simpa using ht) (by simpa using hv')) hsm
  have hlen : ds.length = fn.params.toList.length := by
    have : ∀ (ts : List TypeId) (vs : List Value) (ds : List (DataW H)) (p : List MemPlace), DataW.TrodAll enc Tryz.prog W 0 (fun _ => true) true ts vs ds p → ds.length = ts.length := by
      intro ts
      induction ts with
      | nil => intro vs ds p h; obtain ⟨rfl, rfl, rfl⟩ := trodAll_nil h; rfl
      | cons t ts ih =>
        intro vs ds p h
        obtain ⟨v, vs1, d, ds1, p1, p2, rfl, rfl, rfl, _, h2⟩ := trodAll_cons h
        rw [List.length_cons, List.length_cons, ih _ _ _ h2]
    exact this _ _ _ _ hA
  exact law_end hl hu hv hres hts hW' (hfn ds hlen) (ac_calls (law as' k1) hE (stand_args k2))
end Go.Proofs.YtcggnmddcbhchaaGreatDoor
set_option linter.unusedSimpArgs false
set_option linter.unusedVariables false
namespace Go.Proofs.YtcggnmddcbhchaaGreatDoor
open Go.RowKit Lim
theorem E_calls {n : Nat} {f : FuncId} {args : List V} {g : Sig} {x : denL g.ts} (h : EF fuel n f args g = some x) (hp : args.all V.plain = true) : AC f (args.map V.av) (resO g x) := by
  rcases (ev_sound evw_ok n).a f args g x hp h with h | h
  · exact h.ofT
  · exact h
section
variable {B : Nat} {cs : List AV}
theorem Ok.pair {f r : SH} (h : Ok B (.cons f r) cs) : ∃ a b, cs = a ++ b ∧ Ok B f a ∧ Ok B r b := by
  cases h with | cons h1 h2 => exact ⟨_, _, rfl, h1, h2⟩
theorem Ok.done (h : Ok B .nil cs) : cs = [] := by cases h; rfl
theorem Ok.i64 (h : Ok B (.int .i64) cs) : ∃ z : Int, cs = [Go.Proofs.YtcggnmddcbhchaaGreatDoor.i64 z] ∧ in64 z := by
  cases h with | int h => exact ⟨_, rfl, by simpa [IntKind.min, IntKind.max, IntKind.signed, IntKind.bits, in64] using h⟩
theorem Ok.boo (h : Ok B .bool cs) : ∃ b : Bool, cs = [Go.Proofs.YtcggnmddcbhchaaGreatDoor.boo b] := by cases h; exact ⟨_, rfl⟩
theorem Ok.s (h : Ok B .str cs) : ∃ l : List UInt8, cs = [Go.Proofs.YtcggnmddcbhchaaGreatDoor.str l] ∧ l.length ≤ B := by cases h; exact ⟨_, rfl, by assumption⟩
theorem Ok.limbs (h : Ok B .nat cs) : ∃ l : List Nat, cs = [.nat l] ∧ Dig l ∧ l.length ≤ B := by cases h; exact ⟨_, rfl, by assumption, by assumption⟩
abbrev shI : SH := .int .i64
abbrev shQ : SH := .cons (.cons .bool (.cons .nat .nil)) (.cons .nat .nil)
abbrev shRes : SH := .cons shQ (.cons shQ (.cons shI (.cons shI (.cons shI (.cons shI (.cons shI (.cons shI .nil)))))))
theorem Ok.q (h : Ok B shQ cs) (hB : B ≤ 1048576) : ∃ q : Q3, cs = [Go.Proofs.YtcggnmddcbhchaaGreatDoor.boo q.t, .nat q.a, .nat q.b] ∧ q.OK ∧ q.a.length ≤ 1048576 ∧ q.b.length ≤ 1048576 := by
  obtain ⟨a, b, rfl, h1, h2⟩ := h.pair
  obtain ⟨c, d, rfl, h3, h4⟩ := h1.pair
  obtain ⟨t, rfl⟩ := h3.boo
  obtain ⟨e, f, rfl, h5, h6⟩ := h4.pair
  obtain ⟨l, rfl, d1, l1⟩ := h5.limbs
  obtain ⟨g, i, rfl, h7, h8⟩ := h2.pair
  obtain ⟨m, rfl, d2, l2⟩ := h7.limbs
  rw [h6.done, h8.done]
  exact ⟨⟨t, l, m⟩, rfl, ⟨d1, d2, by show l.length ≤ _; omega, by show m.length ≤ _; omega⟩, by show l.length ≤ _; omega, by show m.length ≤ _; omega⟩
structure Res.Small (r : Res) : Prop where
  ok : r.OK
  l1 : r.m.a.length ≤ 1048576
  l2 : r.m.b.length ≤ 1048576
  l3 : r.v.a.length ≤ 1048576
  l4 : r.v.b.length ≤ 1048576
theorem Ok.res (h : Ok B shRes cs) (hB : B ≤ 1048576) : ∃ r : Res, SH.top shRes cs = (vR r).av ∧ r.Small := by
  obtain ⟨c1, r1, rfl, h1, q1⟩ := h.pair
  obtain ⟨c2, r2, rfl, h2, q2⟩ := q1.pair
  obtain ⟨c3, r3, rfl, h3, q3⟩ := q2.pair
  obtain ⟨c4, r4, rfl, h4, q4⟩ := q3.pair
  obtain ⟨c5, r5, rfl, h5, q5⟩ := q4.pair
  obtain ⟨c6, r6, rfl, h6, q6⟩ := q5.pair
  obtain ⟨c7, r7, rfl, h7, q7⟩ := q6.pair
  obtain ⟨c8, r8, rfl, h8, q8⟩ := q7.pair
  obtain ⟨m, rfl, m1, m2, m3⟩ := h1.q hB
  obtain ⟨v, rfl, v1, v2, v3⟩ := h2.q hB
  obtain ⟨z1, rfl, i1⟩ := h3.i64
  obtain ⟨z2, rfl, i2⟩ := h4.i64
  obtain ⟨z3, rfl, i3⟩ := h5.i64
  obtain ⟨z4, rfl, i4⟩ := h6.i64
  obtain ⟨z5, rfl, i5⟩ := h7.i64
  obtain ⟨z6, rfl, i6⟩ := h8.i64
  rw [q8.done]
  exact ⟨⟨m, v, z1, z2, z3, z4, z5, z6⟩, rfl, ⟨m1, v1, i1, i2, i3, i4, i5, i6⟩, m2, m3, v2, v3⟩
theorem okA_one {s : SH} {as' : List AV} (h : OkA B [s] as') : ∃ a, as' = [s.top a] ∧ Ok B s a := by
  cases h with | cons h1 h2 => cases h2; exact ⟨_, rfl, h1⟩
theorem okA_more {s : SH} {ss : List SH} {as' : List AV} (h : OkA B (s :: ss) as') : ∃ a r, as' = s.top a :: r ∧ Ok B s a ∧ OkA B ss r := by
  cases h with | cons h1 h2 => exact ⟨_, _, rfl, h1, h2⟩
end
end Go.Proofs.YtcggnmddcbhchaaGreatDoor
set_option linter.unusedSimpArgs false
set_option linter.unusedVariables false
namespace Go.Proofs.YtcggnmddcbhchaaGreatDoor
open Go.RowKit Lim
theorem goP_ok (L : List (List UInt8)) : ∀ (k : Nat) (p : PS), p.r.OK → (goP L k p).2.r.OK
  | 0, p, h => h
  | k + 1, p, h => by
    have h2 := lineP_ok (5 - k) (L.getD (5 - k) []) p h
    unfold goP
    cases (lineP (5 - k) (L.getD (5 - k) []) p).1 == 0
    · exact h2
    · exact goP_ok L k _ h2
theorem outP_ok {q : Int × PS} (h : q.2.r.OK) : (outP q).2.r.OK := by
  unfold outP
  cases q.1 == 0
  · exact r0_ok
  · cases q.2.r.valid != 0
    · exact h
    · exact r0_ok
theorem parseP_ok (t : List UInt8) : (parseP t).2.r.OK := by
  unfold parseP
  cases (splN 10 t 7).length != 7
  · cases (splN 10 t 7).getD 6 [] == []
    · exact r0_ok
    · exact outP_ok (goP_ok _ _ _ r0_ok)
  · exact r0_ok
theorem outP_fail {q : Int × PS} (h : (outP q).1 ≠ 0) : (outP q).2 = ⟨0, r0⟩ := by
  unfold outP at *
  cases e : q.1 == 0
  · rfl
  · rw [e, cond_true] at h
    cases e2 : q.2.r.valid != 0
    · rw [e2] at h; exact absurd rfl h
    · rfl
theorem parse_fail {t : List UInt8} (h : (parseP t).1 ≠ 0) : (parseP t).2 = ⟨0, r0⟩ := by
  unfold parseP at *
  cases e1 : (splN 10 t 7).length != 7
  · rw [e1, cond_false] at h
    rw [cond_false]
    cases e2 : (splN 10 t 7).getD 6 [] == []
    · rfl
    · rw [e2, Bool.not_true, cond_false] at h
      rw [Bool.not_true, cond_false]
      exact outP_fail h
  · rfl
theorem limbsK_le {l : List Nat} {k : Nat} (h : k ≤ val l) (hd : Dig l) : (limbsK k).length ≤ l.length := by
  rw [limbsK_eq]
  exact Nat.le_trans (nlen_mono h) (nlen_val hd)
theorem nQ_ok {q : Q3} (h : q.OK) : (nQ q.z q.d).OK := by
  have la := h.la
  have lb := h.lb
  refine ⟨by show Dig (limbsK _); rw [limbsK_eq]; exact dig_limbs _, by show Dig (limbsK _); rw [limbsK_eq]; exact dig_limbs _, ?_, ?_⟩
  · have := limbsK_le (k := (rn q.z q.d).natAbs) q.n_le h.da
    show (limbsK (rn q.z q.d).natAbs).length ≤ _
    omega
  · show (limbsK (rd q.z q.d)).length ≤ _
    have h1 : rd q.z q.d ≤ q.d := Nat.div_le_self _ _
    by_cases hb : val q.b = 0
    · have h2 : q.d = 1 := by unfold Q3.d pd; rw [if_pos hb]
      have h3 := nlen_mono (show rd q.z q.d ≤ 1 by omega)
      have h4 : nlen 1 = 1 := by decide +kernel
      rw [limbsK_eq]
      show nlen _ ≤ _
      omega
    · have h2 : q.d = val q.b := by unfold Q3.d pd; rw [if_neg hb]
      have := limbsK_le (k := rd q.z q.d) (l := q.b) (by omega) h.db
      omega
theorem nf_ok {r : Res} (h : r.OK) : r.nf.OK := ⟨nQ_ok h.m, nQ_ok h.v, h.lo, h.hi, h.sc, h.es, h.st, h.sp⟩
theorem printT_len {c : Int} {r : Res} (h : r.OK) (h1 : 1 ≤ c) (h2 : c ≤ 9999999) (hm : r.m.long = false) (hl : r.v.long = false) : (printT c r).length ≤ 4294967280 := by
  have l0 := idT_len (y := nCan) (k := 3) (c := c) rfl ⟨by omega, by omega⟩
  have l1 := Q3.tx_len hm
  have l2 := Q3.tx_len hl
  have l3 := itoa_l21 h.sc
  have l4 := itoa_l21 h.lo
  have l5 := itoa_l21 h.hi
  have l6 := itoa_l21 h.sp
  have l7 := itoa_l21 h.es
  have l8 := reason_len r.st
  unfold printT
  simp only [List.length_append, List.length_cons, List.length_nil]
  omega
theorem printE_cases (c : Int) (r : Res) : (printE c r = (printT c r, 0, ()) ∧ 1 ≤ c ∧ c ≤ 9999999 ∧ r.valid = 0 ∧ r.m.long = false ∧ r.v.long = false) ∨ ∃ e : Int, (e == 0) = false ∧ printE c r = ([], e, ()) := by
  unfold printE
  cases e1 : decide (c < 1)
  case true => exact .inr ⟨3, rfl, rfl⟩
  cases e2 : decide (9999999 < c)
  case true => exact .inr ⟨3, rfl, rfl⟩
  cases e3 : r.valid != 0
  case true => exact .inr ⟨r.valid, by rw [bne] at e3; simpa using e3, rfl⟩
  cases e4 : r.m.long
  case true => exact .inr ⟨5, rfl, rfl⟩
  cases e5 : r.v.long
  case true => exact .inr ⟨5, rfl, rfl⟩
  have e1 := of_decide_eq_false e1
  have e2 := of_decide_eq_false e2
  exact .inl ⟨rfl, by omega, by omega, by simpa using e3, rfl, rfl⟩
theorem same0_e : EF fuel 20 18 [vR r0, vR r0] gB = some (true, ()) := by kernel_rfl
theorem trip2 {t : List UInt8} (ht : t.length ≤ 4294967280) {α : Type} {X Y : α} {k1 k2 : TP → Option α} (h1 : ∀ e : Int, (e == 0) = false → k1 (tP 0 r0 e) = some X) (h2 : ∀ (c : Int) (r : Res), r.OK → printE c r = (t, 0, ()) → r.valid = 0 → k2 (tP c r 0) = some X) :
    ((EF fuel 20 16 [vS t] gPs).bind fun x => bif (x : TP).snd.snd.snd.snd.snd.snd.snd.snd.snd.snd.snd.snd.snd.fst != 0 then k1 x else k2 x) = some X := by
  rw [bind_go (parse_e 13 t ht)]
  dsimp only [tP]
  cases e : (parseP t).1 == 0
  · rw [show ((parseP t).1 != 0) = !((parseP t).1 == 0) from rfl, e, Bool.not_false, cond_true]
    have hne : (parseP t).1 ≠ 0 := fun h => by rw [h] at e; cases e
    have := h1 (parseP t).1 e
    rw [parse_fail hne]
    exact this
  · rw [show ((parseP t).1 != 0) = !((parseP t).1 == 0) from rfl, e, Bool.not_true, cond_false]
    have e := eq_of_beq e
    have hp : parseP t = (0, (parseP t).2) := by rw [← e]
    obtain ⟨g1, g2⟩ := parse_back hp
    have := h2 _ _ (parseP_ok t) g1 g2
    rw [e]
    exact this
theorem lawTrip (c : Int) (r : Res) (t : List UInt8) (hr : r.OK) (ht : t.length ≤ 4294967280) : EF fuel 21 6 [vI c, vR r, vS t] gB = some (true, ()) := by
  refine (lawTrip_m 20 c r.m.t r.m.a r.m.b r.v.t r.v.a r.v.b r.lo r.hi r.sc r.es r.st r.sp t).trans ?_
  refine congrArg (a₂ := some (Ans.ret (true, ()))) unwrapA ?_
  have p1 := print_e 15 c r hr
  rw [bind_go p1]
  have X1 : ∀ e : Int, (e == 0) = false → ((bif (tP 0 r0 e).fst == 0 then (EF fuel 20 18 [vR r0, vR r0] [Sg.c tB]).bind fun x => bif x.fst then (EF fuel 20 15 [] [Sg.c tB]).bind fun x => some (.ret (x.fst, ())) else some (.ret (false, ())) else some (.ret (false, ()))) : Option (Ans (denL gB.ts))) = some (.ret (true, ())) := by
    intro e he
    rw [show ((tP 0 r0 e).fst == 0) = true from rfl, cond_true, bind_go same0_e]
    dsimp only
    rw [cond_true, bind_go awake_e]
  have X2 : ∀ (c : Int) (r : Res), r.OK → printE c r = (t, 0, ()) → r.valid = 0 → (((EF fuel 20 9 [vI c, vR r] [Sg.c tS, Sg.c (tI)]).bind fun x_1 => bif x_1.fst == t then bif x_1.snd.fst == 0 then (EF fuel 20 11 [vR r] [Sg.c (tI)]).bind fun x => bif x.fst == 0 then (EF fuel 20 15 [] [Sg.c tB]).bind fun x => some (.ret (x.fst, ())) else some (.ret (false, ())) else some (.ret (false, ())) else some (.ret (false, ()))) : Option (Ans (denL gB.ts))) = some (.ret (true, ())) := by
    intro c r hr h1 h2
    have p2 := print_e 15 c r hr
    rw [h1] at p2
    have p3 := valid_e 16 r hr
    rw [h2] at p3
    rw [bind_go p2]
    dsimp only
    rw [beq_self_eq_true, cond_true, beq_self_eq_true, cond_true, bind_go p3]
    dsimp only
    rw [beq_self_eq_true, cond_true, bind_go awake_e]
  rcases printE_cases c r with ⟨h1, c1, c2, hv, hm, hl⟩ | ⟨e, he, h1⟩
  · have p4 := parse_e 13 (printT c r) (printT_len hr c1 c2 hm hl)
    rw [parse_print c1 c2 hv hm hl] at p4
    have p5 := same_e 18 r.nf r (nf_ok hr) hr
    rw [nf_same] at p5
    have p6 := valid_e 16 r hr
    rw [hv] at p6
    rw [h1]
    dsimp only
    rw [beq_self_eq_true, cond_true, bind_go p4]
    dsimp only [tP]
    rw [bne_self_eq_false, cond_false, bne_self_eq_false, cond_false, bind_go p5]
    dsimp only
    rw [Bool.not_true, cond_false, bind_go p6]
    dsimp only
    rw [bne_self_eq_false, cond_false]
    exact trip2 (Y := (Ans.ret (true, ()) : Ans (denL gB.ts))) ht X1 X2
  · rw [h1]
    dsimp only
    rw [he, cond_false, show (([] : List UInt8) == []) = true from rfl, Bool.not_true, cond_false]
    exact trip2 (Y := (Ans.ret (true, ()) : Ans (denL gB.ts))) ht X1 X2
theorem reportRoundTrip.law (as' : List AV) (h : OkA 1048576 [shI, shRes, .str] as') : AC 6 as' (boo true) := by
  obtain ⟨a, r1, rfl, h1, q1⟩ := okA_more h
  obtain ⟨b, r2, rfl, h2, q2⟩ := okA_more q1
  obtain ⟨d, rfl, h4⟩ := okA_one q2
  obtain ⟨z, rfl, hz⟩ := h1.i64
  obtain ⟨y, e2, y1⟩ := h2.res (by omega)
  obtain ⟨s, rfl, hs⟩ := h4.s
  rw [e2]
  exact E_calls (lawTrip z y s y1.ok (by omega)) rfl
end Go.Proofs.YtcggnmddcbhchaaGreatDoor
set_option linter.unusedSimpArgs false
set_option linter.unusedVariables false
namespace Go.Proofs.YtcggnmddcbhchaaGreatDoor
open Go.ChangeShapes Go.WideShapes Go.ChangeAt Go.RowKit Lim
def strD {H : Type} (ss : List (List UInt8)) : DataW H := .agg (ss.map fun s => .lit (.string s))
theorem cells_of_strs {H : Type} {enc : TypeId × Value → H} {P : Program} {w : World} {base : Nat} {sp : Nat → Bool} {held : Bool} {fuel : Nat} {t e : TypeId} {n : Nat} {cs : List Value} {ss : List (List UInt8)} {p : List MemPlace}
    (ht : P.underlying t = some (.array n e)) (he : P.underlying e = some .string) (hce : P.cellsOf e = 1)
    (h : DataW.trod enc P w base sp held fuel t cs = some (strD ss, p)) (i : Nat) (s : List UInt8) (hs : ss[i]? = some s) : cs[i]? = some (.string ⟨s.toArray⟩) := by
  cases fuel with
  | zero => simp [DataW.trod] at h
  | succ fuel =>
    simp only [DataW.trod, ht, hce, Nat.mul_one] at h
    split at h
    · obtain ⟨xs, hm, hx⟩ := Option.map_eq_some_iff.1 h
      have hxs : xs.map (·.1) = ss.map fun s => (DataW.lit (.string s) : DataW H) := by
        have := congrArg Prod.fst hx
        simpa [strD] using this
      have hxl : xs.length = n := by simpa using Lib.mapM_length hm
      have hzl : ss.length = n := by
        have := congrArg List.length hxs
        simp at this
        omega
      have hi : i < n := by
        rw [← hzl]
        exact (List.getElem?_eq_some_iff.1 hs).1
      obtain ⟨b, hb, hf⟩ := Lib.mapM_at hm i i (by simp [hi])
      obtain ⟨z, hc, rfl, _⟩ := DataW.trod_string he hf
      have h1 : cs[i]? = some (.string z) := by
        have := congrArg (·[0]?) hc
        simpa [List.getElem?_take, List.getElem?_drop] using this
      have h2 : (xs.map (·.1))[i]? = some (DataW.lit (.string z.data.toList) : DataW H) := by simp [hb]
      rw [hxs, List.getElem?_map, hs] at h2
      simp only [Option.map_some, Option.some.injEq, DataW.lit.injEq, Lit.string.injEq] at h2
      rw [h1, h2]
    · cases h
theorem strs_of_head {P : Program} {W : World} {name : String} {ss : List (List UInt8)} {rest : List (String × DataW Unit)} {g : Nat} {t e : TypeId} {n : Nat}
    (hg : P.globalNamed name = some g) (hty : (P.globals[g]?).map (·.type) = some t) (ht : P.underlying t = some (.array n e)) (he : P.underlying e = some .string) (hce : P.cellsOf e = 1)
    (h : laidMet P ((name, strD ss) :: rest) W) (i : Nat) (s : List UInt8) (hs : ss[i]? = some s) : W.cell? ⟨g, i, none⟩ = some (.string ⟨s.toArray⟩) := by
  obtain ⟨ps, ⟨g', t', cs, fuel, p, q, hg', ht', hvar, hd, _, _⟩, _⟩ := h
  obtain rfl := Option.some.inj (hg.symm.trans hg')
  obtain rfl := Option.some.inj (hty.symm.trans ht')
  rw [World.var?_cell hg hvar i]
  simpa using cells_of_strs ht he hce hd i s hs
theorem glob_of {W : World} {rest : List (String × DataW Unit)} (h : laidMet Tryz.prog (("examboard/ident.prefixes", strD [[73, 84, 77], [70, 82, 77], [67, 65, 78], [83, 69, 83], [82, 65, 84], [65, 83, 84]]) :: rest) W) : GlobOK W := by
  intro g cs hg q v hv
  unfold globT at hg
  cases hb : Nat.beq g 0 with
  | false => rw [hb] at hg; cases hg
  | true =>
    rw [hb] at hg
    cases hg
    have hb := Nat.eq_of_beq_eq_true hb
    subst hb
    have key := strs_of_head (g := 0) (t := 97) (e := 9) (n := 6) (by kernel_rfl) (by kernel_rfl) Tryz.underlying97 Tryz.underlying9 (by kernel_rfl) h q
    rcases q with _ | _ | _ | _ | _ | _ | q
    · cases hv; exact ⟨key _ rfl, rfl⟩
    · cases hv; exact ⟨key _ rfl, rfl⟩
    · cases hv; exact ⟨key _ rfl, rfl⟩
    · cases hv; exact ⟨key _ rfl, rfl⟩
    · cases hv; exact ⟨key _ rfl, rfl⟩
    · cases hv; exact ⟨key _ rfl, rfl⟩
    · simp at hv
end Go.Proofs.YtcggnmddcbhchaaGreatDoor
