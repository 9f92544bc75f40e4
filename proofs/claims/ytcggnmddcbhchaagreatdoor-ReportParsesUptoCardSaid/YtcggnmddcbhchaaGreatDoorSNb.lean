import Derived.Test.YtcggnmddcbhchaaGreatDoorSNa
import Derived.Test.YtcggnmddcbhchaaGreatDoorSShelf
import Derived.Deep.LoopGhost
import Derived.Deep.RegionHeld3
import Derived.Deep.DrawnRows
/- Text Nb. -/
set_option linter.unusedSimpArgs false
set_option linter.unusedVariables false
namespace Go.Proofs.YtcggnmddcbhchaaGreatDoor
open Go.RowKit Lim
theorem bitLenAux_facts (f : Nat) : ∀ x, x < 2 ^ f → x < 2 ^ Go.Lib.bitLenAux f x ∧ (x ≠ 0 → 2 ^ (Go.Lib.bitLenAux f x - 1) ≤ x ∧ 1 ≤ Go.Lib.bitLenAux f x) ∧ Go.Lib.bitLenAux f x ≤ f := by
 induction f with
 | zero =>
  intro x hx
  simp at hx
  subst hx
  simp [Go.Lib.bitLenAux]
 | succ f ih =>
  intro x hx
  unfold Go.Lib.bitLenAux
  by_cases h0 : x = 0
  ·subst h0; simp
  ·rw [if_neg h0]
   have hp : 2 ^ (f + 1) = 2 * 2 ^ f := by rw [Nat.pow_succ]; omega
   obtain ⟨h1, h2, h3⟩ := ih (x / 2) (by omega)
   have e : 2 ^ (1 + Go.Lib.bitLenAux f (x / 2)) = 2 * 2 ^ Go.Lib.bitLenAux f (x / 2) := by rw [Nat.add_comm, Nat.pow_succ]; omega
   refine ⟨by omega, fun _ => ⟨?_, by omega⟩, by omega⟩
   rw [Nat.add_sub_cancel_left]
   by_cases h4 : x / 2 = 0
   ·rw [h4] at *
    have : Go.Lib.bitLenAux f 0 = 0 := by cases f <;> simp [Go.Lib.bitLenAux]
    rw [this]; omega
   ·obtain ⟨h5, h6⟩ := h2 h4
    have e2 : 2 ^ Go.Lib.bitLenAux f (x / 2) = 2 * 2 ^ (Go.Lib.bitLenAux f (x / 2) - 1) := by
     rw [show Go.Lib.bitLenAux f (x / 2) = (Go.Lib.bitLenAux f (x / 2) - 1) + 1 from by omega, Nat.pow_succ, Nat.add_sub_cancel]; omega
    omega
theorem lz_any (b : Nat) (h0 : 0 < b) (hb : b < 4294967296) : ∃ s : Nat, s < 32 ∧ (b + 1) * 2 ^ s ≤ 4294967296 ∧ 2147483648 ≤ b * 2 ^ s ∧ 2 ^ s ≤ 2147483648 ∧
  ∀ w : World, Calls Tryz.prog 229 #[.int .u32 (b : Int)] w fun e w' => e = .returned (.int .i64 (s : Int)) ∧ w = w' := by
 obtain ⟨h1, h2, _⟩ := bitLenAux_facts 64 b (by omega)
 obtain ⟨h3, h4⟩ := h2 (by omega)
 have h5 : Go.Lib.bitLenAux 64 b ≤ 32 := by
  rcases Nat.lt_or_ge 32 (Go.Lib.bitLenAux 64 b) with h | h
  ·have := Nat.pow_le_pow_right (show 0 < 2 by omega) (show 32 ≤ Go.Lib.bitLenAux 64 b - 1 by omega)
   omega
  ·exact h
 obtain ⟨f1, f2, f3⟩ := shift_facts h0 h3 h1 h4 h5
 refine ⟨32 - Go.Lib.bitLenAux 64 b, by omega, f1, f2, f3, fun w => ?_⟩
 refine (Tryz.bits_LeadingZeros32 (b : Int) w (by omega) (by omega)).mono ?_
 rintro e w' ⟨rfl, rfl⟩
 refine ⟨ret_int ?_, rfl⟩
 unfold Go.Lib.bitLen
 rw [Int.toNat_natCast]
 omega
def DlgRel (w wr : World) (gD gR gQ n1 n2 s la m k : Nat) (V : List Nat) : Prop :=
 ∃ R q : List Nat, R.length = la + 1 ∧ q.length + k = la - (m + 1) ∧ Dv (n1 * s) (n2 * s) R q k ∧ Blk wr gR R ∧ Blk wr gQ (List.replicate k 0 ++ q) ∧ Rd wr (some ⟨gD, 0, none⟩) V ∧ Below w.heap.size w wr
theorem part_get (R : List Nat) (j n i : Nat) (hi : i < n) : ((R.drop j).take n).getD i 0 = R.getD (j + i) 0 := by
 simp [List.getElem?_take, hi]
theorem Blk.cellD {w : World} {g : Nat} {l : List Nat} (h : Blk w g l) {i : Nat} (hi : i < l.length) : w.cell? ⟨g, i, none⟩ = some (.int .u32 ((l.getD i 0 : Nat) : Int)) := by
 rw [getD_of hi rfl]; exact h.cell hi
theorem Rd.cellD {w : World} {b off : Nat} {l : List Nat} (h : Rd w (some ⟨b, off, none⟩) l) {i : Nat} (hi : i < l.length) : w.cell? ⟨b, off + i, none⟩ = some (.int .u32 ((l.getD i 0 : Nat) : Int)) := by
 obtain ⟨b', o', e, _, hc⟩ := h.at_ hi
 injection e with e
 injection e with e1 e2
 subst e1 e2
 rw [getD_of hi rfl]; exact hc
theorem zeros_cell {w : World} {g j : Nat} {q : List Nat} (h : Blk w g (List.replicate (j + 1) 0 ++ q)) : w.cell? ⟨g, j, none⟩ = some (.int .u32 0) ∧ w.frozen? ⟨g, j, none⟩ = false := by
 have h1 := h.cell (i := j) (by simp; omega)
 rw [List.getElem_append_left (by simp)] at h1
 simp at h1
 exact ⟨h1, h.frozen _⟩
theorem zeros_set (j d : Nat) (q : List Nat) : (List.replicate (j + 1) 0 ++ q).set j d = List.replicate j 0 ++ d :: q := by
 rw [List.replicate_succ', List.append_assoc, List.set_append_right _ _ (by simp)]
 simp
theorem DlgRel.store {w wr : World} {gD gR gQ n1 n2 s la m j d : Nat} {V R q : List Nat} (lR : R.length = la + 1) (lq : q.length + (j + 1) = la - (m + 1)) (hdv : Dv (n1 * s) (n2 * s) R (d :: q) j) (hbR : Blk wr gR R) (hbQ : Blk wr gQ (List.replicate (j + 1) 0 ++ q)) (hrV : Rd wr (some ⟨gD, 0, none⟩) V) (hbe : Below w.heap.size w wr)
  (h1 : gR ≠ gQ) (h2 : gD ≠ gQ) (h3 : w.heap.size ≤ gQ) {u : Int} (hu : u = (d : Int)) : DlgRel w (wr.setCell ⟨gQ, j, none⟩ (.int .u32 u)) gD gR gQ n1 n2 s la m j V := by
 refine ⟨R, d :: q, lR, by simp; omega, hdv, hbR.far h1 _, ?_, hrV.only ((Only.refl gQ wr).setCell _ _) h2, hbe.setCell h3 _⟩
 have := hbQ.set j d hu
 rw [zeros_set] at this
 exact this
theorem split_mid (R : List Nat) (j n : Nat) : R.take j ++ (R.drop j).take n ++ R.drop (j + n) = R := by
 rw [List.append_assoc, ← List.drop_drop, List.take_append_drop, List.take_append_drop]
set_option maxHeartbeats 4000000 in
theorem divLong_any (A1 A2 : Option Addr) (c1 c2 n1 n2 : Nat) (w : World) (h1 : In w A1 c1 (limbs n1) n1) (h2 : In w A2 c2 (limbs n2) n2) (hle : n2 ≤ n1) (hlen : 2 ≤ (limbs n2).length) :
  Calls Tryz.prog 211 #[.slice A1 (limbs n1).length c1, .slice A2 (limbs n2).length c2] w fun e w' => ∃ B1 d1 B2 d2, e = .returned (.tuple #[.slice B1 (limbs (n1 / n2)).length d1, .slice B2 (limbs (n1 % n2)).length d2]) ∧ Out w' B1 d1 (n1 / n2) ∧ Out w' B2 d2 (n1 % n2) ∧ Below w.heap.size w w' := by
 obtain ⟨m, hm⟩ : ∃ m, (limbs n2).length = m + 2 := ⟨(limbs n2).length - 2, by omega⟩
 obtain ⟨la, hla⟩ : ∃ la, (limbs n1).length = la := ⟨_, rfl⟩
 have hge : m + 2 ≤ la := by rw [← hm, ← hla]; exact nlen_mono hle
 have k1 : la < 1099511627776 := by rw [← hla]; exact h1.lim
 obtain ⟨b, hb⟩ : ∃ b, (limbs n2)[m + 1]'(by omega) = b := ⟨_, rfl⟩
 have hb0 : 0 < b := by
  have := nrm_limbs n2 (by omega)
  have e : (limbs n2)[(limbs n2).length - 1]'(by omega) = (limbs n2)[m + 1]'(by omega) := by congr 1; omega
  rw [e, hb] at this
  omega
 have hbb : b < 4294967296 := by rw [← hb]; exact dig_get (dig_limbs n2) (by omega)
 obtain ⟨b2, o2, rfl, hlt2, hcb⟩ := h2.rd.at_ (show m + 1 < (limbs n2).length by omega)
 rw [hb] at hcb
 obtain ⟨s, hs32, hs1, hs2, hs3, hlz⟩ := lz_any b hb0 hbb
 have hs0 := Nat.two_pow_pos s
 have hn2 : n2 = val ((limbs n2).take (m + 1)) + pw (m + 1) * b := by
  have := val_last (l := limbs n2) (n := m + 1) (by omega)
  rw [val_limbs, getD_of (by omega) hb] at this
  exact this
 have hlow := val_take_lt (dig_limbs n2) (n := m + 1) (by omega)
 have hn2a : b * pw (m + 1) ≤ n2 := by rw [hn2, Nat.mul_comm]; omega
 have hn2b : n2 < (b + 1) * pw (m + 1) := by rw [Nat.add_mul, Nat.one_mul, Nat.mul_comm b]; omega
 clear hn2 hlow
 have hn1 : n1 < pw la := by rw [← hla]; exact lt_nlen n1
 have hB := Lib.hid hb; clear hb
 have hM := Lib.hid hm
 have hLA := Lib.hid hla
 have hmk := made (la - (m + 2) + 1) (by omega)
 rw [show ((la - (m + 2) + 1 : Nat) : Int) = (la : Int) - ((m : Int) + 2) + 1 from by omega] at hmk
 have c2' : m + 2 ≤ c2 := by rw [← hm]; exact h2.cap
 have T1 := Lib.hid (fun W h => shiftLeft_any A1 c1 n1 s (limbs n1) W h hs32)
 have T2 := Lib.hid (fun W h => shiftLeft_any (some ⟨b2, o2, none⟩) c2 n2 s (limbs n2) W h hs32)
 rw [hla] at T1 ⊢
 rw [hm] at T2 ⊢
 clear hB hm hla
 have HLZ := Lib.hid hlz; clear hlz
 go_enter Tryz.func211, Tryz.ntmps211
 go_wp2_with fail
 refine (HLZ.out _).mono ?_
 rintro e w' ⟨rfl, rfl⟩
 go_wp2_with fail
 refine (T2.out _ h2).mono ?_
 rintro e w1 ⟨rfl, D, lD, dD, bD, vD, hb1⟩
 obtain ⟨eV, nV⟩ := norm_divisor (m := m + 1) dD lD vD hn2a hn2b hs1 hs2 hs0
 obtain ⟨V, hVd⟩ : ∃ V, D.take (m + 1 + 1) = V := ⟨_, rfl⟩
 rw [hVd] at eV nV
 have lV : V.length = m + 2 := by rw [← hVd]; simp; omega
 have dV : Dig V := by rw [← hVd]; exact dig_take dD _
 have rV : Rd w1 (some ⟨w.heap.size, 0, none⟩) V := by rw [← hVd]; exact (bD.rd dD).take _
 have vV : n2 * 2 ^ s < pw (m + 2) := by rw [← eV, ← lV]; exact val_lt dV
 have gt1 := bD.lt
 have EV := Lib.hid eV
 have LV := Lib.hid lV
 clear eV lV hVd lD vD
 go_wp2_with fail
 refine (T1.out _ (h1.keep hb1)).mono ?_
 rintro e w2 ⟨rfl, R0, lR, dR, bR, vR, hb2⟩
 have gt2 := bR.lt
 have vlow : 2147483648 * pw (m + 1) ≤ n2 * 2 ^ s := by
  have e := val_last (l := V) (n := m + 1) LV.out
  rw [EV.out] at e
  have := Nat.mul_le_mul_left (pw (m + 1)) nV
  rw [Nat.mul_comm] at this
  omega
 have hst := Lib.hid (Dv.start (n1 := n1) (n2 := n2) (s := 2 ^ s) (k := la - (m + 1)) (n := m + 1) dR vR hn1 hs3 (by omega) vlow (by omega) hs0)
 have LR := Lib.hid lR
 clear lR vR vlow
 go_wp2_with fail
 go_loopw [11] (fun i wr => ∃ k : Nat, k ≤ la - (m + 1) ∧ i = .int .i64 ((k : Int) - 1) ∧ DlgRel w wr w.heap.size w1.heap.size w2.heap.size n1 n2 (2 ^ s) la m k V) (fun i _ => (intOf i + 1).toNat)
 case atStart =>
  have e : la - (m + 2) + 1 = la - (m + 1) := by omega
  refine ⟨la - (m + 1), Nat.le_refl _, vint (by omega), R0, [], LR.out, by simp, hst.out, bR.alloc _, ?_, (rV.keep hb2).keep ((Below.refl _ _).alloc (Nat.le_refl _) _), ((hb1.trans (hb2.mono (by omega)))).alloc (by omega) _⟩
  rw [List.append_nil, ← e]
  exact Blk.new w2 _
 case round =>
  obtain ⟨k, hk, rfl, hrel⟩ := hrel
  obtain ⟨R, q, lR, lq, hdv, hbR, hbQ, hrV, hbe⟩ := hrel
  have LR2 := Lib.hid lR
  have LQ := Lib.hid lq
  clear lR lq
  rcases Nat.eq_zero_or_pos k with h0 | h0
  ·subst h0
   obtain ⟨fq, fr⟩ := hdv.last (n := m + 2) hs0 vV (by have := LR2.out; omega)
   have lq : q.length = la - (m + 2) + 1 := by have := LQ.out; omega
   have hq := hbQ.rd (dig_append.2 ⟨dig_replicate _, hdv.digq⟩)
   simp only [List.replicate_zero, List.nil_append] at hq
   have lT : (R.take (m + 2)).length = m + 2 := by have := LR2.out; simp; omega
   have HQ := Lib.hid (fun (W : World) (hW : Below wr.heap.size wr W) => trim_raw _ (la - (m + 2) + 1) q (n1 / n2) W ⟨hq.keep hW, by omega, by omega, fq⟩ _ rfl)
   have HO := Lib.hid (fun (W : World) (hW : Below wr.heap.size wr W) => Raw.trim (n := n1 / n2) (c := la - (m + 2) + 1) ⟨hq.keep hW, by omega, by omega, fq⟩)
   have HS := Lib.hid (fun (W : World) (hW : Below wr.heap.size wr W) => shiftRight_any _ (la + 1) _ s (R.take (m + 2)) W ⟨((hbR.rd hdv.dig).take _).keep hW, by omega, by omega, rfl⟩ hs32)
   have HT := Lib.hid (fun (W : World) (A : Option Addr) (l : List Nat) (hl : l.length = m + 2) (hr : Raw W A (m + 2) l (n1 % n2)) => hl ▸ trim_raw A (m + 2) l (n1 % n2) W hr _ rfl)
   rw [lq] at HQ
   rw [lT, fr] at HS
   clear fq fr lq lT hq
   go_wp2_with fail
   go_region_with (first
    | (go_at_call 234; (with_reducible refine (HS.out _ ?_).mono ?_); exact (Below.refl _ _).drew; rintro e w6 ⟨rfl, l6, ll6, hr5, hb6⟩; have hr6 : Raw w6 (some ⟨wr.heap.size, 0, none⟩) (m + 2) l6 (n1 % n2) := hr5; clear hr5)
    | (go_at_call 124; (with_reducible refine (HQ.out _ ?_).mono ?_); (first | exact (Below.refl _ _).drew | exact (Below.refl _ _).drew.trans hb6); rintro e w7 ⟨rfl, rfl⟩)
    | (go_at_call 124; (with_reducible refine (HT.out _ _ _ ll6 hr6).mono ?_); rintro e w7 ⟨rfl, rfl⟩))
   all_goals (go_wp2; go_ret2; have hbb6 : Below wr.heap.size wr w6 := (Below.refl wr.heap.size wr).drew.trans hb6; exact ⟨_, _, _, _, rfl, HO.out _ hbb6, hr6.trim, hbe.trans (hbb6.mono hbe.size)⟩)
  ·obtain ⟨j, rfl⟩ : ∃ j, k = j + 1 := ⟨k - 1, by omega⟩
   rw [show (((j + 1 : Nat) : Int) - 1) = (j : Int) from by omega]
   have hne1 : ¬ la + 1 = j := by omega
   obtain ⟨p, hp⟩ : ∃ p, (R.drop j).take (m + 2 + 1) = p := ⟨_, rfl⟩
   have hRl : R.length = la + 1 := LR2.out
   have lp : p.length = m + 3 := by rw [← hp]; simp; omega
   have dp : Dig p := by rw [← hp]; exact dig_take (dig_drop hdv.dig _) _
   obtain ⟨hz, hval, hUlt⟩ := hdv.part (n := m + 2) vV (by omega)
   rw [hp] at hval hUlt
   have hT := top_of dp dV lp LV.out nV (by rw [EV.out]; exact hUlt)
   have pg : ∀ i, i < m + 3 → p.getD i 0 = R.getD (j + i) 0 := fun i hi => by rw [← hp]; exact part_get R j _ i hi
   have e0 : wr.cell? ⟨w1.heap.size, j + (m + 2), none⟩ = some (.int .u32 ((p.getD (m + 2) 0 : Nat) : Int)) := by rw [pg _ (by omega)]; exact hbR.cellD (by omega)
   have e1 : wr.cell? ⟨w1.heap.size, j + (m + 1), none⟩ = some (.int .u32 ((p.getD (m + 1) 0 : Nat) : Int)) := by rw [pg _ (by omega)]; exact hbR.cellD (by omega)
   have e2 : wr.cell? ⟨w1.heap.size, j + m, none⟩ = some (.int .u32 ((p.getD m 0 : Nat) : Int)) := by rw [pg _ (by omega)]; exact hbR.cellD (by omega)
   have e3 : wr.cell? ⟨w.heap.size, 0 + (m + 1), none⟩ = some (.int .u32 ((V.getD (m + 1) 0 : Nat) : Int)) := hrV.cellD (by rw [LV.out]; omega)
   have e4 : wr.cell? ⟨w.heap.size, 0 + m, none⟩ = some (.int .u32 ((V.getD m 0 : Nat) : Int)) := hrV.cellD (by rw [LV.out]; omega)
   have hest := estimate_any w1.heap.size j (la + 1 - j) w.heap.size 0 (m + 2 + 1) m wr hT (by omega) e0 e1 e2 e3 e4
   have HEST := Lib.hid hest
   clear hest pg e0 e1 e2 e3 e4
   have lpre : (R.take j).length = j := by simp; omega
   have hsp : Blk wr w1.heap.size (R.take j ++ p ++ R.drop (j + (m + 2) + 1)) := by
    rw [← hp, show j + (m + 2) + 1 = j + (m + 2 + 1) from by omega, split_mid]; exact hbR
   have LP := Lib.hid lp
   have LPRE := Lib.hid lpre
   have HP := Lib.hid hp
   have HZ := Lib.hid hz
   have HVAL := Lib.hid hval
   clear lp lpre hp hz hval hRl
   go_wp2_with fail
   rw [show j + (m + 2) + 1 - j = m + 3 from by omega]
   refine HEST.out.mono ?_
   rintro e w3 ⟨d, rfl, hnear, nn, rfl⟩
   have hdb := hnear.2.2
   by_cases hfit : d * val V ≤ val p
   ·have hsub := subtract_no w1.heap.size w.heap.size 0 (la + 1 - j) (m + 2 + 1) d (R.take j) p (R.drop (j + (m + 2) + 1)) V (wr.drewN nn) hsp dp (by rw [LP.out, LV.out]) (by omega) hrV (by rw [LV.out]; omega) hdb (by rw [LV.out]; omega) hfit
    rw [LPRE.out, LV.out] at hsub
    have HSUB := Lib.hid hsub; clear hsub
    have HFIT := Lib.hid hfit; clear hfit
    go_wp2_with fail
    rw [show j + (m + 2) + 1 - j = m + 3 from by omega]
    refine HSUB.out.mono ?_
    rintro e w4 ⟨rfl, p', lp', dp', bp', vp', ho⟩
    have ho' : Only w1.heap.size wr w4 := ho.ofDrewN
    have hq4 := hbQ.only ho' (by omega)
    obtain ⟨hst1, hst2⟩ := zeros_cell hq4
    have hst3 := Lib.hid (fun (u : Int) => DlgRel.store (u := u) (m := m) (w := w) (gD := w.heap.size) (gR := w1.heap.size) (gQ := w2.heap.size) (V := V) (R := R.take j ++ p' ++ R.drop (j + (m + 2) + 1)) (d := d) (n1 := n1) (n2 := n2) (s := 2 ^ s) (la := la)
     (by have := LR2.out; have := LP.out; simp; omega) LQ.out
     (hdv.step (n := m + 2) vV (by have := LR2.out; omega) dp' (by rw [lp', LP.out]) hdb (by rw [HP.out, vp', EV.out]; have := HFIT.out; rw [EV.out] at this; omega)
      (by
       rcases hnear.eq_or with ⟨_, _, h⟩ | ⟨h, _⟩
       ·rw [vp', ← h, ← EV.out]; exact Nat.mod_lt _ (by rw [EV.out]; have := hdv.top; omega)
       ·have := HFIT.out; omega))
     bp' hq4 (hrV.only ho' (by omega)) (hbe.trans (ho'.below (by omega))) (by omega) (by omega) (by omega))
    clear lp' vp'
    go_wp2
    go_roundw
    case rel => exact ⟨j, by omega, rfl, hst3.out _ (by omega)⟩
    case measure => simp [intOf]
   ·have hsub := subtract_yes w1.heap.size w.heap.size 0 (la + 1 - j) (m + 2 + 1) d (R.take j) p (R.drop (j + (m + 2) + 1)) V (wr.drewN nn) hsp dp (by rw [LP.out, LV.out]) (by omega) hrV (by rw [LV.out]; omega) hdb (by rw [LV.out]; omega) (by omega)
    rw [LPRE.out, LV.out] at hsub
    have HSUB := Lib.hid hsub; clear hsub
    have HFIT := Lib.hid (show val p < d * val V by omega)
    have hd1 : 1 ≤ d := by
     rcases Nat.eq_zero_or_pos d with h0 | h0
     ·subst h0; omega
     ·exact h0
    clear hfit
    go_wp2_with fail
    rw [show j + (m + 2) + 1 - j = m + 3 from by omega]
    refine HSUB.out.mono ?_
    rintro e w4 ⟨rfl, p', lp', dp', bp', vp', ho⟩
    have hadd := addBack_any w1.heap.size w.heap.size 0 (la + 1 - j) (m + 2 + 1) (R.take j) p' (R.drop (j + (m + 2) + 1)) V w4 bp' dp' (by rw [lp', LP.out, LV.out]) (by omega) (hrV.only ho.ofDrewN (by omega)) (by rw [LV.out]; omega) (by rw [LV.out]; omega)
    rw [LPRE.out, LV.out] at hadd
    have HADD := Lib.hid hadd; clear hadd
    have LP' := Lib.hid lp'
    have VP' := Lib.hid vp'
    clear lp' vp'
    go_wp2_with fail
    rw [show j + (m + 2) + 1 - j = m + 3 from by omega]
    refine HADD.out.mono ?_
    rintro e w5 ⟨rfl, p2, lp2, dp2, bp2, vp2, ho2⟩
    have ho' : Only w1.heap.size wr w5 := ho.ofDrewN.trans ho2
    have hq4 := hbQ.only ho' (by omega)
    obtain ⟨hst1, hst2⟩ := zeros_cell hq4
    have hrem : val p2 = val p % val V ∧ d - 1 = val p / val V := by
     obtain ⟨kk, hkk⟩ := vp2
     refine back_eq VP'.out (k := kk) (by rw [LP'.out] at hkk; exact hkk) hnear HFIT.out ?_ ?_
     ·have := val_lt dp2; rw [lp2, LP'.out] at this; exact this
     ·rw [EV.out]
      have h2 := pw_mono (a := m + 2) (b := p.length) (by have := LP.out; omega)
      omega
    have hst3 := Lib.hid (fun (u : Int) => DlgRel.store (u := u) (m := m) (w := w) (gD := w.heap.size) (gR := w1.heap.size) (gQ := w2.heap.size) (V := V) (R := R.take j ++ p2 ++ R.drop (j + (m + 2) + 1)) (d := d - 1) (n1 := n1) (n2 := n2) (s := 2 ^ s) (la := la)
     (by have := LR2.out; have := LP.out; have := LP'.out; simp; omega) LQ.out
     (hdv.step (n := m + 2) vV (by have := LR2.out; omega) dp2 (by rw [lp2, LP'.out, LP.out]) (by omega)
      (by rw [HP.out, hrem.1, hrem.2, ← EV.out, Nat.mul_comm, Nat.add_comm]; exact Nat.div_add_mod _ _)
      (by rw [hrem.1, ← EV.out]; exact Nat.mod_lt _ (by rw [EV.out]; have := hdv.top; omega)))
     bp2 hq4 (hrV.only ho' (by omega)) (hbe.trans (ho'.below (by omega))) (by omega) (by omega) (by omega))
    clear lp2 vp2 hrem
    go_wp2
    go_roundw
    case rel => exact ⟨j, by omega, rfl, hst3.out _ (by omega)⟩
    case measure => simp [intOf]
end Go.Proofs.YtcggnmddcbhchaaGreatDoor
namespace Go.Proofs.YtcggnmddcbhchaaGreatDoor
open Go.RowKit Lim
theorem In.limbs {w : World} {A : Option Addr} {c n : Nat} {l : List Nat} (h : In w A c l n) : In w A c (limbs n) n := h.trim.toIn h.nlen
def DivOut (w w' : World) (e : Ending) (n1 n2 : Nat) : Prop :=
 ∃ B1 d1 B2 d2, e = .returned (.tuple #[.slice B1 (limbs (n1 / n2)).length d1, .slice B2 (limbs (n1 % n2)).length d2, .bool true]) ∧ Out w' B1 d1 (n1 / n2) ∧ Out w' B2 d2 (n1 % n2) ∧ Below w.heap.size w w'
set_option maxHeartbeats 1000000 in
theorem divmod_lt (A1 A2 : Option Addr) (c1 c2 n1 n2 : Nat) (l1 l2 : List Nat) (w : World) (h1 : In w A1 c1 l1 n1) (h2 : In w A2 c2 l2 n2) (hlt : n1 < n2) :
  Calls Tryz.prog 174 #[.slice A1 l1.length c1, .slice A2 l2.length c2] w fun e w' => DivOut w w' e n1 n2 := by
 have i1 := h1.limbs
 have i2 := h2.limbs
 have hz : (((limbs n2).length : Int) == 0) = false := by
  have h0 : nlen n2 ≠ 0 := fun h => by have := nlen_eq_zero.1 h; omega
  simpa [nlen] using h0
 have hc := cmpI_lt hlt
 go_enter Tryz.func174, Tryz.ntmps174
 go_wp2_with (first | (go_at_call 124; (first | (with_reducible refine (trim_in _ _ _ _ _ h1 _ rfl).mono ?_) | (with_reducible refine (trim_in _ _ _ _ _ h2 _ rfl).mono ?_)); rintro e w' ⟨rfl, rfl⟩) | (go_at_call 62; (with_reducible refine (cmp_any _ _ _ _ _ _ _ _ _ i1 i2).mono ?_); rintro e w' ⟨rfl, m, rfl⟩) | (go_at_call 96; (with_reducible refine (norm_any _ _ _ _ _ (i1.keep (below_drewN (Below.refl _ _) _))).mono ?_); rintro e w' ⟨B2, d2, rfl, ho, hb⟩))
 go_ret3
 have e1 : n1 / n2 = 0 := Nat.div_eq_of_lt hlt
 have e2 : n1 % n2 = n1 := Nat.mod_eq_of_lt hlt
 refine ⟨none, 0, B2, d2, ?_, ?_, ?_, (below_drewN (Below.refl _ _) m).trans hb⟩
 ·rw [e1, e2, limbs_zero]; rfl
 ·rw [e1]; exact Out.zero _ _ _
 ·rw [e2]; exact ho
set_option maxHeartbeats 1000000 in
theorem divmod_one (A1 A2 : Option Addr) (c1 c2 n1 n2 : Nat) (l1 l2 : List Nat) (w : World) (h1 : In w A1 c1 l1 n1) (h2 : In w A2 c2 l2 n2) (hge : n2 ≤ n1) (hl : (limbs n2).length = 1) :
  Calls Tryz.prog 174 #[.slice A1 l1.length c1, .slice A2 l2.length c2] w fun e w' => DivOut w w' e n1 n2 := by
 have i1 := h1.limbs
 have i2 := h2.limbs
 have hc : ¬ cmpI n1 n2 < 0 := by unfold cmpI; rw [if_neg (by omega)]; split <;> omega
 obtain ⟨b2, o2, rfl, hlt2, hcb⟩ := i2.rd.at_ (show 0 < (limbs n2).length by omega)
 have hv : (limbs n2)[0]'(by omega) = n2 := by
  have h := val_limbs n2
  have : ∀ l : List Nat, (hl : l.length = 1) → val l = l[0]'(by omega) := by
   intro l hl
   match l, hl with
   | [x], _ => simp [val]
  rw [this _ hl] at h
  exact h
 rw [hv] at hcb
 have hb2 : n2 < 4294967296 := by rw [← hv]; exact dig_get (dig_limbs n2) _
 have hpos : 0 < n2 := by
  rcases Nat.eq_zero_or_pos n2 with h0 | h0
  ·subst h0; rw [limbs_zero] at hl; simp at hl
  ·exact h0
 have hlim0 : n1 % n2 < 18446744073709551616 := by have := Nat.mod_lt n1 hpos; omega
 have hz : (((limbs n2).length : Int) == 0) = false := by rw [hl]; rfl
 have h1e : (((limbs n2).length : Int) == 1) = true := by rw [hl]; rfl
 have hp0 : 0 < (limbs n2).length := by omega
 rw [Nat.add_zero] at hcb
 clear hv hl
 go_enter Tryz.func174, Tryz.ntmps174
 go_wp2_with (first | (go_at_call 124; (first | (with_reducible refine (trim_in _ _ _ _ _ h1 _ rfl).mono ?_) | (with_reducible refine (trim_in _ _ _ _ _ h2 _ rfl).mono ?_)); rintro e w' ⟨rfl, rfl⟩) | (go_at_call 62; (with_reducible refine (cmp_any _ _ _ _ _ _ _ _ _ i1 i2).mono ?_); rintro e w' ⟨rfl, m, rfl⟩) | (go_at_call 125; (with_reducible refine (divLimb_any _ _ _ _ _ _ (i1.keep (below_drewN (Below.refl _ _) _)) hpos hb2).mono ?_); rintro e w' ⟨B1, d1, r, rfl, hr, ho, hb⟩; have hlim : r < 18446744073709551616 := by rw [hr.out]; exact hlim0) | (go_at_call 63; (with_reducible refine (of_any _ hlim _).mono ?_); rintro e w'' ⟨B2, d2, rfl, ho2, hb3⟩))
 go_ret3
 rw [hr.out] at ho2
 exact ⟨B1, d1, B2, d2, by rw [← hr.out]; rfl, ho.keep hb3, ho2, ((below_drewN (Below.refl _ _) m).trans hb).trans (hb3.mono hb.size)⟩
set_option maxHeartbeats 1000000 in
theorem divmod_long (A1 A2 : Option Addr) (c1 c2 n1 n2 : Nat) (l1 l2 : List Nat) (w : World) (h1 : In w A1 c1 l1 n1) (h2 : In w A2 c2 l2 n2) (hge : n2 ≤ n1) (hl : 2 ≤ (limbs n2).length) :
  Calls Tryz.prog 174 #[.slice A1 l1.length c1, .slice A2 l2.length c2] w fun e w' => DivOut w w' e n1 n2 := by
 have i1 := h1.limbs
 have i2 := h2.limbs
 have hc : ¬ cmpI n1 n2 < 0 := by unfold cmpI; rw [if_neg (by omega)]; split <;> omega
 have hz : (((limbs n2).length : Int) == 0) = false := by simp; intro h; rw [h] at hl; simp at hl
 have h1e : (((limbs n2).length : Int) == 1) = false := by simp; omega
 go_enter Tryz.func174, Tryz.ntmps174
 go_wp2_with (first | (go_at_call 124; (first | (with_reducible refine (trim_in _ _ _ _ _ h1 _ rfl).mono ?_) | (with_reducible refine (trim_in _ _ _ _ _ h2 _ rfl).mono ?_)); rintro e w' ⟨rfl, rfl⟩) | (go_at_call 62; (with_reducible refine (cmp_any _ _ _ _ _ _ _ _ _ i1 i2).mono ?_); rintro e w' ⟨rfl, m, rfl⟩) | (go_at_call 211; (with_reducible refine (divLong_any _ _ _ _ _ _ _ (i1.keep (below_drewN (Below.refl _ _) _)) (i2.keep (below_drewN (Below.refl _ _) _)) hge hl).mono ?_); rintro e w' ⟨B1, d1, B2, d2, rfl, ho, ho2, hb⟩))
 go_ret3
 exact ⟨B1, d1, B2, d2, rfl, ho, ho2, (below_drewN (Below.refl _ _) m).trans hb⟩
theorem divmod_any (A1 A2 : Option Addr) (c1 c2 n1 n2 : Nat) (l1 l2 : List Nat) (w : World) (h1 : In w A1 c1 l1 n1) (h2 : In w A2 c2 l2 n2) (hpos : 0 < n2) :
  Calls Tryz.prog 174 #[.slice A1 l1.length c1, .slice A2 l2.length c2] w fun e w' => DivOut w w' e n1 n2 := by
 rcases Nat.lt_or_ge n1 n2 with hlt | hge
 ·exact divmod_lt _ _ _ _ _ _ _ _ _ h1 h2 hlt
 ·have h0 : nlen n2 ≠ 0 := fun h => by have := nlen_eq_zero.1 h; omega
  by_cases hl : (limbs n2).length = 1
  ·exact divmod_one _ _ _ _ _ _ _ _ _ h1 h2 hge hl
  ·exact divmod_long _ _ _ _ _ _ _ _ _ h1 h2 hge (by unfold nlen at h0; omega)
theorem slen_pos (n : Nat) (h : 0 < n) : 0 < (limbs n).length := by
 have h0 : nlen n ≠ 0 := fun e => by have := nlen_eq_zero.1 e; omega
 unfold nlen at h0
 omega
def GcRel (w wr : World) (A B : Option Addr) (ca cb x y g : Nat) : Prop :=
 In wr A ca (limbs x) x ∧ In wr B cb (limbs y) y ∧ Nat.gcd y x = g ∧ Below w.heap.size w wr
set_option maxHeartbeats 1000000 in
theorem gcd_any (A1 A2 : Option Addr) (c1 c2 n1 n2 : Nat) (l1 l2 : List Nat) (w : World) (h1 : In w A1 c1 l1 n1) (h2 : In w A2 c2 l2 n2) :
  Calls Tryz.prog 173 #[.slice A1 l1.length c1, .slice A2 l2.length c2] w fun e w' => ∃ A c, e = .returned (.slice A (limbs (Nat.gcd n1 n2)).length c) ∧ Out w' A c (Nat.gcd n1 n2) ∧ Below w.heap.size w w' := by
 have q1 := h1.nlen
 have q2 := h2.nlen
 go_enter Tryz.func173, Tryz.ntmps173
 go_wp2_with fail
 refine (norm_any _ _ _ _ _ h1).mono ?_
 rintro e w1 ⟨B1, d1, rfl, o1, b1⟩
 go_wp2_with fail
 refine (norm_any _ _ _ _ _ (h2.keep b1)).mono ?_
 rintro e w2 ⟨B2, d2, rfl, o2, b2⟩
 go_wp2_with fail
 go_loopg [0, 1] n2 (fun gk a b wr => ∃ (A B : Option Addr) (ca cb x : Nat), a = .slice A (limbs x).length ca ∧ b = .slice B (limbs gk).length cb ∧ GcRel w wr A B ca cb x gk (Nat.gcd n1 n2))
 case atStart => exact ⟨B1, B2, d1, d2, n1, rfl, rfl, (o1.toIn q1).keep b2, o2.toIn q2, Nat.gcd_comm _ _, b1.trans (b2.mono b1.size)⟩
 case round =>
  obtain ⟨A, B, ca, cb, x, rfl, rfl, ha, hb, hg, hbe⟩ := hrel
  have HG := Lib.hid hg; clear hg
  by_cases h0 : gk = 0
  ·have hz : ¬ 0 < (limbs gk).length := by rw [h0, limbs_zero]; simp
   have hzi : ¬ (0 : Int) < ((limbs gk).length : Int) := by omega
   have H0 := Lib.hid h0; clear h0
   go_wp2
   go_ret
   have e : x = Nat.gcd n1 n2 := by rw [← HG.out, H0.out, Nat.gcd_zero_left]
   exact ⟨A, ca, by rw [← e]; rfl, by rw [← e]; exact ⟨ha.rd, ha.cap⟩, hbe⟩
  ·have hp := slen_pos gk (by omega)
   have hm := Nat.mod_lt x (show 0 < gk by omega)
   have hmn : nlen (x % gk) < 1099511627776 := Nat.lt_of_le_of_lt (nlen_mono (Nat.le_of_lt hm)) hb.nlen
   have HM := Lib.hid hm; clear hm
   go_wp2_with (go_at_call 174; (with_reducible refine (divmod_any _ _ _ _ _ _ _ _ _ ha hb (by omega)).mono ?_); rintro e w5 ⟨E1, f1, E2, f2, rfl, p1, p2, p3⟩)
   go_roundg (x % gk)
   case measure => exact HM.out
   case rel => exact ⟨B, E2, cb, f2, gk, rfl, rfl, hb.keep p3, p2.toIn hmn, by rw [← HG.out]; exact (Nat.gcd_rec gk x).symm, hbe.trans (p3.mono hbe.size)⟩
theorem nlen_one : nlen 1 = 1 := by unfold nlen; rw [limbs_pos (by omega)]; simp [limbs_zero]
end Go.Proofs.YtcggnmddcbhchaaGreatDoor
namespace Go.Proofs.YtcggnmddcbhchaaGreatDoor
open Go.RowKit Lim
def sg (t : Bool) (n : Nat) : Int := if t then -(n : Int) else (n : Int)
theorem sg_abs (t : Bool) (n : Nat) : (sg t n).natAbs = n := by unfold sg; split <;> omega
structure InI (w : World) (t : Bool) (A : Option Addr) (c : Nat) (l : List Nat) (z : Int) : Prop where
 mag : In w A c l z.natAbs
 sgn : z = sg t z.natAbs
structure OutI (w : World) (t : Bool) (A : Option Addr) (c : Nat) (l : List Nat) (z : Int) : Prop where
 mag : Out w A c z.natAbs
 sgn : t = decide (z < 0)
 lim : l = limbs z.natAbs
theorem InI.keep {w w' : World} {t : Bool} {A : Option Addr} {c : Nat} {l : List Nat} {z : Int} (h : InI w t A c l z) (hb : Below w.heap.size w w') : InI w' t A c l z := ⟨h.mag.keep hb, h.sgn⟩
theorem OutI.toIn {w : World} {t : Bool} {A : Option Addr} {c : Nat} {l : List Nat} {z : Int} (h : OutI w t A c l z) (hl : nlen z.natAbs < 1099511627776) : InI w t A c l z :=
 ⟨by rw [h.lim]; exact h.mag.toIn hl, by rw [h.sgn]; unfold sg; by_cases hz : z < 0 <;> simp [hz] <;> omega⟩
theorem InI.of {w : World} {t : Bool} {A : Option Addr} {c : Nat} {l : List Nat} {n : Nat} (h : In w A c l n) : InI w t A c l (sg t n) := ⟨by rw [sg_abs]; exact h, by rw [sg_abs]⟩
def RetI (w : World) (z : Int) (e : Ending) (w' : World) : Prop :=
 ∃ t A c l, e = .returned (.agg #[.bool t, .slice A l.length c]) ∧ OutI w' t A c l z ∧ Below w.heap.size w w'
def Box (w : World) (g : Nat) (cs : Array Value) (t : TypeId) : Prop := w.heap[g]? = some (.cells cs t (0, 0))
theorem Box.lt {w : World} {g : Nat} {cs : Array Value} {t : TypeId} (h : Box w g cs t) : g < w.heap.size := by
 rcases Nat.lt_or_ge g w.heap.size with hlt | hge
 ·exact hlt
 ·unfold Box at h; rw [Array.getElem?_eq_none hge] at h; cases h
theorem Box.cell {w : World} {g : Nat} {cs : Array Value} {t : TypeId} (h : Box w g cs t) (i : Nat) : w.cell? ⟨g, i, none⟩ = cs[i]? := cell_of_row w g i cs t (0, 0) h
theorem Box.frozen {w : World} {g : Nat} {cs : Array Value} {t : TypeId} (h : Box w g cs t) (i : Nat) : w.frozen? ⟨g, i, none⟩ = false := by
 unfold Box at h
 simp [World.frozen?, h]
theorem Box.new (w : World) (cs : Array Value) (t : TypeId) : Box (w.alloc (.cells cs t)) w.heap.size cs t := heap_alloc_new w _
theorem Box.alloc {w : World} {g : Nat} {cs : Array Value} {t : TypeId} (h : Box w g cs t) (o : Obj) : Box (w.alloc o) g cs t := (Below.heap_alloc w o g h.lt).trans h
theorem Box.keep {w w' : World} {g : Nat} {cs : Array Value} {t : TypeId} (h : Box w g cs t) (hb : Below w.heap.size w w') : Box w' g cs t := (hb.block g h.lt).trans h
theorem Box.drewN {w : World} {g : Nat} {cs : Array Value} {t : TypeId} (h : Box w g cs t) (n : Nat) : Box (w.drewN n) g cs t := h
theorem Box.set {w : World} {g : Nat} {cs : Array Value} {t : TypeId} (h : Box w g cs t) (i : Nat) (u : Value) : Box (w.setCell ⟨g, i, none⟩ u) g (cs.setIfInBounds i u) t := by
 unfold Box at h ⊢
 simp [World.setCell, Array.getElem?_modify, h]
def noLimb : Value → Bool | .int .u32 _ => false | _ => true
theorem Rd.box {w : World} {A : Option Addr} {l : List Nat} {g : Nat} {cs : Array Value} {t : TypeId} (h : Rd w A l) (hb : Box w g cs t) (hn : cs.all noLimb = true) (i : Nat) (u : Value) : Rd (w.setCell ⟨g, i, none⟩ u) A l :=
 ⟨h.1, fun hl => by
  obtain ⟨b, off, e, hlt, hc⟩ := h.2 hl
  have hne : b ≠ g := by
   rintro rfl
   have h0 := hc 0 hl
   rw [hb.cell] at h0
   have := Array.all_eq_true'.1 hn _ (Array.mem_of_getElem? h0)
   simp [noLimb] at this
  refine ⟨b, off, e, by simpa [World.setCell] using hlt, fun j hj => ?_⟩
  rw [← hc j hj]
  exact World.cell?_of_block (w := w) (a := ⟨b, off + j, none⟩) (Below.heap_setCell w ⟨g, i, none⟩ u b hne)⟩
theorem Out.box {w : World} {A : Option Addr} {c n : Nat} {g : Nat} {cs : Array Value} {t : TypeId} (h : Out w A c n) (hb : Box w g cs t) (hn : cs.all noLimb = true) (i : Nat) (u : Value) : Out (w.setCell ⟨g, i, none⟩ u) A c n := ⟨h.rd.box hb hn i u, h.cap⟩
theorem In.box {w : World} {A : Option Addr} {c n : Nat} {l : List Nat} {g : Nat} {cs : Array Value} {t : TypeId} (h : In w A c l n) (hb : Box w g cs t) (hn : cs.all noLimb = true) (i : Nat) (u : Value) : In (w.setCell ⟨g, i, none⟩ u) A c l n := ⟨h.rd.box hb hn i u, h.cap, h.lim, h.val⟩
theorem Out.box2 {w : World} {A : Option Addr} {c n : Nat} {g : Nat} {x y : Value} {t : TypeId} (h : Out w A c n) (hb : Box w g #[x, y] t) (hx : noLimb x = true) (hy : noLimb y = true) {u v : Value} (hu : noLimb u = true) :
  Out ((w.setCell ⟨g, 0, none⟩ u).setCell ⟨g, 1, none⟩ v) A c n ∧ Box ((w.setCell ⟨g, 0, none⟩ u).setCell ⟨g, 1, none⟩ v) g #[u, v] t := by
 have h1 := h.box hb (by simp [hx, hy]) 0 u
 have b1 := hb.set 0 u
 exact ⟨h1.box b1 (by show (#[u, y] : Array Value).all noLimb = true; simp [hu, hy]) 1 v, b1.set 1 v⟩
theorem In.box2 {w : World} {A : Option Addr} {c n : Nat} {l : List Nat} {g : Nat} {x y : Value} {t : TypeId} (h : In w A c l n) (hb : Box w g #[x, y] t) (hx : noLimb x = true) (hy : noLimb y = true) {u v : Value} (hu : noLimb u = true) :
  In ((w.setCell ⟨g, 0, none⟩ u).setCell ⟨g, 1, none⟩ v) A c l n ∧ Box ((w.setCell ⟨g, 0, none⟩ u).setCell ⟨g, 1, none⟩ v) g #[u, v] t := by
 have h1 := h.box hb (by simp [hx, hy]) 0 u
 have b1 := hb.set 0 u
 exact ⟨h1.box b1 (by show (#[u, y] : Array Value).all noLimb = true; simp [hu, hy]) 1 v, b1.set 1 v⟩
theorem Out.box3 {w : World} {A : Option Addr} {c n : Nat} {g : Nat} {x y z : Value} {t : TypeId} (h : Out w A c n) (hb : Box w g #[x, y, z] t) (hx : noLimb x = true) (hy : noLimb y = true) (hz : noLimb z = true) {u v s : Value} (hu : noLimb u = true) (hv : noLimb v = true) :
  Out (((w.setCell ⟨g, 0, none⟩ u).setCell ⟨g, 1, none⟩ v).setCell ⟨g, 2, none⟩ s) A c n ∧ Box (((w.setCell ⟨g, 0, none⟩ u).setCell ⟨g, 1, none⟩ v).setCell ⟨g, 2, none⟩ s) g #[u, v, s] t := by
 have h1 := h.box hb (by simp [hx, hy, hz]) 0 u
 have b1 := hb.set 0 u
 have h2 := h1.box b1 (by show (#[u, y, z] : Array Value).all noLimb = true; simp [hu, hy, hz]) 1 v
 have b2 := b1.set 1 v
 exact ⟨h2.box b2 (by show (#[u, v, z] : Array Value).all noLimb = true; simp [hu, hv, hz]) 2 s, b2.set 2 s⟩
theorem Below.box3 {B g : Nat} {a w : World} (h : Below B a w) (hg : B ≤ g) (u v s : Value) : Below B a (((w.setCell ⟨g, 0, none⟩ u).setCell ⟨g, 1, none⟩ v).setCell ⟨g, 2, none⟩ s) := ((h.setCell hg u).setCell hg v).setCell hg s
theorem Below.box2 {B g : Nat} {a w : World} (h : Below B a w) (hg : B ≤ g) (u v : Value) : Below B a ((w.setCell ⟨g, 0, none⟩ u).setCell ⟨g, 1, none⟩ v) := (h.setCell hg u).setCell hg v
theorem results_int {fn : Func} {k : Tmp} (h : fn.results = #[.cell k 25]) {tmps : Array Value} {g : Nat} (hg : tmps.getD k undef = .pointer (some ⟨g, 0, none⟩)) {W : World} {x y : Value} (hb : Box W g #[x, y] 25) :
  (results fn tmps).run Tryz.prog W = .ok (.agg #[x, y]) W := by
 have q0 : W.cell? ⟨g, 0, none⟩ = some x := hb.cell 0
 have q1 : W.cell? ⟨g, 1, none⟩ = some y := hb.cell 1
 have hg' : tmps[k]?.getD undef = .pointer (some ⟨g, 0, none⟩) := by simpa using hg
 simp [results, h, go_sem, hg', q0, q1]
set_option maxHeartbeats 1000000 in
theorem make_any (t : Bool) (A : Option Addr) (c n : Nat) (l : List Nat) (w : World) (h : In w A c l n) :
  Calls Tryz.prog 130 #[.bool t, .slice A l.length c] w (RetI w (sg t n)) := by
 have h' : In (w.alloc (.cells #[.bool false, .slice none 0 0] 25)) A c l n := h.keep ((Below.refl _ _).alloc (Nat.le_refl _) _)
 have hbx := Box.new w #[.bool false, .slice none 0 0] 25
 obtain ⟨t', ht'⟩ : ∃ t', t' = decide (sg t n < 0) := ⟨_, rfl⟩
 have hg : (t = false → t' = false) ∧ (t = true → t' = decide (0 < (limbs n).length)) := by
  subst ht'
  constructor
  ·rintro rfl; simp [sg]
  ·rintro rfl
   have : (0 < (limbs n).length) ↔ 0 < n := by
    constructor
    ·intro h; rcases Nat.eq_zero_or_pos n with h0 | h0
     ·rw [h0, limbs_zero] at h; simp at h
     ·exact h0
    ·exact slen_pos n
   rw [Bool.eq_iff_iff]
   simp [sg]
   omega
 have HT := Lib.hid ht'; clear ht'
 cases t
 ·obtain rfl := hg.1 rfl
  clear hg
  go_enter Tryz.func130, Tryz.ntmps130
  go_wp2_with fail
  refine (norm_any _ _ _ _ _ h').mono ?_
  rintro e w1 ⟨B, d, rfl, o1, b1⟩
  have hb1 := hbx.keep b1
  have e0 : w1.cell? ⟨w.heap.size, 0, none⟩ = some (.bool false) := hb1.cell 0
  have e1 : w1.cell? ⟨w.heap.size, 1, none⟩ = some (.slice none 0 0) := hb1.cell 1
  have f0 := hb1.frozen 0
  have f1 := hb1.frozen 1
  go_wp2
  obtain ⟨o2, b2⟩ := o1.box2 hb1 rfl rfl (u := .bool false) (v := .slice B (limbs n).length d) rfl
  have b3 := Below.box2 (((Below.refl w.heap.size w).alloc (Nat.le_refl _) (.cells #[.bool false, .slice none 0 0] 25)).trans (b1.mono (by simp))) (Nat.le_refl _) (.bool false) (.slice B (limbs n).length d)
  exact bodyPost_ret (results_int Tryz.results130 rfl b2) rfl ⟨false, B, d, limbs n, rfl, ⟨by rw [sg_abs]; exact o2, HT.out, by rw [sg_abs]⟩, b3⟩
 ·have ht := hg.2 rfl
  have ht2 := ht.symm
  clear hg ht
  go_enter Tryz.func130, Tryz.ntmps130
  go_wp2_with fail
  refine (norm_any _ _ _ _ _ h').mono ?_
  rintro e w1 ⟨B, d, rfl, o1, b1⟩
  have hb1 := hbx.keep b1
  have e0 : w1.cell? ⟨w.heap.size, 0, none⟩ = some (.bool false) := hb1.cell 0
  have e1 : w1.cell? ⟨w.heap.size, 1, none⟩ = some (.slice none 0 0) := hb1.cell 1
  have f0 := hb1.frozen 0
  have f1 := hb1.frozen 1
  go_wp2
  obtain ⟨o2, b2⟩ := o1.box2 hb1 rfl rfl (u := .bool t') (v := .slice B (limbs n).length d) rfl
  have b3 := Below.box2 (((Below.refl w.heap.size w).alloc (Nat.le_refl _) (.cells #[.bool false, .slice none 0 0] 25)).trans (b1.mono (by simp))) (Nat.le_refl _) (.bool t') (.slice B (limbs n).length d)
  exact bodyPost_ret (results_int Tryz.results130 rfl b2) rfl ⟨t', B, d, limbs n, rfl, ⟨by rw [sg_abs]; exact o2, HT.out, by rw [sg_abs]⟩, b3⟩
theorem OutI.stored {w1 : World} {t : Bool} {A : Option Addr} {c : Nat} {l : List Nat} {z : Int} {g : Nat} {x y : Value} (h : OutI w1 t A c l z) (hb : Box w1 g #[x, y] 25) (hx : noLimb x = true) (hy : noLimb y = true) :
  OutI ((w1.setCell ⟨g, 0, none⟩ (.bool t)).setCell ⟨g, 1, none⟩ (.slice A l.length c)) t A c l z ∧ Box ((w1.setCell ⟨g, 0, none⟩ (.bool t)).setCell ⟨g, 1, none⟩ (.slice A l.length c)) g #[.bool t, .slice A l.length c] 25 := by
 obtain ⟨o2, b2⟩ := h.mag.box2 hb hx hy (u := .bool t) (v := .slice A l.length c) rfl
 exact ⟨⟨o2, h.sgn, h.lim⟩, b2⟩
def sgnI (z : Int) : Int := if z < 0 then -1 else if 0 < z then 1 else 0
theorem sgn_of {t : Bool} {z : Int} (h : z = sg t z.natAbs) : sgnI z = if t then -(cmpI z.natAbs 0) else cmpI z.natAbs 0 := by
 unfold sg at h
 unfold sgnI cmpI
 cases t
 ·simp at h ⊢; omega
 ·simp at h ⊢; omega
set_option maxHeartbeats 1000000 in
theorem sign_any (t : Bool) (A : Option Addr) (c : Nat) (l : List Nat) (z : Int) (w : World) (h : InI w t A c l z) :
  Calls Tryz.prog 74 #[.agg #[.bool t, .slice A l.length c]] w fun e w' => e = .returned (.int .i64 (sgnI z)) ∧ Below w.heap.size w w' := by
 have hs := sgn_of h.sgn
 obtain ⟨k0, k1⟩ := cmpI_bd z.natAbs 0
 have h' : In (w.alloc (.cells #[.bool t, .slice A l.length c] 25)) A c l z.natAbs := h.mag.keep ((Below.refl _ _).alloc (Nat.le_refl _) _)
 cases t
 all_goals
  simp only [if_true, Bool.false_eq_true, if_false] at hs
  have HS := Lib.hid hs; clear hs
  go_enter Tryz.func74, Tryz.ntmps74
  go_wp2_with fail
  refine (cmp_any _ _ _ _ _ _ _ [] _ h' (In.zero _)).mono ?_
  rintro e w1 ⟨rfl, m, rfl⟩
  go_wp2
  go_ret
  exact ⟨by rw [HS.out]; rfl, below_drewN ((Below.refl _ _).alloc (Nat.le_refl _) _) _⟩
set_option maxHeartbeats 1000000 in
theorem iof_any (z : Int) (hz1 : -9223372036854775808 ≤ z) (hz2 : z ≤ 9223372036854775807) (w : World) :
  Calls Tryz.prog 61 #[.int .i64 z] w (RetI w z) := by
 have hbx := Box.new w #[.bool false, .slice none 0 0] 25
 have hlim : nlen z.natAbs < 1099511627776 := by
  have h1 : z.natAbs < pw 2 := by
   have : pw 2 = 18446744073709551616 := by decide
   omega
  have := nlen_le h1
  omega
 by_cases hneg : z < 0
 ·obtain ⟨n, hn⟩ : ∃ n : Nat, z = -(n : Int) := ⟨z.natAbs, by omega⟩
  have hb : n < 18446744073709551616 := by omega
  have hw : IntKind.u64.wrap (-IntKind.u64.wrap z) = (n : Int) := by rw [IntKind.wrap_u64, IntKind.wrap_u64]; omega
  have hsg : sg true n = z := by unfold sg; simp [hn]
  have hlim' : nlen n < 1099511627776 := by have : z.natAbs = n := by omega
                                            rw [← this]; exact hlim
  have HS := Lib.hid hsg; clear hsg hlim
  have HN := Lib.hid hn; clear hn
  go_enter Tryz.func61, Tryz.ntmps61
  go_wp2_with fail
  refine (of_any n hb _).mono ?_
  rintro e w1 ⟨B, d, rfl, o1, b1⟩
  go_wp2_with fail
  refine (make_any _ _ _ _ _ _ (o1.toIn hlim')).mono ?_
  rw [HS.out]
  rintro e w2 ⟨t', B2, d2, l', rfl, o2, b2⟩
  have hb1 := (hbx.keep b1).keep b2
  have e0 : w2.cell? ⟨w.heap.size, 0, none⟩ = some (.bool false) := hb1.cell 0
  have e1 : w2.cell? ⟨w.heap.size, 1, none⟩ = some (.slice none 0 0) := hb1.cell 1
  have f0 := hb1.frozen 0
  have f1 := hb1.frozen 1
  go_wp2
  obtain ⟨o3, b3⟩ := o2.stored hb1 rfl rfl
  exact bodyPost_ret (results_int Tryz.results61 rfl b3) rfl ⟨t', B2, d2, l', rfl, o3, Below.box2 ((((Below.refl w.heap.size w).alloc (Nat.le_refl _) _).trans (b1.mono (by simp))).trans (b2.mono (Nat.le_trans (by simp) b1.size))) (Nat.le_refl _) _ _⟩
 ·obtain ⟨n, rfl⟩ : ∃ n : Nat, z = (n : Int) := ⟨z.natAbs, by omega⟩
  have hb : n < 18446744073709551616 := by omega
  have HS := Lib.hid (show sg false n = (n : Int) from rfl)
  have hlim' : nlen n < 1099511627776 := hlim
  clear hlim
  go_enter Tryz.func61, Tryz.ntmps61
  go_wp2_with fail
  refine (of_any n hb _).mono ?_
  rintro e w1 ⟨B, d, rfl, o1, b1⟩
  go_wp2_with fail
  refine (make_any _ _ _ _ _ _ (o1.toIn hlim')).mono ?_
  rw [HS.out]
  rintro e w2 ⟨t', B2, d2, l', rfl, o2, b2⟩
  have hb1 := (hbx.keep b1).keep b2
  have e0 : w2.cell? ⟨w.heap.size, 0, none⟩ = some (.bool false) := hb1.cell 0
  have e1 : w2.cell? ⟨w.heap.size, 1, none⟩ = some (.slice none 0 0) := hb1.cell 1
  have f0 := hb1.frozen 0
  have f1 := hb1.frozen 1
  go_wp2
  obtain ⟨o3, b3⟩ := o2.stored hb1 rfl rfl
  exact bodyPost_ret (results_int Tryz.results61 rfl b3) rfl ⟨t', B2, d2, l', rfl, o3, Below.box2 ((((Below.refl w.heap.size w).alloc (Nat.le_refl _) _).trans (b1.mono (by simp))).trans (b2.mono (Nat.le_trans (by simp) b1.size))) (Nat.le_refl _) _ _⟩
end Go.Proofs.YtcggnmddcbhchaaGreatDoor
namespace Go.Proofs.YtcggnmddcbhchaaGreatDoor
open Go.RowKit Lim
attribute [local go_sem ↓] Go.wp_at_zero Go.wp_at_succ
structure Boxes (W : World) (g : Nat) (t1 t2 : Bool) (v1 v2 : Value) : Prop where
 a : Box W g #[.bool t1, v1] 25
 b : Box W (g + 1) #[.bool t2, v2] 25
 r : Box W (g + 2) #[.bool false, .slice none 0 0] 25
end Go.Proofs.YtcggnmddcbhchaaGreatDoor
namespace Go.Proofs.YtcggnmddcbhchaaGreatDoor
open Go.RowKit Lim
attribute [local go_sem ↓] Go.wp_at_zero Go.wp_at_succ
end Go.Proofs.YtcggnmddcbhchaaGreatDoor
namespace Go.Proofs.YtcggnmddcbhchaaGreatDoor
open Go.RowKit Lim
attribute [local go_sem ↓] Go.wp_at_zero Go.wp_at_succ
structure Boxes4 (W : World) (g : Nat) (t1 t2 : Bool) (v1 v2 : Value) : Prop where
 a : Box W g #[.bool t1, v1] 25
 b : Box W (g + 1) #[.bool t2, v2] 25
 q : Box W (g + 1 + 1) #[.bool false, .slice none 0 0] 25
 r : Box W (g + 1 + 1 + 1) #[.bool false, .slice none 0 0] 25
end Go.Proofs.YtcggnmddcbhchaaGreatDoor
