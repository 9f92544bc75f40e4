/- nat.divLong. -/
import Derived.Test.YtnifjdhjimjihaaGreatDoorShift
import Derived.Test.YtnifjdhjimjihaaGreatDoorEstimate
import Derived.Test.YtnifjdhjimjihaaGreatDoorSubtract
import Derived.Test.YtnifjdhjimjihaaGreatDoorDivMath
import Derived.Test.YtnifjdhjimjihaaGreatDoorShelf
namespace Go.Proofs.YtnifjdhjimjihaaGreatDoor
open Go.RowKit Lim

theorem bitLenAux_facts (f : Nat) : ∀ x, x < 2 ^ f → x < 2 ^ Go.Lib.bitLenAux f x ∧ (x ≠ 0 → 2 ^ (Go.Lib.bitLenAux f x - 1) ≤ x ∧ 1 ≤ Go.Lib.bitLenAux f x) ∧ Go.Lib.bitLenAux f x ≤ f := by
  induction f with
  | zero =>
    intro x hx
    simp at hx
    subst hx
    simp [Go.Lib.bitLenAux]
  | succ f ih =>
    intro x hx
    unfold Go.Lib.bitLenAux
    by_cases h0 : x = 0
    · subst h0; simp
    · rw [if_neg h0]
      have hp : 2 ^ (f + 1) = 2 * 2 ^ f := by rw [Nat.pow_succ]; omega
      obtain ⟨h1, h2, h3⟩ := ih (x / 2) (by omega)
      have e : 2 ^ (1 + Go.Lib.bitLenAux f (x / 2)) = 2 * 2 ^ Go.Lib.bitLenAux f (x / 2) := by rw [Nat.add_comm, Nat.pow_succ]; omega
      refine ⟨by omega, fun _ => ⟨?_, by omega⟩, by omega⟩
      rw [Nat.add_sub_cancel_left]
      by_cases h4 : x / 2 = 0
      · rw [h4] at *
        have : Go.Lib.bitLenAux f 0 = 0 := by cases f <;> simp [Go.Lib.bitLenAux]
        rw [this]; omega
      · obtain ⟨h5, h6⟩ := h2 h4
        have e2 : 2 ^ Go.Lib.bitLenAux f (x / 2) = 2 * 2 ^ (Go.Lib.bitLenAux f (x / 2) - 1) := by
          rw [show Go.Lib.bitLenAux f (x / 2) = (Go.Lib.bitLenAux f (x / 2) - 1) + 1 from by omega, Nat.pow_succ, Nat.add_sub_cancel]; omega
        omega
/-- math/bits.LeadingZeros32 at a limb that is not 0. -/
theorem lz_any (b : Nat) (h0 : 0 < b) (hb : b < 4294967296) : ∃ s : Nat, s < 32 ∧ (b + 1) * 2 ^ s ≤ 4294967296 ∧ 2147483648 ≤ b * 2 ^ s ∧ 2 ^ s ≤ 2147483648 ∧
    ∀ w : World, Calls Tryz.prog 135 #[.int .u32 (b : Int)] w fun e w' => e = .returned (.int .i64 (s : Int)) ∧ w = w' := by
  obtain ⟨h1, h2, _⟩ := bitLenAux_facts 64 b (by omega)
  obtain ⟨h3, h4⟩ := h2 (by omega)
  have h5 : Go.Lib.bitLenAux 64 b ≤ 32 := by
    rcases Nat.lt_or_ge 32 (Go.Lib.bitLenAux 64 b) with h | h
    · have := Nat.pow_le_pow_right (show 0 < 2 by omega) (show 32 ≤ Go.Lib.bitLenAux 64 b - 1 by omega)
      omega
    · exact h
  obtain ⟨f1, f2, f3⟩ := shift_facts h0 h3 h1 h4 h5
  refine ⟨32 - Go.Lib.bitLenAux 64 b, by omega, f1, f2, f3, fun w => ?_⟩
  refine (Tryz.bits_LeadingZeros32 (b : Int) w (by omega) (by omega)).mono ?_
  rintro e w' ⟨rfl, rfl⟩
  refine ⟨ret_int ?_, rfl⟩
  unfold Go.Lib.bitLen
  rw [Int.toNat_natCast]
  omega

/-- The loop's state. -/
def DlgRel (w wr : World) (gD gR gQ n1 n2 s la m k : Nat) (V : List Nat) : Prop :=
  ∃ R q : List Nat, R.length = la + 1 ∧ q.length + k = la - (m + 1) ∧ Dv (n1 * s) (n2 * s) R q k ∧ Blk wr gR R ∧ Blk wr gQ (List.replicate k 0 ++ q) ∧ Rd wr (some ⟨gD, 0, none⟩) V ∧ Below w.heap.size w wr

theorem part_get (R : List Nat) (j n i : Nat) (hi : i < n) : ((R.drop j).take n).getD i 0 = R.getD (j + i) 0 := by
  simp [List.getElem?_take, hi]
theorem Blk.cellD {w : World} {g : Nat} {l : List Nat} (h : Blk w g l) {i : Nat} (hi : i < l.length) : w.cell? ⟨g, i, none⟩ = some (.int .u32 ((l.getD i 0 : Nat) : Int)) := by
  rw [getD_of hi rfl]; exact h.cell hi
theorem Rd.cellD {w : World} {b off : Nat} {l : List Nat} (h : Rd w (some ⟨b, off, none⟩) l) {i : Nat} (hi : i < l.length) : w.cell? ⟨b, off + i, none⟩ = some (.int .u32 ((l.getD i 0 : Nat) : Int)) := by
  obtain ⟨b', o', e, _, hc⟩ := h.at_ hi
  injection e with e
  injection e with e1 e2
  subst e1 e2
  rw [getD_of hi rfl]; exact hc
theorem zeros_cell {w : World} {g j : Nat} {q : List Nat} (h : Blk w g (List.replicate (j + 1) 0 ++ q)) : w.cell? ⟨g, j, none⟩ = some (.int .u32 0) ∧ w.frozen? ⟨g, j, none⟩ = false := by
  have h1 := h.cell (i := j) (by simp; omega)
  rw [List.getElem_append_left (by simp)] at h1
  simp at h1
  exact ⟨h1, h.frozen _⟩
theorem zeros_set (j d : Nat) (q : List Nat) : (List.replicate (j + 1) 0 ++ q).set j d = List.replicate j 0 ++ d :: q := by
  rw [List.replicate_succ', List.append_assoc, List.set_append_right _ _ (by simp)]
  simp
theorem DlgRel.store {w wr : World} {gD gR gQ n1 n2 s la m j d : Nat} {V R q : List Nat} (lR : R.length = la + 1) (lq : q.length + (j + 1) = la - (m + 1)) (hdv : Dv (n1 * s) (n2 * s) R (d :: q) j) (hbR : Blk wr gR R) (hbQ : Blk wr gQ (List.replicate (j + 1) 0 ++ q)) (hrV : Rd wr (some ⟨gD, 0, none⟩) V) (hbe : Below w.heap.size w wr)
    (h1 : gR ≠ gQ) (h2 : gD ≠ gQ) (h3 : w.heap.size ≤ gQ) {u : Int} (hu : u = (d : Int)) : DlgRel w (wr.setCell ⟨gQ, j, none⟩ (.int .u32 u)) gD gR gQ n1 n2 s la m j V := by
  refine ⟨R, d :: q, lR, by simp; omega, hdv, hbR.far h1 _, ?_, hrV.only ((Only.refl gQ wr).setCell _ _) h2, hbe.setCell h3 _⟩
  have := hbQ.set j d hu
  rw [zeros_set] at this
  exact this
theorem split_mid (R : List Nat) (j n : Nat) : R.take j ++ (R.drop j).take n ++ R.drop (j + n) = R := by
  rw [List.append_assoc, ← List.drop_drop, List.take_append_drop, List.take_append_drop]

set_option maxHeartbeats 4000000 in
theorem divLong_any (A1 A2 : Option Addr) (c1 c2 n1 n2 : Nat) (w : World) (h1 : In w A1 c1 (limbs n1) n1) (h2 : In w A2 c2 (limbs n2) n2) (hle : n2 ≤ n1) (hlen : 2 ≤ (limbs n2).length) :
    Calls Tryz.prog 110 #[.slice A1 (limbs n1).length c1, .slice A2 (limbs n2).length c2] w fun e w' => ∃ B1 d1 B2 d2, e = .returned (.tuple #[.slice B1 (limbs (n1 / n2)).length d1, .slice B2 (limbs (n1 % n2)).length d2]) ∧ Out w' B1 d1 (n1 / n2) ∧ Out w' B2 d2 (n1 % n2) ∧ Below w.heap.size w w' := by
  obtain ⟨m, hm⟩ : ∃ m, (limbs n2).length = m + 2 := ⟨(limbs n2).length - 2, by omega⟩
  obtain ⟨la, hla⟩ : ∃ la, (limbs n1).length = la := ⟨_, rfl⟩
  have hge : m + 2 ≤ la := by rw [← hm, ← hla]; exact nlen_mono hle
  have k1 : la < 1099511627776 := by rw [← hla]; exact h1.lim
  obtain ⟨b, hb⟩ : ∃ b, (limbs n2)[m + 1]'(by omega) = b := ⟨_, rfl⟩
  have hb0 : 0 < b := by
    have := nrm_limbs n2 (by omega)
    have e : (limbs n2)[(limbs n2).length - 1]'(by omega) = (limbs n2)[m + 1]'(by omega) := by congr 1; omega
    rw [e, hb] at this
    omega
  have hbb : b < 4294967296 := by rw [← hb]; exact dig_get (dig_limbs n2) (by omega)
  obtain ⟨b2, o2, rfl, hlt2, hcb⟩ := h2.rd.at_ (show m + 1 < (limbs n2).length by omega)
  rw [hb] at hcb
  obtain ⟨s, hs32, hs1, hs2, hs3, hlz⟩ := lz_any b hb0 hbb
  have hs0 := Nat.two_pow_pos s
  -- the value of the divisor lies between two multiples of the power
  have hn2 : n2 = val ((limbs n2).take (m + 1)) + pw (m + 1) * b := by
    have := val_last (l := limbs n2) (n := m + 1) (by omega)
    rw [val_limbs, getD_of (by omega) hb] at this
    exact this
  have hlow := val_take_lt (dig_limbs n2) (n := m + 1) (by omega)
  have hn2a : b * pw (m + 1) ≤ n2 := by rw [hn2, Nat.mul_comm]; omega
  have hn2b : n2 < (b + 1) * pw (m + 1) := by rw [Nat.add_mul, Nat.one_mul, Nat.mul_comm b]; omega
  clear hn2 hlow
  have hn1 : n1 < pw la := by rw [← hla]; exact lt_nlen n1
  have hB := Lib.hid hb; clear hb
  have hM := Lib.hid hm
  have hLA := Lib.hid hla
  have hmk := made (la - (m + 2) + 1) (by omega)
  rw [show ((la - (m + 2) + 1 : Nat) : Int) = (la : Int) - ((m : Int) + 2) + 1 from by omega] at hmk
  have c2' : m + 2 ≤ c2 := by rw [← hm]; exact h2.cap
  have T1 := Lib.hid (fun W h => shiftLeft_any A1 c1 n1 s (limbs n1) W h hs32)
  have T2 := Lib.hid (fun W h => shiftLeft_any (some ⟨b2, o2, none⟩) c2 n2 s (limbs n2) W h hs32)
  rw [hla] at T1 ⊢
  rw [hm] at T2 ⊢
  clear hB hm hla
  have HLZ := Lib.hid hlz; clear hlz
  go_enter Tryz.func110, Tryz.ntmps110
  go_wp2_with fail
  refine (HLZ.out _).mono ?_
  rintro e w' ⟨rfl, rfl⟩
  go_wp2_with fail
  refine (T2.out _ h2).mono ?_
  rintro e w1 ⟨rfl, D, lD, dD, bD, vD, hb1⟩
  obtain ⟨eV, nV⟩ := norm_divisor (m := m + 1) dD lD vD hn2a hn2b hs1 hs2 hs0
  obtain ⟨V, hVd⟩ : ∃ V, D.take (m + 1 + 1) = V := ⟨_, rfl⟩
  rw [hVd] at eV nV
  have lV : V.length = m + 2 := by rw [← hVd]; simp; omega
  have dV : Dig V := by rw [← hVd]; exact dig_take dD _
  have rV : Rd w1 (some ⟨w.heap.size, 0, none⟩) V := by rw [← hVd]; exact (bD.rd dD).take _
  have vV : n2 * 2 ^ s < pw (m + 2) := by rw [← eV, ← lV]; exact val_lt dV
  have gt1 := bD.lt
  have EV := Lib.hid eV
  have LV := Lib.hid lV
  clear eV lV hVd lD vD
  go_wp2_with fail
  refine (T1.out _ (h1.keep hb1)).mono ?_
  rintro e w2 ⟨rfl, R0, lR, dR, bR, vR, hb2⟩
  have gt2 := bR.lt
  have vlow : 2147483648 * pw (m + 1) ≤ n2 * 2 ^ s := by
    have e := val_last (l := V) (n := m + 1) LV.out
    rw [EV.out] at e
    have := Nat.mul_le_mul_left (pw (m + 1)) nV
    rw [Nat.mul_comm] at this
    omega
  have hst := Lib.hid (Dv.start (n1 := n1) (n2 := n2) (s := 2 ^ s) (k := la - (m + 1)) (n := m + 1) dR vR hn1 hs3 (by omega) vlow (by omega) hs0)
  have LR := Lib.hid lR
  clear lR vR vlow
  go_wp2_with fail
  go_loopw [11] (fun i wr => ∃ k : Nat, k ≤ la - (m + 1) ∧ i = .int .i64 ((k : Int) - 1) ∧ DlgRel w wr w.heap.size w1.heap.size w2.heap.size n1 n2 (2 ^ s) la m k V) (fun i _ => (intOf i + 1).toNat)
  case atStart =>
    have e : la - (m + 2) + 1 = la - (m + 1) := by omega
    refine ⟨la - (m + 1), Nat.le_refl _, vint (by omega), R0, [], LR.out, by simp, hst.out, bR.alloc _, ?_, (rV.keep hb2).keep ((Below.refl _ _).alloc (Nat.le_refl _) _), ((hb1.trans (hb2.mono (by omega)))).alloc (by omega) _⟩
    rw [List.append_nil, ← e]
    exact Blk.new w2 _
  case round =>
    obtain ⟨k, hk, rfl, hrel⟩ := hrel
    obtain ⟨R, q, lR, lq, hdv, hbR, hbQ, hrV, hbe⟩ := hrel
    have LR2 := Lib.hid lR
    have LQ := Lib.hid lq
    clear lR lq
    rcases Nat.eq_zero_or_pos k with h0 | h0
    · subst h0
      obtain ⟨fq, fr⟩ := hdv.last (n := m + 2) hs0 vV (by have := LR2.out; omega)
      have lq : q.length = la - (m + 2) + 1 := by have := LQ.out; omega
      have hq := hbQ.rd (dig_append.2 ⟨dig_replicate _, hdv.digq⟩)
      simp only [List.replicate_zero, List.nil_append] at hq
      have lT : (R.take (m + 2)).length = m + 2 := by have := LR2.out; simp; omega
      have HQ := Lib.hid (fun (W : World) (hW : Below wr.heap.size wr W) => trim_raw _ (la - (m + 2) + 1) q (n1 / n2) W ⟨hq.keep hW, by omega, by omega, fq⟩ _ rfl)
      have HO := Lib.hid (fun (W : World) (hW : Below wr.heap.size wr W) => Raw.trim (n := n1 / n2) (c := la - (m + 2) + 1) ⟨hq.keep hW, by omega, by omega, fq⟩)
      have HS := Lib.hid (fun (W : World) (hW : Below wr.heap.size wr W) => shiftRight_any _ (la + 1) _ s (R.take (m + 2)) W ⟨((hbR.rd hdv.dig).take _).keep hW, by omega, by omega, rfl⟩ hs32)
      have HT := Lib.hid (fun (W : World) (A : Option Addr) (l : List Nat) (hl : l.length = m + 2) (hr : Raw W A (m + 2) l (n1 % n2)) => hl ▸ trim_raw A (m + 2) l (n1 % n2) W hr _ rfl)
      rw [lq] at HQ
      rw [lT, fr] at HS
      clear fq fr lq lT hq
      go_wp2_with fail
      go_region_with (first
        | (go_at_call 140; (with_reducible refine (HS.out _ ?_).mono ?_); exact (Below.refl _ _).drew; rintro e w6 ⟨rfl, l6, ll6, hr5, hb6⟩; have hr6 : Raw w6 (some ⟨wr.heap.size, 0, none⟩) (m + 2) l6 (n1 % n2) := hr5; clear hr5)
        | (go_at_call 98; (with_reducible refine (HQ.out _ ?_).mono ?_); (first | exact (Below.refl _ _).drew | exact (Below.refl _ _).drew.trans hb6); rintro e w7 ⟨rfl, rfl⟩)
        | (go_at_call 98; (with_reducible refine (HT.out _ _ _ ll6 hr6).mono ?_); rintro e w7 ⟨rfl, rfl⟩))
      all_goals (go_wp2; go_ret2; have hbb6 : Below wr.heap.size wr w6 := (Below.refl wr.heap.size wr).drew.trans hb6; exact ⟨_, _, _, _, rfl, HO.out _ hbb6, hr6.trim, hbe.trans (hbb6.mono hbe.size)⟩)
    · obtain ⟨j, rfl⟩ : ∃ j, k = j + 1 := ⟨k - 1, by omega⟩
      rw [show (((j + 1 : Nat) : Int) - 1) = (j : Int) from by omega]
      have hne1 : ¬ la + 1 = j := by omega
      obtain ⟨p, hp⟩ : ∃ p, (R.drop j).take (m + 2 + 1) = p := ⟨_, rfl⟩
      have hRl : R.length = la + 1 := LR2.out
      have lp : p.length = m + 3 := by rw [← hp]; simp; omega
      have dp : Dig p := by rw [← hp]; exact dig_take (dig_drop hdv.dig _) _
      obtain ⟨hz, hval, hUlt⟩ := hdv.part (n := m + 2) vV (by omega)
      rw [hp] at hval hUlt
      have hT := top_of dp dV lp LV.out nV (by rw [EV.out]; exact hUlt)
      have pg : ∀ i, i < m + 3 → p.getD i 0 = R.getD (j + i) 0 := fun i hi => by rw [← hp]; exact part_get R j _ i hi
      have e0 : wr.cell? ⟨w1.heap.size, j + (m + 2), none⟩ = some (.int .u32 ((p.getD (m + 2) 0 : Nat) : Int)) := by rw [pg _ (by omega)]; exact hbR.cellD (by omega)
      have e1 : wr.cell? ⟨w1.heap.size, j + (m + 1), none⟩ = some (.int .u32 ((p.getD (m + 1) 0 : Nat) : Int)) := by rw [pg _ (by omega)]; exact hbR.cellD (by omega)
      have e2 : wr.cell? ⟨w1.heap.size, j + m, none⟩ = some (.int .u32 ((p.getD m 0 : Nat) : Int)) := by rw [pg _ (by omega)]; exact hbR.cellD (by omega)
      have e3 : wr.cell? ⟨w.heap.size, 0 + (m + 1), none⟩ = some (.int .u32 ((V.getD (m + 1) 0 : Nat) : Int)) := hrV.cellD (by rw [LV.out]; omega)
      have e4 : wr.cell? ⟨w.heap.size, 0 + m, none⟩ = some (.int .u32 ((V.getD m 0 : Nat) : Int)) := hrV.cellD (by rw [LV.out]; omega)
      have hest := estimate_any w1.heap.size j (la + 1 - j) w.heap.size 0 (m + 2 + 1) m wr hT (by omega) e0 e1 e2 e3 e4
      have HEST := Lib.hid hest
      clear hest pg e0 e1 e2 e3 e4
      have lpre : (R.take j).length = j := by simp; omega
      have hsp : Blk wr w1.heap.size (R.take j ++ p ++ R.drop (j + (m + 2) + 1)) := by
        rw [← hp, show j + (m + 2) + 1 = j + (m + 2 + 1) from by omega, split_mid]; exact hbR
      have LP := Lib.hid lp
      have LPRE := Lib.hid lpre
      have HP := Lib.hid hp
      have HZ := Lib.hid hz
      have HVAL := Lib.hid hval
      clear lp lpre hp hz hval hRl
      go_wp2_with fail
      rw [show j + (m + 2) + 1 - j = m + 3 from by omega]
      refine HEST.out.mono ?_
      rintro e w3 ⟨d, rfl, hnear, nn, rfl⟩
      have hdb := hnear.2.2
      by_cases hfit : d * val V ≤ val p
      · have hsub := subtract_no w1.heap.size w.heap.size 0 (la + 1 - j) (m + 2 + 1) d (R.take j) p (R.drop (j + (m + 2) + 1)) V (wr.drewN nn) hsp dp (by rw [LP.out, LV.out]) (by omega) hrV (by rw [LV.out]; omega) hdb (by rw [LV.out]; omega) hfit
        rw [LPRE.out, LV.out] at hsub
        have HSUB := Lib.hid hsub; clear hsub
        have HFIT := Lib.hid hfit; clear hfit
        go_wp2_with fail
        rw [show j + (m + 2) + 1 - j = m + 3 from by omega]
        refine HSUB.out.mono ?_
        rintro e w4 ⟨rfl, p', lp', dp', bp', vp', ho⟩
        have ho' : Only w1.heap.size wr w4 := ho.ofDrewN
        have hq4 := hbQ.only ho' (by omega)
        obtain ⟨hst1, hst2⟩ := zeros_cell hq4
        have hst3 := Lib.hid (fun (u : Int) => DlgRel.store (u := u) (m := m) (w := w) (gD := w.heap.size) (gR := w1.heap.size) (gQ := w2.heap.size) (V := V) (R := R.take j ++ p' ++ R.drop (j + (m + 2) + 1)) (d := d) (n1 := n1) (n2 := n2) (s := 2 ^ s) (la := la)
          (by have := LR2.out; have := LP.out; simp; omega) LQ.out
          (hdv.step (n := m + 2) vV (by have := LR2.out; omega) dp' (by rw [lp', LP.out]) hdb (by rw [HP.out, vp', EV.out]; have := HFIT.out; rw [EV.out] at this; omega)
            (by
              rcases hnear.eq_or with ⟨_, _, h⟩ | ⟨h, _⟩
              · rw [vp', ← h, ← EV.out]; exact Nat.mod_lt _ (by rw [EV.out]; have := hdv.top; omega)
              · have := HFIT.out; omega))
          bp' hq4 (hrV.only ho' (by omega)) (hbe.trans (ho'.below (by omega))) (by omega) (by omega) (by omega))
        clear lp' vp'
        go_wp2
        go_roundw
        case rel => exact ⟨j, by omega, rfl, hst3.out _ (by omega)⟩
        case measure => simp [intOf]
      · have hsub := subtract_yes w1.heap.size w.heap.size 0 (la + 1 - j) (m + 2 + 1) d (R.take j) p (R.drop (j + (m + 2) + 1)) V (wr.drewN nn) hsp dp (by rw [LP.out, LV.out]) (by omega) hrV (by rw [LV.out]; omega) hdb (by rw [LV.out]; omega) (by omega)
        rw [LPRE.out, LV.out] at hsub
        have HSUB := Lib.hid hsub; clear hsub
        have HFIT := Lib.hid (show val p < d * val V by omega)
        have hd1 : 1 ≤ d := by
          rcases Nat.eq_zero_or_pos d with h0 | h0
          · subst h0; omega
          · exact h0
        clear hfit
        go_wp2_with fail
        rw [show j + (m + 2) + 1 - j = m + 3 from by omega]
        refine HSUB.out.mono ?_
        rintro e w4 ⟨rfl, p', lp', dp', bp', vp', ho⟩
        have hadd := addBack_any w1.heap.size w.heap.size 0 (la + 1 - j) (m + 2 + 1) (R.take j) p' (R.drop (j + (m + 2) + 1)) V w4 bp' dp' (by rw [lp', LP.out, LV.out]) (by omega) (hrV.only ho.ofDrewN (by omega)) (by rw [LV.out]; omega) (by rw [LV.out]; omega)
        rw [LPRE.out, LV.out] at hadd
        have HADD := Lib.hid hadd; clear hadd
        have LP' := Lib.hid lp'
        have VP' := Lib.hid vp'
        clear lp' vp'
        go_wp2_with fail
        rw [show j + (m + 2) + 1 - j = m + 3 from by omega]
        refine HADD.out.mono ?_
        rintro e w5 ⟨rfl, p2, lp2, dp2, bp2, vp2, ho2⟩
        have ho' : Only w1.heap.size wr w5 := ho.ofDrewN.trans ho2
        have hq4 := hbQ.only ho' (by omega)
        obtain ⟨hst1, hst2⟩ := zeros_cell hq4
        have hrem : val p2 = val p % val V ∧ d - 1 = val p / val V := by
          obtain ⟨kk, hkk⟩ := vp2
          refine back_eq VP'.out (k := kk) (by rw [LP'.out] at hkk; exact hkk) hnear HFIT.out ?_ ?_
          · have := val_lt dp2; rw [lp2, LP'.out] at this; exact this
          · rw [EV.out]
            have h2 := pw_mono (a := m + 2) (b := p.length) (by have := LP.out; omega)
            omega
        have hst3 := Lib.hid (fun (u : Int) => DlgRel.store (u := u) (m := m) (w := w) (gD := w.heap.size) (gR := w1.heap.size) (gQ := w2.heap.size) (V := V) (R := R.take j ++ p2 ++ R.drop (j + (m + 2) + 1)) (d := d - 1) (n1 := n1) (n2 := n2) (s := 2 ^ s) (la := la)
          (by have := LR2.out; have := LP.out; have := LP'.out; simp; omega) LQ.out
          (hdv.step (n := m + 2) vV (by have := LR2.out; omega) dp2 (by rw [lp2, LP'.out, LP.out]) (by omega)
            (by rw [HP.out, hrem.1, hrem.2, ← EV.out, Nat.mul_comm, Nat.add_comm]; exact Nat.div_add_mod _ _)
            (by rw [hrem.1, ← EV.out]; exact Nat.mod_lt _ (by rw [EV.out]; have := hdv.top; omega)))
          bp2 hq4 (hrV.only ho' (by omega)) (hbe.trans (ho'.below (by omega))) (by omega) (by omega) (by omega))
        clear lp2 vp2 hrem
        go_wp2
        go_roundw
        case rel => exact ⟨j, by omega, rfl, hst3.out _ (by omega)⟩
        case measure => simp [intOf]
end Go.Proofs.YtnifjdhjimjihaaGreatDoor
