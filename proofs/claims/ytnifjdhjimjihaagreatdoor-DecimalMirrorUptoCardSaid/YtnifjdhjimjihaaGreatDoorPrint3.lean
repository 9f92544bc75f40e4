/- ratio.Print. -/
import Derived.Test.YtnifjdhjimjihaaGreatDoorPrint2
namespace Go.Proofs.YtnifjdhjimjihaaGreatDoor
open Go.RowKit Lim
attribute [local go_sem ↓] Go.wp_at_zero Go.wp_at_succ

def ratTx (N : Int) (D : Nat) : List UInt8 := if D = 1 then Lib.itoa N else Lib.itoa N ++ [47] ++ Lib.decDigits D

theorem itoa_len {z : Int} (hl : nlen z.natAbs < 1099511627776) : (Lib.itoa z).length ≤ 10995116277762 := by
  have := dec_len hl
  unfold Lib.itoa
  split
  · simp; omega
  · rw [show z.toNat = z.natAbs by omega]; omega

set_option maxHeartbeats 2000000 in
set_option maxRecDepth 100000 in
theorem rprint_any (t : Bool) (A B : Option Addr) (c f d : Nat) (l m : List Nat) (z : Int) (w : World) (h : InR w t A c l B f m z d) (htab : Tab w) (hl2 : nlen d + 8 < 1099511627776) :
    Calls Tryz.prog 51 #[.agg #[.bool t, .slice A l.length c, .slice B m.length f]] w fun e w' => e = .returned (.string (bs (ratTx (rn (pz z d) (pd d)) (rd (pz z d) (pd d))))) ∧ Below w.heap.size w w' := by
  have hbel : Below w.heap.size w (w.alloc (.cells #[.bool t, .slice A l.length c, .slice B m.length f] 27)) := (Below.refl _ _).alloc (Nat.le_refl _) _
  have hb := Box.new w #[.bool t, .slice A l.length c, .slice B m.length f] 27
  have h' := h.keep hbel
  obtain ⟨N, hN⟩ : ∃ N, rn (pz z d) (pd d) = N := ⟨_, rfl⟩
  obtain ⟨D, hD⟩ : ∃ D, rd (pz z d) (pd d) = D := ⟨_, rfl⟩
  have nN : nlen N.natAbs < 1099511627776 := by
    have a1 := nlen_mono (show N.natAbs ≤ (pz z d).natAbs by rw [← hN, rn_abs]; exact Nat.div_le_self _ _)
    have a2 := nlen_pz z d
    have a3 : nlen z.natAbs < 1099511627776 := h.num.mag.nlen
    omega
  have nD : nlen D < 1099511627776 := by
    have a1 := nlen_mono (show D ≤ pd d by rw [← hD]; exact Nat.div_le_self _ _)
    have a2 := nlen_pd d
    omega
  have NRM := Lib.hid (rnorm_any t A B c f d l m z _ h')
  rw [hN, hD] at NRM ⊢
  clear hN hD h h'
  have hil := itoa_len nN
  have hdl := dec_len nD
  go_enter Tryz.func51, Tryz.ntmps51
  go_wp2_with fail
  with_reducible refine NRM.out.mono ?_
  rintro e w1 ⟨t1, A1, c1, l1, B1, f1, m1, rfl, o1, o2, hm, b1⟩
  have HM := Lib.hid hm; clear hm
  have hb1 := hb.keep b1
  have e0 := hb1.c0
  have e1 := hb1.c1
  have e2 := hb1.c2
  have g0 := hb1.frozen 0
  have g1 := hb1.frozen 1
  have g2 := hb1.frozen 2
  obtain ⟨o3, b3⟩ := o1.mag.box3 hb1 rfl rfl rfl (u := .bool t1) (v := .slice A1 l1.length c1) (s := .slice B1 m1.length f1) rfl rfl
  obtain ⟨o4, _⟩ := o2.box3 hb1 rfl rfl rfl (u := .bool t1) (v := .slice A1 l1.length c1) (s := .slice B1 m1.length f1) rfl rfl
  have q1 := Below.box3 (below_step hbel b1) (Nat.le_refl _) (.bool t1) (.slice A1 l1.length c1) (.slice B1 m1.length f1)
  have oN : OutI (((w1.setCell ⟨w.heap.size, 0, none⟩ (.bool t1)).setCell ⟨w.heap.size, 1, none⟩ (.slice A1 l1.length c1)).setCell ⟨w.heap.size, 2, none⟩ (.slice B1 m1.length f1)) t1 A1 c1 l1 N := ⟨o3, o1.sgn, o1.lim⟩
  have i4 := o4.toIn nD
  rw [← HM.out] at i4
  clear hb hb1 b1 o1 o2 o3 o4 hbel NRM
  go_wp2_with fail
  generalize hW2 : ((w1.setCell ⟨w.heap.size, 0, none⟩ (.bool t1)).setCell ⟨w.heap.size, 1, none⟩ (.slice A1 l1.length c1)).setCell ⟨w.heap.size, 2, none⟩ (.slice B1 m1.length f1) = W2 at *
  clear hW2 e0 e1 e2 g0 g1 g2 HM
  refine (iprint_any _ _ _ _ _ _ (oN.toIn nN) (htab.keep q1)).mono ?_
  rintro e w3 ⟨rfl, k3⟩
  have b4 := b3.keep k3
  have i5 := i4.keep k3
  have q3 := below_step q1 k3
  clear b3 i4 q1 k3 oN
  have e0 := b4.c0
  have e1 := b4.c1
  have e2 := b4.c2
  obtain ⟨sN, hsN⟩ : ∃ sN, bs (Lib.itoa N) = sN := ⟨_, rfl⟩
  rw [hsN]
  go_upto_region 3 with fail
  have bd : Below w3.heap.size w3 w3.drew := (Below.refl _ _).drew
  have bdx := b4.keep bd
  have d2 : w3.drew.cell? ⟨w.heap.size, 2, none⟩ = some (.slice B1 m1.length f1) := bdx.c2
  have OF : Hid (Calls Tryz.prog 57 #[.int .u64 1] w3.drew fun e w' => ∃ A c, e = .returned (.slice A (limbs 1).length c) ∧ Out w' A c 1 ∧ Below w3.drew.heap.size w3.drew w') := Lib.hid (of_any 1 (by omega) w3.drew)
  have n1 : nlen 1 < 1099511627776 := by rw [nlen_one]; omega
  have KK := Lib.hid (fun (W' : World) (hb : Below w3.heap.size w3 W') => (b4.keep hb).c2)
  go_region_held3 (fun w' => w'.cell? ⟨w.heap.size, 2, none⟩ = some (.slice B1 m1.length f1)) (with_reducible first | exact e2 | exact KK.out _ bd | exact KK.out _ r1 | exact KK.out _ r2)
    (first
      | (go_at_call 57; (with_reducible refine OF.out.mono ?_); rintro e v1 ⟨Aa, ca, rfl, oa, ba⟩; have r1 : Below w3.heap.size w3 v1 := bd.trans ba)
      | (go_at_call 62; (with_reducible refine (cmp_any _ _ _ _ _ _ _ _ _ (i5.keep r1) (oa.toIn n1)).mono ?_); rintro e v2 ⟨rfl, mm, hmm⟩; (have r2 : Below w3.heap.size w3 v2 := by (rw [hmm]; exact below_drewN r1 mm)); clear hmm)
      | fail)
  have b6 := b4.keep r2
  have q4 := below_step q3 r2
  have i6 := i5.keep r2
  have k2 := b6.c2
  have T4 := htab.keep q4
  by_cases hD : D = 1
  · have hc : (cmpI D 1 == 0) = true := by rw [hD]; rfl
    generalize cmpI D 1 = cv at *
    have hf : ratTx N D = Lib.itoa N := by unfold ratTx; rw [if_pos hD]
    have HF := Lib.hid hf; clear hf hD
    go_wp2_with fail
    go_ret
    rw [HF.out, hsN]
    exact ⟨rfl, q4⟩
  · have hc : (cmpI D 1 == 0) = false := by unfold cmpI; split <;> (try split) <;> first | rfl | omega
    generalize cmpI D 1 = cv at *
    have hf : ratTx N D = Lib.itoa N ++ [47] ++ Lib.decDigits D := by unfold ratTx; rw [if_neg hD]
    have HF := Lib.hid hf; clear hf hD
    obtain ⟨s1, hs1⟩ : ∃ s1, bs (Lib.itoa N ++ [47]) = s1 := ⟨_, rfl⟩
    obtain ⟨s2, hs2⟩ : ∃ s2, bs (Lib.itoa N ++ [47] ++ Lib.decDigits D) = s2 := ⟨_, rfl⟩
    have c1 : ∀ W, (Op.stringOp .add sN ⟨#[47]⟩).run Tryz.prog W = .ok (.string s1) W := fun W => by
      have := run_cat W (Lib.itoa N) [47] _ rfl (by rw [List.length_append]; simp; omega)
      rw [hsN, hs1] at this
      exact this
    have c2 : ∀ W, (Op.stringOp .add s1 ⟨(Lib.decDigits D).toArray⟩).run Tryz.prog W = .ok (.string s2) W := fun W => by
      have := run_cat W (Lib.itoa N ++ [47]) (Lib.decDigits D) _ rfl (by rw [List.length_append, List.length_append]; simp; omega)
      rw [hs1, hs2] at this
      exact this
    have HS2 := Lib.hid hs2; clear hs1 hs2 hsN
    have PR := Lib.hid (nprint_any B1 f1 D m1 v2 i6 T4 nD)
    clear i5 i6 q3 b4 b6 KK OF hdl hil
    go_wp2_with fail
    with_reducible refine PR.out.mono ?_
    rintro e v3 ⟨rfl, r3⟩
    go_wp2_with fail
    go_ret
    rw [HF.out, HS2.out]
    exact ⟨rfl, below_step q4 r3⟩
end Go.Proofs.YtnifjdhjimjihaaGreatDoor
