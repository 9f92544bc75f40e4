/- nat.estimate. -/
import Derived.Test.YtnifjdhjimjihaaGreatDoorDivLimb
import Derived.Deep.QuietTactic
import Derived.BigQuiet
namespace Go.Proofs.YtnifjdhjimjihaaGreatDoor
open Go.RowKit Lim

/-- The loop's state. -/
def EsRel (U V top v1 q r : Nat) : Prop := q * v1 + r = top ∧ U < (q + 1) * V ∧ r < 4294967296

theorem EsRel.start {U V u0 u1 u2 v1 v2 P U0 V0 : Nat} (h : Top U V u0 u1 u2 v1 v2 P U0 V0) {top : Nat} (ht : top = u0 * 4294967296 + u1) : EsRel U V top v1 (top / v1) (top % v1) := by
  have h1 := h.norm
  have h2 := h.bv1
  have e := Nat.div_add_mod top v1
  have hm := Nat.mod_lt top (show 0 < v1 by omega)
  have hc := Nat.mul_comm v1 (top / v1)
  refine ⟨by omega, h.not_small ?_, by omega⟩
  rw [← ht, Nat.add_mul, Nat.one_mul]
  omega
theorem EsRel.down {U V u0 u1 u2 v1 v2 P U0 V0 q r : Nat} (h : Top U V u0 u1 u2 v1 v2 P U0 V0) {top : Nat} (ht : top = u0 * 4294967296 + u1) (hr : EsRel U V top v1 q r) (hc : 4294967296 ≤ q ∨ r * 4294967296 + u2 < q * v2) :
    1 ≤ q ∧ (r + v1 < 4294967296 → EsRel U V top v1 (q - 1) (r + v1)) ∧ (4294967296 ≤ r + v1 → Near U V (q - 1)) := by
  obtain ⟨e, h1, h2⟩ := hr
  have hlt : U < q * V := by
    rcases hc with hc | hc
    · have := h.lt
      have := Nat.mul_le_mul_right V hc
      rw [Nat.mul_comm V] at *
      omega
    · exact h.too_great (by rw [e, ht]) hc
  have hq : 1 ≤ q := by
    rcases Nat.eq_zero_or_pos q with h0 | h0
    · subst h0; omega
    · exact h0
  obtain ⟨k, rfl⟩ : ∃ k, q = k + 1 := ⟨q - 1, by omega⟩
  rw [Nat.add_sub_cancel]
  have e2 : k * v1 + (r + v1) = top := by rw [← e]; grind
  refine ⟨by omega, fun hb => ⟨e2, hlt, hb⟩, fun hb => ?_⟩
  have hk := h.lt_base (by rw [e2, ht]) hb
  refine ⟨hlt, h.near (by rw [e2, ht]) hk ?_, hk⟩
  have a1 : k * v2 ≤ 4294967296 * 4294967296 := Nat.mul_le_mul (by omega) (by have := h.bv2; omega)
  have a2 := Nat.mul_le_mul_right 4294967296 hb
  omega
theorem EsRel.stop {U V u0 u1 u2 v1 v2 P U0 V0 q r : Nat} (h : Top U V u0 u1 u2 v1 v2 P U0 V0) {top : Nat} (ht : top = u0 * 4294967296 + u1) (hr : EsRel U V top v1 q r) (hq : q < 4294967296) (hc : q * v2 ≤ r * 4294967296 + u2) : Near U V q :=
  ⟨hr.2.1, h.near (by rw [hr.1, ht]) hq hc, hq⟩

set_option maxHeartbeats 2000000 in
theorem estimate_any (g1 o1 c1 g2 o2 c2 m : Nat) (w : World) {U V u0 u1 u2 v1 v2 P U0 V0 : Nat} (hT : Top U V u0 u1 u2 v1 v2 P U0 V0) (hm : m ≤ 4398046511104)
    (k0 : w.cell? ⟨g1, o1 + (m + 2), none⟩ = some (.int .u32 (u0 : Int))) (k1 : w.cell? ⟨g1, o1 + (m + 1), none⟩ = some (.int .u32 (u1 : Int))) (k2 : w.cell? ⟨g1, o1 + m, none⟩ = some (.int .u32 (u2 : Int)))
    (j1 : w.cell? ⟨g2, o2 + (m + 1), none⟩ = some (.int .u32 (v1 : Int))) (j2 : w.cell? ⟨g2, o2 + m, none⟩ = some (.int .u32 (v2 : Int))) :
    Calls Tryz.prog 137 #[.slice (some ⟨g1, o1, none⟩) (m + 3) c1, .slice (some ⟨g2, o2, none⟩) (m + 2) c2] w fun e w' => ∃ q : Nat, e = .returned (.int .u64 (q : Int)) ∧ Near U V q ∧ ∃ n, w' = w.drewN n := by
  have b0 := hT.bu0
  have b1 := hT.bu1
  have b2 := hT.bu2
  have d1 := hT.bv1
  have d2 := hT.bv2
  have dn := hT.norm
  obtain ⟨top, htop⟩ : ∃ top, top = u0 * 4294967296 + u1 := ⟨_, rfl⟩
  have hor := or_shift u0 u1 b1 b0
  rw [← htop] at hor
  have htb : top < 18446744073709551616 := by omega
  have hs := EsRel.start hT htop
  have hTop := Lib.hid htop; clear htop
  go_enter Tryz.func137, Tryz.ntmps137
  go_wp2
  go_quiet (fail)
  go_wp2
  go_loopw [7, 8] (fun dq dr wr => ∃ q r n : Nat, q < 18446744073709551616 ∧ dq = .int .u64 (q : Int) ∧ dr = .int .u64 (r : Int) ∧ EsRel U V top v1 q r ∧ wr = w.drewN n) (fun dq _ _ => (intOf dq).toNat)
  case atStart =>
    have hq : top / v1 ≤ top := Nat.div_le_self _ _
    exact ⟨top / v1, top % v1, nq, by omega, vint (by rw [← Int.natCast_ediv, IntKind.wrap_u64]; generalize top / v1 = z at *; omega), vint (by rw [Int.natCast_emod]), hs, rfl⟩
  case round =>
    obtain ⟨q, r, n, hqb, rfl, rfl, hr, rfl⟩ := hrel
    have hrb := hr.2.2
    obtain ⟨z, hz⟩ : ∃ z, z = r * 4294967296 + u2 := ⟨_, rfl⟩
    have hor2 := or_shift r u2 b2 hrb
    rw [← hz] at hor2
    have hzb : z < 18446744073709551616 := by omega
    have hZ := Lib.hid hz; clear hz
    have hR := Lib.hid hr; clear hr
    have i0 : (0 : Int) ≤ (m : Int) := by omega
    have i1 : (m : Int) + 2 - 1 = (m : Int) + 1 := by omega
    have i2 : (m : Int) + 2 - 2 = (m : Int) := by omega
    have i3 : (m : Int) < (m : Int) + 2 := by omega
    have i4 : (m : Int) < (m : Int) + 3 := by omega
    have i5 : IntKind.i64.wrap ((m : Int) + 2 - 2) = (m : Int) := by rw [IntKind.wrap_i64]; omega
    by_cases hge : 4294967296 ≤ q
    · obtain ⟨p1, p2, p3⟩ := EsRel.down hT hTop.out hR.out (.inl hge)
      have P2 := Lib.hid p2; clear p2
      have P3 := Lib.hid p3; clear p3
      have hg : ((q : Int) / 4294967296 != 0) = true := by rw [bne_iff_ne]; omega
      by_cases hbr : r + v1 < 4294967296
      · have hg2 : (((r : Int) + (v1 : Int)) / 4294967296 != 0) = false := by simp; omega
        go_wp2
        go_quiet (fail)
        go_wp2
        go_roundw
        case rel => exact ⟨q - 1, r + v1, _, by omega, vint (by omega), vint (by omega), P2.out hbr, rfl⟩
        case measure => simp [intOf]; omega
      · have hg2 : (((r : Int) + (v1 : Int)) / 4294967296 != 0) = true := by rw [bne_iff_ne]; omega
        go_wp2
        go_quiet (fail)
        go_wp2
        go_ret
        exact ⟨q - 1, ret_int (by omega), P3.out (by omega), _, rfl⟩
    have hg : ((q : Int) / 4294967296 != 0) = false := by simp; omega
    have hmul : q * v2 ≤ 18446744065119617025 := Nat.mul_le_mul (show q ≤ 4294967295 by omega) (show v2 ≤ 4294967295 by omega)
    have hmi : (q : Int) * (v2 : Int) ≤ 18446744065119617025 := by rw [← Int.natCast_mul]; omega
    have hm0 : 0 ≤ (q : Int) * (v2 : Int) := by rw [← Int.natCast_mul]; omega
    have hwm : IntKind.u64.wrap ((q : Int) * (v2 : Int)) = (q : Int) * (v2 : Int) := by rw [IntKind.wrap_u64]; omega
    by_cases hgt : z < q * v2
    · obtain ⟨p1, p2, p3⟩ := EsRel.down hT hTop.out hR.out (.inr (by rw [← hZ.out]; exact hgt))
      have P2 := Lib.hid p2; clear p2
      have P3 := Lib.hid p3; clear p3
      have hgi : (z : Int) < (q : Int) * (v2 : Int) := by rw [← Int.natCast_mul]; omega
      by_cases hbr : r + v1 < 4294967296
      · have hg2 : (((r : Int) + (v1 : Int)) / 4294967296 != 0) = false := by simp; omega
        go_wp2
        go_quiet (fail)
        go_wp2
        go_roundw
        case rel => exact ⟨q - 1, r + v1, _, by omega, vint (by omega), vint (by omega), P2.out hbr, rfl⟩
        case measure => simp [intOf]; omega
      · have hg2 : (((r : Int) + (v1 : Int)) / 4294967296 != 0) = true := by rw [bne_iff_ne]; omega
        go_wp2
        go_quiet (fail)
        go_wp2
        go_ret
        exact ⟨q - 1, ret_int (by omega), P3.out (by omega), _, rfl⟩
    · have hn := EsRel.stop hT hTop.out hR.out (by omega) (by rw [← hZ.out]; omega)
      have hgi : decide ((z : Int) < (q : Int) * (v2 : Int)) = false := by rw [← Int.natCast_mul]; simp; omega
      go_wp2
      go_quiet (fail)
      go_wp2
      go_ret
      exact ⟨q, rfl, hn, by simp only [World.drewN_drewN]; exact ⟨_, rfl⟩⟩
end Go.Proofs.YtnifjdhjimjihaaGreatDoor
