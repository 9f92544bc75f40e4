/- decimal.isDigits, nat.Parse. -/
import Derived.Test.YtnifjdhjimjihaaGreatDoorPrint3
namespace Go.Proofs.YtnifjdhjimjihaaGreatDoor
open Go.RowKit Lim
attribute [local go_sem ↓] Go.wp_at_zero Go.wp_at_succ

def isD (b : UInt8) : Bool := decide (48 ≤ b.toNat) && decide (b.toNat ≤ 57)
def isDs (s : List UInt8) : Bool := s.all isD && !s.isEmpty

theorem toList_loop (a : ByteArray) : ∀ (n i : Nat) (r : List UInt8), a.size - i = n → ByteArray.toList.loop a i r = r.reverse ++ a.data.toList.drop i := by
  intro n
  induction n with
  | zero =>
    intro i r h
    rw [ByteArray.toList.loop, if_neg (by omega), List.drop_eq_nil_of_le (by rw [Array.length_toList]; exact (show a.size ≤ i by omega)), List.append_nil]
  | succ n ih =>
    intro i r h
    have hi : i < a.size := by omega
    have hi2 : i < a.data.toList.length := by rw [Array.length_toList]; exact hi
    rw [ByteArray.toList.loop, if_pos hi, ih (i + 1) _ (by omega), List.drop_eq_getElem_cons hi2]
    have e : a.get! i = a.data.toList[i] := by
      show a.data[i]! = _
      rw [getElem!_pos a.data i hi]
      simp
    rw [e]
    simp
theorem toList_bs (s : List UInt8) : (bs s).toList = s := by
  unfold ByteArray.toList
  rw [toList_loop _ _ _ _ rfl]
  simp [bs]

theorem isDs_no {s : List UInt8} {k : Nat} (hk : k < s.length) (h : ¬ (48 ≤ (s[k]'hk).toNat ∧ (s[k]'hk).toNat ≤ 57)) : isDs s = false := by
  have : s.all isD = false := by
    rw [List.all_eq_false]
    exact ⟨s[k], List.getElem_mem hk, by unfold isD; simp; omega⟩
  unfold isDs
  rw [this, Bool.false_and]
theorem take_all {s : List UInt8} {k : Nat} (h : (s.take k).all isD = true) (hk : k < s.length) (hd : 48 ≤ (s[k]'hk).toNat ∧ (s[k]'hk).toNat ≤ 57) : (s.take (k + 1)).all isD = true := by
  rw [List.take_succ_eq_append_getElem hk, List.all_append, h, Bool.true_and]
  simp [isD, hd]

set_option maxHeartbeats 1000000 in
set_option maxRecDepth 100000 in
theorem isd_any (s : List UInt8) (hs : s.length ≤ 4611686018427387904) (w : World) :
    Calls Tryz.prog 54 #[.string (bs s)] w fun e w' => e = .returned (.bool (isDs s)) ∧ w = w' := by
  obtain ⟨sb, hsb⟩ : ∃ sb, bs s = sb := ⟨_, rfl⟩
  have hsz : sb.size = s.length := by rw [← hsb, bs_size]
  rw [hsb]
  go_enter Tryz.func54, Tryz.ntmps54
  go_wp2_with fail
  go_loop [3] (fun v => ∃ k : Nat, k ≤ s.length ∧ (s.take k).all isD = true ∧ v = .int .i64 (k : Int)) (fun v => (s.length - intOf v).toNat)
  case atStart => exact ⟨0, Nat.zero_le _, by simp, rfl⟩
  case round =>
    obtain ⟨k, hk, hall, rfl⟩ := hrel
    have HA := Lib.hid hall; clear hall
    by_cases hlt : k < s.length
    · have hltI : (k : Int) < (s.length : Int) := by omega
      obtain ⟨b, hb⟩ : ∃ b, (s[k]'hlt).toNat = b := ⟨_, rfl⟩
      have hbk : (sb[k]'(by omega)).toNat = b := by subst hsb; exact hb
      have HB := Lib.hid hb; clear hb
      by_cases h48 : b < 48
      · have h48I : (b : Int) < 48 := by omega
        go_wp2_with fail
        go_ret
        rw [isDs_no hlt (by rw [HB.out]; omega)]
        exact ⟨rfl, rfl⟩
      · have h48I : ¬ (b : Int) < 48 := by omega
        have h48d : decide ((b : Int) < 48) = false := by simp; omega
        by_cases h57 : 57 < b
        · have h57I : (57 : Int) < (b : Int) := by omega
          go_wp2_with fail
          go_ret
          rw [isDs_no hlt (by rw [HB.out]; omega)]
          exact ⟨rfl, rfl⟩
        · have h57I : ¬ (57 : Int) < (b : Int) := by omega
          have h57d : decide ((57 : Int) < (b : Int)) = false := by simp; omega
          go_wp2_with fail
          refine ⟨⟨k + 1, by omega, take_all HA.out hlt (by rw [HB.out]; omega), by simp⟩, by simp [intOf]; omega⟩
    · have hk2 : k = s.length := by omega
      have hall := HA.out
      rw [hk2, List.take_length] at hall
      have hltI : ¬ (k : Int) < (s.length : Int) := by omega
      have hltd : decide ((k : Int) < (s.length : Int)) = false := by simp; omega
      have hfin : isDs s = !s.isEmpty := by unfold isDs; rw [hall, Bool.true_and]
      have hTL : sb.toList = s := by rw [← hsb, toList_bs]
      have HF := Lib.hid hfin
      clear hfin hall
      go_wp2_with fail
      go_ret
      rw [HF.out]
      exact ⟨rfl, rfl⟩
end Go.Proofs.YtnifjdhjimjihaaGreatDoor
