/- nat.subtract, nat.addBack. -/
import Derived.Test.YtnifjdhjimjihaaGreatDoorSub
namespace Go.Proofs.YtnifjdhjimjihaaGreatDoor
open Go.RowKit Lim

/-- A row p in the middle of block g: the limbs below i are q. -/
def Mid (w : World) (g : Nat) (pre q p post : List Nat) (i : Nat) : Prop := q.length = i ∧ Dig q ∧ Blk w g (pre ++ (q ++ p.drop i) ++ post)
theorem Mid.cell {w : World} {g i : Nat} {pre q p post : List Nat} (h : Mid w g pre q p post i) (hi : i < p.length) : w.cell? ⟨g, pre.length + i, none⟩ = some (.int .u32 ((p[i] : Nat) : Int)) ∧ w.frozen? ⟨g, pre.length + i, none⟩ = false := by
  obtain ⟨hq, hd, hb⟩ := h
  have h1 := mid_get (pre := pre) (post := post) hq hi
  obtain ⟨hl, he⟩ := List.getElem?_eq_some_iff.1 h1
  have h2 := hb.cell hl
  rw [he] at h2
  exact ⟨h2, hb.frozen _⟩
theorem Mid.set {w : World} {g i : Nat} {pre q p post : List Nat} (h : Mid w g pre q p post i) (hi : i < p.length) {x : Nat} (hx : x < 4294967296) {u : Int} (hu : u = (x : Int)) : Mid (w.setCell ⟨g, pre.length + i, none⟩ (.int .u32 u)) g pre (q ++ [x]) p post (i + 1) := by
  obtain ⟨hq, hd, hb⟩ := h
  have h1 := hb.set (pre.length + i) x hu
  rw [mid_set hq hi] at h1
  exact ⟨by simp [hq], dig_snoc hd hx, h1⟩

/-- The loop's state. -/
def SbRel (w wr : World) (g : Nat) (pre p post v : List Nat) (dg i c b : Nat) : Prop :=
  ∃ q, Mid wr g pre q p post i ∧ val q + dg * val (v.take i) = val (p.take i) + (c + b) * pw i ∧ c < 4294967296 ∧ b ≤ 1 ∧ Only g w wr

theorem SbRel.step {w wr : World} {g dg k c b : Nat} {pre p post v : List Nat} (h : SbRel w wr g pre p post v dg k c b) (hk : k < p.length) {x d t : Nat} (hx : p.getD k 0 = x) (hd : v.getD k 0 = d) (hxb : x < 4294967296) (ht : t = dg * d + c) (htb : t < 18446744073709551616) {u : Int} (hu : u = ((x : Int) - (t % 4294967296 + b : Nat)) % 4294967296) :
    SbRel w (wr.setCell ⟨g, pre.length + k, none⟩ (.int .u32 u)) g pre p post v dg (k + 1) (t / 4294967296) (bor x (t % 4294967296 + b)) := by
  obtain ⟨q, hm, hv, hc, hb, ho⟩ := h
  have hu' : u = (((x + 4294967296 - (t % 4294967296 + b)) % 4294967296 : Nat) : Int) := by omega
  have hmm : (x + 4294967296 - (t % 4294967296 + b)) % 4294967296 + t % 4294967296 + b = x + 4294967296 * bor x (t % 4294967296 + b) := by unfold bor; split <;> omega
  refine ⟨_, hm.set hk (Nat.mod_lt _ (by omega)) hu', ?_, by omega, by unfold bor; split <;> omega, ho.setCell _ _⟩
  rw [val_snoc, hm.1, val_take_succ', val_take_succ', hx, hd, pw_succ]
  exact subtract_step hv ht hmm
theorem SbRel.last {w wr : World} {g dg c b : Nat} {pre p post v : List Nat} (h : SbRel w wr g pre p post v dg v.length c b) (hl : p.length = v.length + 1) {x : Nat} (hx : p.getD v.length 0 = x) (hxb : x < 4294967296) {u : Int} (hu : u = ((x : Int) - (c + b : Nat)) % 4294967296) :
    ∃ p', p'.length = p.length ∧ Dig p' ∧ Blk (wr.setCell ⟨g, pre.length + v.length, none⟩ (.int .u32 u)) g (pre ++ p' ++ post) ∧ val p' + dg * val v = val p + bor x (c + b) * pw p.length ∧ Only g w (wr.setCell ⟨g, pre.length + v.length, none⟩ (.int .u32 u)) := by
  obtain ⟨q, hm, hv, hc, hb, ho⟩ := h
  have hu' : u = (((x + 4294967296 - (c + b)) % 4294967296 : Nat) : Int) := by omega
  have hmm : (x + 4294967296 - (c + b)) % 4294967296 + (c + b) = x + 4294967296 * bor x (c + b) := by unfold bor; split <;> omega
  have h2 := hm.set (by omega) (Nat.mod_lt _ (by omega)) hu'
  generalize (x + 4294967296 - (c + b)) % 4294967296 = m at *
  obtain ⟨h3, h4, h5⟩ := h2
  rw [← hl, List.drop_length, List.append_nil] at h5
  refine ⟨_, by rw [h3, hl], h4, h5, ?_, ho.setCell _ _⟩
  rw [List.take_of_length_le (Nat.le_refl _)] at hv
  have e1 : val p = val (p.take v.length) + pw v.length * x := by
    have := val_take_succ' p v.length
    rw [← hl, List.take_of_length_le (Nat.le_refl _), hx] at this
    exact this
  rw [val_snoc, hm.1, e1, hl, pw_succ]
  have : pw v.length * (m + (c + b)) = pw v.length * (x + 4294967296 * bor x (c + b)) := by rw [hmm]
  grind

theorem bor_bne (x y : Nat) : (((bor x y : Nat) : Int) != 0) = decide (bor x y = 1) := by unfold bor; split <;> rfl
theorem wrap_three (x t b : Nat) : IntKind.u64.wrap (IntKind.u64.wrap ((x : Int) - (t : Int) % 4294967296) - b) = ((x : Int) - (t % 4294967296 + b : Nat)) % 18446744073709551616 := by rw [IntKind.wrap_u64, IntKind.wrap_u64]; omega
theorem wrap_four (x c b : Nat) : IntKind.u64.wrap (IntKind.u64.wrap ((x : Int) - (c : Int)) - b) = ((x : Int) - (c + b : Nat)) % 18446744073709551616 := by rw [IntKind.wrap_u64, IntKind.wrap_u64]; omega

set_option maxHeartbeats 1000000 in
theorem subtract_core (g g2 o2 c1 c2 dg : Nat) (pre p post v : List Nat) (w : World) (hb : Blk w g (pre ++ p ++ post)) (hp : Dig p) (hl : p.length = v.length + 1) (hne : g2 ≠ g) (hv : Rd w (some ⟨g2, o2, none⟩) v) (hn : v.length ≤ 4398046511104) (hdg : dg < 4294967296) (hc1 : v.length + 1 ≤ c1) :
    Calls Tryz.prog 138 #[.slice (some ⟨g, pre.length, none⟩) (v.length + 1) c1, .slice (some ⟨g2, o2, none⟩) v.length c2, .int .u64 (dg : Int)] w fun e w' => ∃ nb : Nat, nb ≤ 1 ∧ e = .returned (.bool (decide (nb = 1))) ∧
      ∃ p', p'.length = p.length ∧ Dig p' ∧ Blk w' g (pre ++ p' ++ post) ∧ val p' + dg * val v = val p + nb * pw p.length ∧ Only g w w' := by
  have hD := hv.1
  go_enter Tryz.func138, Tryz.ntmps138
  go_wp2
  go_loopw [7, 8, 16] (fun cc bb i wr => ∃ k c b : Nat, k ≤ v.length ∧ i = .int .i64 (k : Int) ∧ cc = .int .u64 (c : Int) ∧ bb = .int .u64 (b : Int) ∧ SbRel w wr g pre p post v dg k c b) (fun _ _ i _ => v.length - (intOf i).toNat)
  case atStart =>
    exact ⟨0, 0, 0, by omega, rfl, rfl, rfl, [], ⟨rfl, dig_nil, by simpa using hb⟩, by simp [val], by omega, by omega, Only.refl _ _⟩
  case round =>
    obtain ⟨k, c, b, hk, rfl, rfl, rfl, hrel⟩ := hrel
    have hcb : c < 4294967296 := by obtain ⟨_, _, _, h, _⟩ := hrel; exact h
    have hbb : b ≤ 1 := by obtain ⟨_, _, _, _, h, _⟩ := hrel; exact h
    have ho : Only g w wr := by obtain ⟨_, _, _, _, _, h⟩ := hrel; exact h
    have hkp : k < p.length := by omega
    obtain ⟨x, hx⟩ : ∃ x, p[k] = x := ⟨_, rfl⟩
    have hcx : wr.cell? ⟨g, pre.length + k, none⟩ = some (.int .u32 (x : Int)) := by obtain ⟨q, hm, _⟩ := hrel; rw [← hx]; exact (hm.cell hkp).1
    have hfx : wr.frozen? ⟨g, pre.length + k, none⟩ = false := by obtain ⟨q, hm, _⟩ := hrel; exact (hm.cell hkp).2
    have hX := Lib.hid (getD_of hkp hx)
    have hxb : x < 4294967296 := by rw [← hx]; exact dig_get hp hkp
    clear hx
    by_cases hlt : k < v.length
    · obtain ⟨b1, o1, e1, hlt1, hcy⟩ := (hv.only ho hne).at_ hlt
      injection e1 with e1
      injection e1 with e2 e3
      subst e2 e3
      obtain ⟨d, hd⟩ : ∃ d, v[k] = d := ⟨_, rfl⟩
      rw [hd] at hcy
      have hY := Lib.hid (getD_of hlt hd)
      have hdb : d < 4294967296 := by rw [← hd]; exact dig_get hD hlt
      clear hd
      have hmul : dg * d ≤ 18446744065119617025 := Nat.mul_le_mul (show dg ≤ 4294967295 by omega) (show d ≤ 4294967295 by omega)
      obtain ⟨t, ht⟩ : ∃ t, t = dg * d + c := ⟨_, rfl⟩
      have htb : t < 18446744073709551616 := by omega
      have hmi : (dg : Int) * (d : Int) ≤ 18446744065119617025 := by rw [← Int.natCast_mul]; omega
      have hm0 : 0 ≤ (dg : Int) * (d : Int) := by rw [← Int.natCast_mul]; omega
      have htt : (dg : Int) * (d : Int) + (c : Int) = (t : Int) := by rw [← Int.natCast_mul]; omega
      have hst := Lib.hid (fun (u : Int) => hrel.step hkp hX.out hY.out hxb ht htb (u := u))
      clear ht
      go_wp2
      go_roundw
      case rel => exact ⟨k + 1, t / 4294967296, bor x (t % 4294967296 + b), by omega, by go_num, vint (by omega), vint (by rw [wrap_three]; exact bor_eq x _ hxb (by omega)), hst.out _ (by rw [wrap_three]; omega)⟩
      case measure => simp [intOf]; omega
    · obtain rfl : k = v.length := by omega
      have hst := Lib.hid (fun (u : Int) => hrel.last hl hX.out hxb (u := u))
      go_wp2
      go_ret
      refine ⟨bor x (c + b), by unfold bor; split <;> omega, ?_, hst.out _ (by rw [wrap_four]; omega)⟩
      rw [← bor_bne, ← bor_eq x (c + b) hxb (by omega), ← wrap_four]
      rfl
/-- The digit fits. -/
theorem subtract_no (g g2 o2 c1 c2 dg : Nat) (pre p post v : List Nat) (w : World) (hb : Blk w g (pre ++ p ++ post)) (hp : Dig p) (hl : p.length = v.length + 1) (hne : g2 ≠ g) (hv : Rd w (some ⟨g2, o2, none⟩) v) (hn : v.length ≤ 4398046511104) (hdg : dg < 4294967296) (hc1 : v.length + 1 ≤ c1) (hle : dg * val v ≤ val p) :
    Calls Tryz.prog 138 #[.slice (some ⟨g, pre.length, none⟩) (v.length + 1) c1, .slice (some ⟨g2, o2, none⟩) v.length c2, .int .u64 (dg : Int)] w fun e w' => e = .returned (.bool false) ∧
      ∃ p', p'.length = p.length ∧ Dig p' ∧ Blk w' g (pre ++ p' ++ post) ∧ val p' = val p - dg * val v ∧ Only g w w' := by
  refine (subtract_core g g2 o2 c1 c2 dg pre p post v w hb hp hl hne hv hn hdg hc1).mono ?_
  rintro e w' ⟨nb, hnb, rfl, p', h1, h2, h3, h4, h5⟩
  have hlt := val_lt h2
  rw [h1] at hlt
  have h0 : nb = 0 := by
    rcases Nat.eq_zero_or_pos nb with h0 | h0
    · exact h0
    · obtain rfl : nb = 1 := by omega
      omega
  subst h0
  exact ⟨rfl, p', h1, h2, h3, by omega, h5⟩
/-- The digit is one too great. -/
theorem subtract_yes (g g2 o2 c1 c2 dg : Nat) (pre p post v : List Nat) (w : World) (hb : Blk w g (pre ++ p ++ post)) (hp : Dig p) (hl : p.length = v.length + 1) (hne : g2 ≠ g) (hv : Rd w (some ⟨g2, o2, none⟩) v) (hn : v.length ≤ 4398046511104) (hdg : dg < 4294967296) (hc1 : v.length + 1 ≤ c1) (hlt : val p < dg * val v) :
    Calls Tryz.prog 138 #[.slice (some ⟨g, pre.length, none⟩) (v.length + 1) c1, .slice (some ⟨g2, o2, none⟩) v.length c2, .int .u64 (dg : Int)] w fun e w' => e = .returned (.bool true) ∧
      ∃ p', p'.length = p.length ∧ Dig p' ∧ Blk w' g (pre ++ p' ++ post) ∧ val p' + dg * val v = val p + pw p.length ∧ Only g w w' := by
  refine (subtract_core g g2 o2 c1 c2 dg pre p post v w hb hp hl hne hv hn hdg hc1).mono ?_
  rintro e w' ⟨nb, hnb, rfl, p', h1, h2, h3, h4, h5⟩
  have h0 : nb = 1 := by
    rcases Nat.eq_zero_or_pos nb with h0 | h0
    · subst h0; omega
    · omega
  subst h0
  exact ⟨rfl, p', h1, h2, h3, by omega, h5⟩

/-- addBack's loop. -/
def AbRel (w wr : World) (g : Nat) (pre p post v : List Nat) (i c : Nat) : Prop :=
  ∃ q, Mid wr g pre q p post i ∧ val q + c * pw i = val (p.take i) + val (v.take i) ∧ c ≤ 1 ∧ Only g w wr
theorem AbRel.step {w wr : World} {g k c : Nat} {pre p post v : List Nat} (h : AbRel w wr g pre p post v k c) (hk : k < p.length) {x d : Nat} (hx : p.getD k 0 = x) (hd : v.getD k 0 = d) (hxb : x < 4294967296) (hdb : d < 4294967296) {u : Int} (hu : u = (((x + c + d) % 4294967296 : Nat) : Int)) :
    AbRel w (wr.setCell ⟨g, pre.length + k, none⟩ (.int .u32 u)) g pre p post v (k + 1) ((x + c + d) / 4294967296) := by
  obtain ⟨q, hm, hv, hc, ho⟩ := h
  refine ⟨_, hm.set hk (Nat.mod_lt _ (by omega)) hu, ?_, by omega, ho.setCell _ _⟩
  rw [val_snoc, hm.1, val_take_succ', val_take_succ', hx, hd, pw_succ]
  exact add_step hv rfl
theorem AbRel.last {w wr : World} {g c : Nat} {pre p post v : List Nat} (h : AbRel w wr g pre p post v v.length c) (hl : p.length = v.length + 1) {x : Nat} (hx : p.getD v.length 0 = x) {u : Int} (hu : u = (((x + c) % 4294967296 : Nat) : Int)) :
    ∃ p', p'.length = p.length ∧ Dig p' ∧ Blk (wr.setCell ⟨g, pre.length + v.length, none⟩ (.int .u32 u)) g (pre ++ p' ++ post) ∧ (∃ k, val p' + k * pw p.length = val p + val v) ∧ Only g w (wr.setCell ⟨g, pre.length + v.length, none⟩ (.int .u32 u)) := by
  obtain ⟨q, hm, hv, hc, ho⟩ := h
  obtain ⟨h3, h4, h5⟩ := hm.set (by omega) (Nat.mod_lt _ (by omega)) hu
  rw [← hl, List.drop_length, List.append_nil] at h5
  refine ⟨_, by rw [h3, hl], h4, h5, ⟨(x + c) / 4294967296, ?_⟩, ho.setCell _ _⟩
  rw [List.take_of_length_le (Nat.le_refl _)] at hv
  have e1 : val p = val (p.take v.length) + pw v.length * x := by
    have := val_take_succ' p v.length
    rw [← hl, List.take_of_length_le (Nat.le_refl _), hx] at this
    exact this
  rw [val_snoc, hm.1, e1, hl, pw_succ]
  have := add_step (a := x) (b := 0) hv rfl
  simp only [Nat.add_zero, Nat.mul_zero] at this
  omega

set_option maxHeartbeats 1000000 in
theorem addBack_any (g g2 o2 c1 c2 : Nat) (pre p post v : List Nat) (w : World) (hb : Blk w g (pre ++ p ++ post)) (hp : Dig p) (hl : p.length = v.length + 1) (hne : g2 ≠ g) (hv : Rd w (some ⟨g2, o2, none⟩) v) (hn : v.length ≤ 4398046511104) (hc1 : v.length + 1 ≤ c1) :
    Calls Tryz.prog 139 #[.slice (some ⟨g, pre.length, none⟩) (v.length + 1) c1, .slice (some ⟨g2, o2, none⟩) v.length c2] w fun e w' => e = .returned (.tuple #[]) ∧
      ∃ p', p'.length = p.length ∧ Dig p' ∧ Blk w' g (pre ++ p' ++ post) ∧ (∃ k, val p' + k * pw p.length = val p + val v) ∧ Only g w w' := by
  have hD := hv.1
  go_enter Tryz.func139, Tryz.ntmps139
  go_wp2
  go_loopw [4, 10] (fun cc i wr => ∃ k c : Nat, k ≤ v.length ∧ i = .int .i64 (k : Int) ∧ cc = .int .u64 (c : Int) ∧ AbRel w wr g pre p post v k c) (fun _ i _ => v.length - (intOf i).toNat)
  case atStart =>
    exact ⟨0, 0, by omega, rfl, rfl, [], ⟨rfl, dig_nil, by simpa using hb⟩, by simp [val], by omega, Only.refl _ _⟩
  case round =>
    obtain ⟨k, c, hk, rfl, rfl, hrel⟩ := hrel
    have hcb : c ≤ 1 := by obtain ⟨_, _, _, h, _⟩ := hrel; exact h
    have ho : Only g w wr := by obtain ⟨_, _, _, _, h⟩ := hrel; exact h
    have hkp : k < p.length := by omega
    obtain ⟨x, hx⟩ : ∃ x, p[k] = x := ⟨_, rfl⟩
    have hcx : wr.cell? ⟨g, pre.length + k, none⟩ = some (.int .u32 (x : Int)) := by obtain ⟨q, hm, _⟩ := hrel; rw [← hx]; exact (hm.cell hkp).1
    have hfx : wr.frozen? ⟨g, pre.length + k, none⟩ = false := by obtain ⟨q, hm, _⟩ := hrel; exact (hm.cell hkp).2
    have hX := Lib.hid (getD_of hkp hx)
    have hxb : x < 4294967296 := by rw [← hx]; exact dig_get hp hkp
    clear hx
    by_cases hlt : k < v.length
    · obtain ⟨b1, o1, e1, hlt1, hcy⟩ := (hv.only ho hne).at_ hlt
      injection e1 with e1
      injection e1 with e2 e3
      subst e2 e3
      obtain ⟨d, hd⟩ : ∃ d, v[k] = d := ⟨_, rfl⟩
      rw [hd] at hcy
      have hY := Lib.hid (getD_of hlt hd)
      have hdb : d < 4294967296 := by rw [← hd]; exact dig_get hD hlt
      clear hd
      have hst := Lib.hid (fun (u : Int) => hrel.step hkp hX.out hY.out hxb hdb (u := u))
      go_wp2
      go_roundw
      case rel => exact ⟨k + 1, (x + c + d) / 4294967296, by omega, by go_num, vint (by omega), hst.out _ (by omega)⟩
      case measure => simp [intOf]; omega
    · obtain rfl : k = v.length := by omega
      have hst := Lib.hid (fun (u : Int) => hrel.last hl hX.out (u := u))
      go_wp2
      go_end0
      exact ⟨rfl, hst.out _ (by omega)⟩
end Go.Proofs.YtnifjdhjimjihaaGreatDoor
