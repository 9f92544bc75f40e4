/- The contracts of nat, integer, ratio and decimal in the engine's words. -/
import Derived.Test.YtnifjdhjimjihaaGreatDoorCtx
import Derived.Test.YtnifjdhjimjihaaGreatDoorET
import Derived.Test.YtnifjdhjimjihaaGreatDoorRoundErr
import Derived.Test.YtnifjdhjimjihaaGreatDoorPrint3
import Derived.Test.YtnifjdhjimjihaaGreatDoorParse2
namespace Go.Proofs.YtnifjdhjimjihaaGreatDoor
open Go.RowKit Lim

abbrev str (s : List UInt8) : AV := .lit (.string (bs s))
abbrev u64 (n : Int) : AV := .lit (.int .u64 n)
abbrev intA (t : Bool) (l : List Nat) : AV := .agg [boo t, .nat l]
abbrev ratA (t : Bool) (l m : List Nat) : AV := .agg [boo t, .nat l, .nat m]
abbrev decA (t : Bool) (l : List Nat) (p : Int) : AV := .agg [boo t, .nat l, i64 p]
/-- Numbers in normal form. -/
abbrev natN (n : Nat) : AV := .nat (limbs n)
abbrev intN (z : Int) : AV := .agg [boo (decide (z < 0)), .nat (limbs z.natAbs)]
abbrev ratN (z : Int) (d : Nat) : AV := .agg [boo (decide (z < 0)), .nat (limbs z.natAbs), .nat (limbs d)]
abbrev decN (z : Int) (p : Int) : AV := .agg [boo (decide (z < 0)), .nat (limbs z.natAbs), i64 p]
/-- Not too long. -/
def IsN (a : AV) (n : Nat) : Prop := ∃ l, a = .nat l ∧ val l = n ∧ l.length < 1099511627776
def IsI (a : AV) (z : Int) : Prop := ∃ t l, a = intA t l ∧ sg t (val l) = z ∧ l.length < 1099511627776
def IsR (a : AV) (z : Int) (d : Nat) : Prop := ∃ t l m, a = ratA t l m ∧ sg t (val l) = z ∧ val m = d ∧ l.length < 1099511627776 ∧ m.length < 1099511627776
theorem isN (n : Nat) (h : nlen n < 1099511627776) : IsN (natN n) n := ⟨_, rfl, val_limbs n, h⟩
theorem sg_norm (z : Int) : sg (decide (z < 0)) z.natAbs = z := by unfold sg; by_cases h : z < 0 <;> simp [h] <;> omega
theorem isI (z : Int) (h : nlen z.natAbs < 1099511627776) : IsI (intN z) z := ⟨_, _, rfl, by rw [val_limbs]; exact sg_norm z, h⟩
theorem isR (z : Int) (d : Nat) (h : nlen z.natAbs < 1099511627776) (h2 : nlen d < 1099511627776) : IsR (ratN z d) z d := ⟨_, _, _, rfl, by rw [val_limbs]; exact sg_norm z, val_limbs d, h, h2⟩

section
variable {w : World} {Z : Zone}
theorem reps1 {a : AV} {vs : Array Value} (h : Rep w Z (.agg [a]) (.agg vs)) : ∃ v, vs = #[v] ∧ Rep w Z a v := by
  obtain ⟨hl, hr⟩ := Rep.agg_iff.1 h
  obtain ⟨l, rfl⟩ : ∃ l, vs = List.toArray l := ⟨vs.toList, by simp⟩
  match l, hl with
  | [v], _ => exact ⟨v, rfl, hr 0 a v rfl rfl⟩
theorem reps2 {a b : AV} {vs : Array Value} (h : Rep w Z (.agg [a, b]) (.agg vs)) : ∃ v u, vs = #[v, u] ∧ Rep w Z a v ∧ Rep w Z b u := by
  obtain ⟨hl, hr⟩ := Rep.agg_iff.1 h
  obtain ⟨l, rfl⟩ : ∃ l, vs = List.toArray l := ⟨vs.toList, by simp⟩
  match l, hl with
  | [v, u], _ => exact ⟨v, u, rfl, hr 0 a v rfl rfl, hr 1 b u rfl rfl⟩
theorem reps3 {a b c : AV} {vs : Array Value} (h : Rep w Z (.agg [a, b, c]) (.agg vs)) : ∃ v u x, vs = #[v, u, x] ∧ Rep w Z a v ∧ Rep w Z b u ∧ Rep w Z c x := by
  obtain ⟨hl, hr⟩ := Rep.agg_iff.1 h
  obtain ⟨l, rfl⟩ : ∃ l, vs = List.toArray l := ⟨vs.toList, by simp⟩
  match l, hl with
  | [v, u, x], _ => exact ⟨v, u, x, rfl, hr 0 a v rfl rfl, hr 1 b u rfl rfl, hr 2 c x rfl rfl⟩
theorem rep_agg {cs : List AV} {v : Value} (h : Rep w Z (.agg cs) v) : ∃ vs, v = .agg vs ∧ Rep w Z (.agg cs) (.agg vs) := by
  cases h with
  | agg hl hr => exact ⟨_, rfl, .agg hl hr⟩
theorem rep_natI {a : AV} {n : Nat} (hi : IsN a n) {v : Value} (h : Rep w Z a v) : ∃ A c l, v = .slice A l.length c ∧ In w A c l n := by
  obtain ⟨l, rfl, hv, hl⟩ := hi
  cases h with
  | nat hr hc => exact ⟨_, _, l, rfl, hr, hc, hl, hv⟩
theorem rep_nat {l : List Nat} {v : Value} (h : Rep w Z (.nat l) v) : ∃ A c, v = .slice A l.length c ∧ Rd w A l ∧ l.length ≤ c := by
  cases h with
  | nat hr hc => exact ⟨_, _, rfl, hr, hc⟩
theorem rep_intI {a : AV} {z : Int} (hi : IsI a z) {v : Value} (h : Rep w Z a v) : ∃ t A c l, v = .agg #[.bool t, .slice A l.length c] ∧ InI w t A c l z := by
  obtain ⟨t, l, rfl, hv, hl⟩ := hi
  obtain ⟨vs, rfl, h⟩ := rep_agg h
  obtain ⟨v1, v2, rfl, h1, h2⟩ := reps2 h
  rw [h1.lit_eq]
  obtain ⟨A, c, rfl, hr, hc⟩ := rep_nat h2
  refine ⟨t, A, c, l, rfl, ?_⟩
  rw [← hv]
  exact InI.of ⟨hr, hc, hl, rfl⟩
theorem rep_ratI {a : AV} {z : Int} {d : Nat} (hi : IsR a z d) {v : Value} (h : Rep w Z a v) : ∃ t A c l B f m, v = .agg #[.bool t, .slice A l.length c, .slice B m.length f] ∧ InR w t A c l B f m z d := by
  obtain ⟨t, l, m, rfl, hv, hd, hl, hm⟩ := hi
  obtain ⟨vs, rfl, h⟩ := rep_agg h
  obtain ⟨v1, v2, v3, rfl, h1, h2, h3⟩ := reps3 h
  rw [h1.lit_eq]
  obtain ⟨A, c, rfl, hr, hc⟩ := rep_nat h2
  obtain ⟨B, f, rfl, hr3, hc3⟩ := rep_nat h3
  refine ⟨t, A, c, l, B, f, m, rfl, ?_, hr3, hc3, hm, hd⟩
  rw [← hv]
  exact InI.of ⟨hr, hc, hl, rfl⟩
theorem rep2 {a b : AV} {v u : Value} (h1 : Rep w Z a v) (h2 : Rep w Z b u) : Rep w Z (.agg [a, b]) (.agg #[v, u]) :=
  Rep.agg_iff.2 ⟨rfl, fun j x y hx hy => by
    match j with
    | 0 => simp at hx hy; subst hx hy; exact h1
    | 1 => simp at hx hy; subst hx hy; exact h2
    | j + 2 => simp at hx⟩
theorem rep3 {a b c : AV} {v u x : Value} (h1 : Rep w Z a v) (h2 : Rep w Z b u) (h3 : Rep w Z c x) : Rep w Z (.agg [a, b, c]) (.agg #[v, u, x]) :=
  Rep.agg_iff.2 ⟨rfl, fun j y z hx hy => by
    match j with
    | 0 => simp at hx hy; subst hx hy; exact h1
    | 1 => simp at hx hy; subst hx hy; exact h2
    | 2 => simp at hx hy; subst hx hy; exact h3
    | j + 3 => simp at hx⟩
theorem rept2 {a b : AV} {v u : Value} (h1 : Rep w Z a v) (h2 : Rep w Z b u) : Rep w Z (.tup [a, b]) (.tuple #[v, u]) := by
  cases rep2 h1 h2 with
  | agg hl hr => exact .tup hl hr
theorem rept3 {a b c : AV} {v u x : Value} (h1 : Rep w Z a v) (h2 : Rep w Z b u) (h3 : Rep w Z c x) : Rep w Z (.tup [a, b, c]) (.tuple #[v, u, x]) := by
  cases rep3 h1 h2 h3 with
  | agg hl hr => exact .tup hl hr
theorem Out.rep {A : Option Addr} {c n : Nat} (h : Out w A c n) : Rep w Z (natN n) (.slice A (limbs n).length c) := .nat h.rd h.cap
theorem OutI.rep {t : Bool} {A : Option Addr} {c : Nat} {l : List Nat} {z : Int} (h : OutI w t A c l z) : Rep w Z (intN z) (.agg #[.bool t, .slice A l.length c]) := by
  rw [h.lim, h.sgn]
  exact rep2 (.lit rfl) h.mag.rep
theorem rat_rep {t : Bool} {A B : Option Addr} {c f d : Nat} {l m : List Nat} {z : Int} (h : OutI w t A c l z) (h2 : Out w B f d) (hm : m = limbs d) : Rep w Z (ratN z d) (.agg #[.bool t, .slice A l.length c, .slice B m.length f]) := by
  rw [h.lim, h.sgn, hm]
  exact rep3 (.lit rfl) h.mag.rep h2.rep
theorem dec_rep {t : Bool} {A : Option Addr} {c : Nat} {l : List Nat} {z p : Int} (h : OutI w t A c l z) : Rep w Z (decN z p) (.agg #[.bool t, .slice A l.length c, .int .i64 p]) := by
  rw [h.lim, h.sgn]
  exact rep3 (.lit rfl) h.mag.rep (.lit rfl)
end
/-- A contract in the elder words becomes one in the engine's. -/
theorem AC.mk {f : FuncId} {args : List AV} {r : AV} (hf : FnOK Tryz.prog f) (h : ∀ w Z vs, Env w → Rep w Z (.agg args) (.agg vs) → Calls Tryz.prog f vs w fun e w' => ∃ v, e = .returned v ∧ Below w.heap.size w w' ∧ ∀ Z, Rep w' Z r v) : AC f args r :=
  ⟨hf, fun w Z vs hE _ hr => (h w Z vs hE hr).mono fun _ _ ⟨v, h1, h2, h3⟩ => ⟨v, h1, h2, h3 _⟩⟩
end Go.Proofs.YtnifjdhjimjihaaGreatDoor
