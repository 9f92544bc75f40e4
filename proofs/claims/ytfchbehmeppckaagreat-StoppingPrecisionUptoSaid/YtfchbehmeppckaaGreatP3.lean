import Derived.Test.YtfchbehmeppckaaGreatP2
import Derived.Deep.DeepHandedRow
import Derived.Deep.DeepWitnessRowRef
import Derived.Lib.LaidTab
import Derived.Stop.LaidErr
import Derived.ChangeMaps5
/- Texts merged: WSp WSq. -/
/- Policies and weights as arguments. -/
set_option linter.unusedSimpArgs false
set_option linter.unusedVariables false
namespace Go.Proofs.YtfchbehmeppckaaGreat
open Go.RowKit Lim

section
variable {B : Nat} {cs : List AV}
theorem Ok.pair {f r : SH} (h : Ok B (.cons f r) cs) : ∃ a b, cs = a ++ b ∧ Ok B f a ∧ Ok B r b := by
  cases h with | cons h1 h2 => exact ⟨_, _, rfl, h1, h2⟩
theorem Ok.done (h : Ok B .nil cs) : cs = [] := by cases h; rfl
theorem Ok.i64 (h : Ok B (.int .i64) cs) : ∃ z : Int, cs = [Go.Proofs.YtfchbehmeppckaaGreat.i64 z] ∧ -9223372036854775808 ≤ z ∧ z ≤ 9223372036854775807 := by
  cases h with | int h => exact ⟨_, rfl, h⟩
theorem Ok.boo (h : Ok B .bool cs) : ∃ b : Bool, cs = [Go.Proofs.YtfchbehmeppckaaGreat.boo b] := by cases h; exact ⟨_, rfl⟩
theorem Ok.s (h : Ok B .str cs) : ∃ l : List UInt8, cs = [Go.Proofs.YtfchbehmeppckaaGreat.str l] ∧ l.length ≤ B := by cases h; exact ⟨_, rfl, by assumption⟩
theorem Ok.limbs (h : Ok B .nat cs) : ∃ l : List Nat, cs = [.nat l] ∧ Dig l ∧ l.length ≤ B := by cases h; exact ⟨_, rfl, by assumption, by assumption⟩
theorem Ok.row {e : SH} (h : Ok B (.sl e) cs) : ∃ xs : List (List AV), cs = [.sl e.sz (xs.map (mkEl e.sz))] ∧ xs.length ≤ B ∧ ∀ x, x ∈ xs → Ok B e x := by
  cases h; exact ⟨_, rfl, by assumption, by assumption⟩
theorem map_of {α β : Type} {f : α → β} {Q : α → Prop} : ∀ (xs : List β), (∀ x, x ∈ xs → ∃ r, x = f r ∧ Q r) → ∃ rs : List α, xs = rs.map f ∧ ∀ r ∈ rs, Q r
  | [], _ => ⟨[], rfl, fun r hr => by simp at hr⟩
  | x :: xs, h => by
    obtain ⟨r, rfl, hr⟩ := h x (by simp)
    obtain ⟨rs, rfl, hrs⟩ := map_of xs (fun y hy => h y (by simp [hy]))
    exact ⟨r :: rs, rfl, fun q hq => by
      rcases List.mem_cons.1 hq with rfl | hq
      · exact hr
      · exact hrs q hq⟩
/-- Elements of a shape, each read as a value. -/
theorem Ok.list {e : SH} {α : Type} {f : α → List AV} {Q : α → Prop} (h : Ok B (.sl e) cs) (he : ∀ x, Ok B e x → ∃ r, x = f r ∧ Q r) : ∃ rs : List α, cs = [.sl e.sz (rs.map fun r => mkEl e.sz (f r))] ∧ rs.length ≤ B ∧ ∀ r ∈ rs, Q r := by
  obtain ⟨xs, rfl, h1, h2⟩ := h.row
  obtain ⟨rs, rfl, h3⟩ := map_of xs (fun x hx => he x (h2 x hx))
  refine ⟨rs, ?_, by simpa using h1, h3⟩
  rw [List.map_map]
  rfl
abbrev shI : SH := .int .i64
abbrev shR : SH := .cons (.cons .bool (.cons .nat .nil)) (.cons .nat .nil)
abbrev shRule : SH := .cons shI (.cons shI (.cons shI (.cons shI (.cons .str .nil))))
abbrev shPol : SH := .cons (.cons shI (.cons (.sl shRule) .nil)) (.cons (.cons (.sl shI) (.cons (.sl shI) .nil)) (.cons (.sl (.cons shI (.cons shI .nil))) (.cons shI (.cons shR (.cons shI (.cons shR (.cons shI (.cons shR (.cons shI .nil)))))))))
theorem Ok.rat (h : Ok B shR cs) (hB : B ≤ 2000000) : ∃ r : RatV, cs = [Go.Proofs.YtfchbehmeppckaaGreat.boo r.t, .nat r.l, .nat r.m] ∧ ROK r := by
  obtain ⟨a, b, rfl, h1, h2⟩ := h.pair
  obtain ⟨c, d, rfl, h3, h4⟩ := h1.pair
  obtain ⟨e, f, rfl, h5, h6⟩ := h4.pair
  obtain ⟨g, i, rfl, h7, h8⟩ := h2.pair
  obtain ⟨t, rfl⟩ := h3.boo
  obtain ⟨l, rfl, k1, k2⟩ := h5.limbs
  obtain ⟨m, rfl, k3, k4⟩ := h7.limbs
  rw [h6.done, h8.done]
  exact ⟨⟨t, l, m⟩, rfl, k1, k3, by show l.length ≤ _; omega, by show m.length ≤ _; omega⟩
theorem Ok.ints (h : Ok B (.sl shI) cs) : ∃ l : List Int, cs = [Go.Proofs.YtfchbehmeppckaaGreat.ints l] ∧ l.length ≤ B ∧ ∀ z ∈ l, -9223372036854775808 ≤ z ∧ z ≤ 9223372036854775807 := by
  obtain ⟨l, rfl, h1, h2⟩ := h.list (f := fun z : Int => [Go.Proofs.YtfchbehmeppckaaGreat.i64 z]) (Q := fun z => -9223372036854775808 ≤ z ∧ z ≤ 9223372036854775807) (fun x hx => hx.i64)
  exact ⟨l, rfl, h1, h2⟩
theorem Ok.rule (h : Ok B shRule cs) : ∃ r : RuleV, cs = ruleC r ∧ r.code.length ≤ B := by
  obtain ⟨a, b, rfl, h1, h2⟩ := h.pair
  obtain ⟨c, d, rfl, h3, h4⟩ := h2.pair
  obtain ⟨e, f, rfl, h5, h6⟩ := h4.pair
  obtain ⟨g, i, rfl, h7, h8⟩ := h6.pair
  obtain ⟨j, k, rfl, h9, h10⟩ := h8.pair
  obtain ⟨z1, rfl, _⟩ := h1.i64
  obtain ⟨z2, rfl, _⟩ := h3.i64
  obtain ⟨z3, rfl, _⟩ := h5.i64
  obtain ⟨z4, rfl, _⟩ := h7.i64
  obtain ⟨s, rfl, hs⟩ := h9.s
  rw [h10.done]
  exact ⟨⟨z1, z2, z3, z4, s⟩, rfl, hs⟩
theorem Ok.rules (h : Ok B (.sl shRule) cs) : ∃ rs : List RuleV, cs = [rulesA rs] ∧ rs.length ≤ B := by
  obtain ⟨l, rfl, h1, h2⟩ := h.list (f := ruleC) (Q := fun r => r.code.length ≤ B) (fun x hx => hx.rule)
  exact ⟨l, rfl, h1⟩
theorem Ok.pairs (h : Ok B (.sl (.cons shI (.cons shI .nil))) cs) : ∃ ps : List (Int × Int), cs = [.sl 2 (ps.map pairA)] := by
  obtain ⟨l, rfl, h1, h2⟩ := h.list (f := fun p : Int × Int => [Go.Proofs.YtfchbehmeppckaaGreat.i64 p.1, Go.Proofs.YtfchbehmeppckaaGreat.i64 p.2]) (Q := fun _ => True) (fun x hx => by
    obtain ⟨a, b, rfl, h1, h2⟩ := hx.pair
    obtain ⟨c, d, rfl, h3, h4⟩ := h2.pair
    obtain ⟨z1, rfl, _⟩ := h1.i64
    obtain ⟨z2, rfl, _⟩ := h3.i64
    rw [h4.done]
    exact ⟨(z1, z2), rfl, trivial⟩)
  exact ⟨l, rfl⟩
theorem Ok.pol (h : Ok B shPol cs) (hB : B ≤ 2000000) : ∃ p : PolV, cs = polC p ∧ POK p := by
  obtain ⟨_, _, rfl, h1, h2⟩ := h.pair
  obtain ⟨_, _, rfl, g1, g2⟩ := h1.pair
  obtain ⟨_, _, rfl, g3, g4⟩ := g2.pair
  obtain ⟨len, rfl, _⟩ := g1.i64
  obtain ⟨rs, rfl, _⟩ := g3.rules
  obtain rfl := g4.done
  obtain ⟨_, _, rfl, h3, h4⟩ := h2.pair
  obtain ⟨_, _, rfl, g5, g6⟩ := h3.pair
  obtain ⟨_, _, rfl, g7, g8⟩ := g6.pair
  obtain ⟨pts, rfl, _⟩ := g5.ints
  obtain ⟨prs, rfl, _⟩ := g7.ints
  obtain rfl := g8.done
  obtain ⟨_, _, rfl, h5, h6⟩ := h4.pair
  obtain ⟨en, rfl⟩ := h5.pairs
  obtain ⟨_, _, rfl, h7, h8⟩ := h6.pair
  obtain ⟨mn, rfl, _⟩ := h7.i64
  obtain ⟨_, _, rfl, h9, h10⟩ := h8.pair
  obtain ⟨v, rfl, hv⟩ := h9.rat hB
  obtain ⟨_, _, rfl, h11, h12⟩ := h10.pair
  obtain ⟨cut, rfl, _⟩ := h11.i64
  obtain ⟨_, _, rfl, h13, h14⟩ := h12.pair
  obtain ⟨lv, rfl, hlv⟩ := h13.rat hB
  obtain ⟨_, _, rfl, h15, h16⟩ := h14.pair
  obtain ⟨top, rfl, _⟩ := h15.i64
  obtain ⟨_, _, rfl, h17, h18⟩ := h16.pair
  obtain ⟨rate, rfl, hrate⟩ := h17.rat hB
  obtain ⟨_, _, rfl, h19, h20⟩ := h18.pair
  obtain ⟨sl, rfl, _⟩ := h19.i64
  obtain rfl := h20.done
  exact ⟨⟨len, rs, pts, prs, en, mn, v, cut, lv, top, rate, sl⟩, rfl, hv, hlv, hrate⟩
theorem Ok.weights (h : Ok B (.sl .nat) cs) (hB : B ≤ 2000000) : ∃ ws : List (List Nat), cs = [nats ws] ∧ WOK ws ∧ ws.length ≤ B := by
  obtain ⟨l, rfl, h1, h2⟩ := h.list (f := fun l : List Nat => [AV.nat l]) (Q := fun l => Dig l ∧ l.length ≤ B) (fun x hx => hx.limbs)
  exact ⟨l, rfl, fun x hx => ⟨(h2 x hx).1, by have := (h2 x hx).2; omega⟩, h1⟩
end
end Go.Proofs.YtfchbehmeppckaaGreat

/- The laws of chapter 38, for all arguments of their shapes. -/
set_option linter.unusedSimpArgs false
set_option linter.unusedVariables false
namespace Go.Proofs.YtfchbehmeppckaaGreat
open Go.RowKit Lim

abbrev shW : SH := .sl (.sl .nat)
theorem Ok.wss {B : Nat} {cs : List AV} (h : Ok B shW cs) (hB : B ≤ 2000000) : ∃ wss : List (List (List Nat)), cs = [natss wss] ∧ W3 wss := by
  obtain ⟨l, rfl, h1, h2⟩ := h.list (f := fun ws : List (List Nat) => [nats ws]) (Q := fun ws => WOK ws ∧ ws.length < 3000000) (fun x hx => by
    obtain ⟨ws, rfl, k1, k2⟩ := hx.weights hB
    exact ⟨ws, rfl, k1, by omega⟩)
  exact ⟨l, rfl, h2⟩
theorem okA_one {B : Nat} {s : SH} {as' : List AV} (h : OkA B [s] as') : ∃ a, as' = [s.top a] ∧ Ok B s a := by
  cases h with | cons h1 h2 => cases h2; exact ⟨_, rfl, h1⟩
theorem okA_two {B : Nat} {s t : SH} {as' : List AV} (h : OkA B [s, t] as') : ∃ a b, as' = [s.top a, t.top b] ∧ Ok B s a ∧ Ok B t b := by
  cases h with | cons h1 h2 => obtain ⟨b, rfl, h3⟩ := okA_one h2; exact ⟨_, b, rfl, h1, h3⟩
theorem okA_three {B : Nat} {s t u : SH} {as' : List AV} (h : OkA B [s, t, u] as') : ∃ a b c, as' = [s.top a, t.top b, u.top c] ∧ Ok B s a ∧ Ok B t b ∧ Ok B u c := by
  cases h with | cons h1 h2 => obtain ⟨b, c, rfl, h3, h4⟩ := okA_two h2; exact ⟨_, b, c, rfl, h1, h3, h4⟩
theorem sFull.law (as' : List AV) (h : OkA 1048576 [shPol, shW] as') : AC 7 as' (boo true) := by
  obtain ⟨a, b, rfl, h1, h2⟩ := okA_two h
  obtain ⟨p, rfl, hp⟩ := h1.pol (by omega)
  obtain ⟨wss, rfl, hw⟩ := h2.wss (by omega)
  exact full_c p hp wss hw
theorem sLen.law (as' : List AV) (h : OkA 1048576 [shPol, shW] as') : AC 6 as' (boo true) := by
  obtain ⟨a, b, rfl, h1, h2⟩ := okA_two h
  obtain ⟨p, rfl, hp⟩ := h1.pol (by omega)
  obtain ⟨wss, rfl, hw⟩ := h2.wss (by omega)
  exact length_c p hp wss hw
theorem sPrec.law (as' : List AV) (h : OkA 1048576 [shPol, shR, shW] as') : AC 8 as' (boo true) := by
  obtain ⟨a, b, c, rfl, h1, h2, h3⟩ := okA_three h
  obtain ⟨p, rfl, hp⟩ := h1.pol (by omega)
  obtain ⟨o, rfl, ho⟩ := h2.rat (by omega)
  obtain ⟨wss, rfl, hw⟩ := h3.wss (by omega)
  exact precision_c p hp o ho wss hw
end Go.Proofs.YtfchbehmeppckaaGreat
