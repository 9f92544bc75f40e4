/- The engine, part U: functions of the library that hand back a new row, or that write a row which is lent to them. -/
import Derived.Test.YtcggnmddcbhchaaGreatDoorQVT
set_option linter.unusedSimpArgs false
set_option linter.unusedVariables false
namespace Go.Proofs.YtcggnmddcbhchaaGreatDoor
open Go.RowKit Lim

theorem grownBy_of_below {w w' : World} (h : Below w.heap.size w w') (g : Nat) : w.grownBy w' (some g) := ⟨h.os, h.tape, h.output, h.size, fun k hk _ => h.block k hk⟩
/-- A function that hands back a new row. -/
theorem LCalls.fresh {C : Ctx} {f : FuncId} {args : List AV} {e : TypeId} {k : Nat} {es : List AV} (hf : FnOK C.P f)
    (h : ∀ w Z vs, C.E w → (∀ b o, Z b o → b < w.heap.size) → Rep w Z (.agg args) (.agg vs) → Calls C.P f vs w fun r w' => ∃ g cap, r = .returned (.slice (some ⟨g, 0, none⟩) es.length cap) ∧ Below w.heap.size w w' ∧ w.heap.size ≤ g ∧ Own w' (fun b o => grown Z w w' b o ∧ b ≠ g) g cap (.row e k es)) :
    LCalls C.t f (args.map .av) (ofL []) (ofL []) (.osl 0 k 0 es.length) (ofL []) (ofL [(0, .row e k es)]) := by
  refine ⟨hf, (fun t cs ht => by cases ht), fun B Z β κ vs hE hz _ hvs S => ?_⟩
  have hrep : Rep B.w Z (.agg args) (.agg vs) := by
    refine Rep.agg_iff.2 ⟨by simpa using hvs, fun j x u hx hu => ?_⟩
    have hlt := (List.getElem?_eq_some_iff.1 hx).1
    have q := (S.tm j (.av x) (by show slotsT 0 (args.map .av) j = _; rw [slotsT_get]; simp [hx])).2
    have hu' : vs.getD j undef = u := by simp [Array.getD_eq_getD_getElem?, hu]
    have q : Rep B.w Z x (vs.getD j undef) := q
    rw [hu'] at q
    exact q
  refine (h B.w Z vs hE.1 hz hrep).mono ?_
  rintro r w' ⟨g, cap, rfl, hb, hg, ho⟩
  have hglt := ho.lt
  have hfr : ∀ o, ¬ Z g o := fun o hzz => by have := hz g o hzz; omega
  refine ⟨_, fun b o => grown Z B.w w' b o ∧ b ≠ g, β, fun _ => (g, cap), rfl, ?_, fun t cs ht => (by cases ht), fun t ov ht => (by cases ht), fun t ov ht _ => ?_, fun b hb1 hb2 => ?_⟩
  · refine S.chg g (some 0) none (.inl hg) hfr (grownBy_of_below hb g) (fun b o hzz => ⟨.inl hzz, fun e => by have := hz b o hzz; omega⟩) hglt (fun b o hzz => hzz.1.imp id fun h => .inr h) (.inr rfl) (fun t cs ht => by cases ht) (fun t cs ht => by cases ht) (fun t ov ht hne => ?_) (fun t ov ht he => ?_) (fun t x ht => ?_) rfl (fun hu => by cases hu) (fun hu => by cases hu)
    · simp only [ofL] at ht
      split at ht
      · rename_i e; exact absurd (by rw [e]) hne
      · cases ht
    · cases he
      simp only [ofL, if_true, Option.some.injEq] at ht
      subst ht
      exact ⟨.inl rfl, ho⟩
    · simp only [slotsT] at ht
      split at ht
      · rename_i e
        subst e
        cases ht
        refine ⟨by show 0 < 1; omega, ?_⟩
        have := ho.size_le
        simp only [OV.len] at this
        exact ⟨by simpa using this.1, by simp [Array.getD]⟩
      · cases ht
  · exact hg
  · by_cases he : b = g
    · exact .inr ⟨0, .row e k es, by simp [ofL], he.symm⟩
    · exact .inl fun o => ⟨.inr ⟨hb1, hb2⟩, he⟩
/-- A function that writes the row that is lent to it. -/
theorem LCalls.row {C : Ctx} {f : FuncId} {e : TypeId} {k n : Nat} {es es' : List AV} (hf : FnOK C.P f)
    (h : ∀ w Z g cap, C.E w → Own w Z g cap (.row e k es) → Calls C.P f #[.slice (some ⟨g, 0, none⟩) n cap] w fun r w' => r = .returned (.tuple #[]) ∧ w.grownBy w' (some g) ∧ ∀ Z', (∀ b o, Z b o → Z' b o) → (∀ o, ¬ Z' g o) → Keeps Z w w' → Own w' Z' g cap (.row e k es')) :
    LCalls C.t f [.osl 0 k 0 n] (ofL []) (ofL [(0, .row e k es)]) (.av (.tup [])) (ofL []) (ofL [(0, .row e k es')]) := by
  refine ⟨hf, (fun t cs ht => by cases ht), fun B Z β κ vs hE hz _ hvs S => ?_⟩
  obtain ⟨q1, q2⟩ := S.own 0 (.row e k es) (by simp [ofL])
  have hv : vs = #[.slice (some ⟨(κ 0).1, 0, none⟩) n (κ 0).2] := by
    have := (S.tm 0 (.osl 0 k 0 n) (by simp [slotsT])).2
    have hv0 : vs.getD 0 undef = .slice (some ⟨(κ 0).1, 0, none⟩) n (κ 0).2 := by have := this.2; simpa using this
    apply Array.ext
    · simpa using hvs
    · intro i h1 h2
      have : i = 0 := by simp at h2; exact h2
      subst this
      simpa [Array.getD_eq_getD_getElem?, h1] using hv0
  subst hv
  refine (h B.w Z _ _ hE.1 q2).mono ?_
  rintro r w' ⟨rfl, hg, hown⟩
  have hlt := q2.lt
  have hsz := hg.size
  have hout := q2.out
  have hz' : ∀ b o, Z b o → Z b o ∨ (B.w.heap.size ≤ b ∧ b < w'.heap.size) := fun _ _ h => .inl h
  have hout' : ∀ o, ¬ (Z (κ 0).1 o ∨ (B.w.heap.size ≤ (κ 0).1 ∧ (κ 0).1 < w'.heap.size)) := fun o hh => hh.elim (hout o) (fun h => by omega)
  have hk : Keeps Z B.w w' := Keeps.ofGrown hg hout
  refine ⟨_, fun b o => Z b o ∨ (B.w.heap.size ≤ b ∧ b < w'.heap.size), β, κ, rfl, ?_, fun t cs ht => (by cases ht), fun t ov ht => rfl, fun t ov ht hn => ?_, fun b hb1 hb2 => .inl fun o => .inr ⟨hb1, hb2⟩⟩
  · refine S.chg (κ 0).1 (some 0) none q1 hout hg hz' (by omega) (fun b o hzz => hzz.imp id fun h => .inr h) (.inr rfl) (fun t cs ht => by cases ht) (fun t cs ht => by cases ht) (fun t ov ht hne => ?_) (fun t ov ht he => ?_) (fun t x ht => ?_) rfl (fun hu => by cases hu) (fun hu => by cases hu)
    · simp only [ofL] at ht
      split at ht
      · rename_i e; exact absurd (by rw [e]) hne
      · cases ht
    · cases he
      simp only [ofL, if_true, Option.some.injEq] at ht
      subst ht
      exact ⟨.inl rfl, hown _ hz' hout' hk⟩
    · simp only [slotsT] at ht
      split at ht
      · rename_i e
        subst e
        cases ht
        refine ⟨by show 0 < 1; omega, ?_⟩
        exact .tup rfl fun j hj => by simp at hj
      · cases ht
  · simp only [ofL] at ht hn
    split at ht
    · rename_i e; rw [if_pos e] at hn; cases hn
    · cases ht
end Go.Proofs.YtcggnmddcbhchaaGreatDoor
