/- The engine, part Q: more rules; the walk's words for code; the end of a function. -/
import Derived.Test.YtcggnmddcbhchaaGreatDoorQVP
set_option linter.unusedSimpArgs false
set_option linter.unusedVariables false
namespace Go.Proofs.YtcggnmddcbhchaaGreatDoor
open Go.RowKit Lim
section
variable {C : Ctx} {dr : Bool} {ops : Array Oper} {os : List Oper} {l : LT} {m : LM} {q : LQ} {K : AS → Prop} {ty : TypeId} {p : String} {af : Array Edge} {t : Nat} {d : Option Nat}

end
section
variable {C : Ctx} {n : Scr} {K : Exit → AS → Prop} {l : LT} {m : LM} {q : LQ}
end
/-! The end of a function. -/
section
variable {C : Ctx} {l : LT} {m : LM} {q : LQ}
/-- The end of a function, with its results written out. -/
def endK (C : Ctx) (rs : List ResultVar) (tys : List TypeId) (r : AV) : Exit → AS → Prop := fun e σ => (e = .ret ∨ e = .normal) ∧ ∃ l, resL C σ rs tys = some l ∧ packA l = r
end
theorem ACalls.of {C : Ctx} {f : FuncId} {fn : Func} {c : Code} {rs : List ResultVar} {tys : List TypeId} {args : List AV} {r : AV} (n : Scr) (hf : C.P.funcs[f]? = some fn) (hb : fn.body = some c) (hrs : fn.results = List.toArray rs) (hrt : fn.resultTypes = List.toArray tys) (hnm : (fn.name == "runtime.NumGoroutine") = false) (hok : codeOK fn.ntmps c = true) (hl : args.length ≤ fn.ntmps)
    (h : awp C n c (endK C rs tys r) (start args)) : ACalls C f args r := by
  refine ACalls.of_awp n hf hb hnm hok hl ?_
  have : endK C rs tys r = retA C fn r := by
    unfold endK retA
    rw [hrs, hrt]
  rw [← this]
  exact h
end Go.Proofs.YtcggnmddcbhchaaGreatDoor
