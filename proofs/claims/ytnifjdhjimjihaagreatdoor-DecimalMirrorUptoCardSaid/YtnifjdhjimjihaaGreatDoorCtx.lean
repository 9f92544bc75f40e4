/- What the walks read of the program's variables; the engine at this program. -/
import Derived.Test.YtnifjdhjimjihaaGreatDoorTab
import Derived.Test.YtnifjdhjimjihaaGreatDoorFmt
import Derived.IntWalk
namespace Go.Proofs.YtnifjdhjimjihaaGreatDoor
open Go.RowKit Lim

/-- What the walks read of the program's variables. -/
structure Env (w : World) : Prop where
  tab : Tab w
  mx : ∃ m : Int, w.cell? ⟨0, 0, none⟩ = some (.int .i64 m)
theorem Env.keep {w w' : World} (h : Env w) (hb : Below w.heap.size w w') : Env w' := by
  obtain ⟨m, hm⟩ := h.mx
  exact ⟨h.tab.keep hb, m, (hb.cell (p := ⟨0, 0, none⟩) (World.block_lt_of_cell? w _ hm)).trans hm⟩
noncomputable def ctx : Ctx := ⟨Tryz.prog, Go.Proofs.YtnifjdhjimjihaaGreatDoor.tab, Env, fun ty i h => ofL_all tabL tab_ok ty i h, fun _ _ hb h => h.keep hb, by kernel_rfl⟩
theorem ctxT : ctx.T = Go.Proofs.YtnifjdhjimjihaaGreatDoor.tab := rfl
theorem ctxP : ctx.P = Tryz.prog := rfl
abbrev AC (f : FuncId) (args : List AV) (r : AV) : Prop := ACalls ctx f args r
abbrev i64 (n : Int) : AV := .lit (.int .i64 n)
abbrev boo (b : Bool) : AV := .lit (.bool b)
end Go.Proofs.YtnifjdhjimjihaaGreatDoor
