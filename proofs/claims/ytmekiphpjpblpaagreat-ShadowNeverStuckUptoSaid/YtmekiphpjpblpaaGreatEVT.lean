import Derived.Test.YtmekiphpjpblpaaGreatEVR
/- Text VT. -/
set_option linter.unusedSimpArgs false
set_option linter.unusedVariables false
set_option maxHeartbeats 40000000
set_option maxRecDepth 100000
namespace Go.Proofs.YtmekiphpjpblpaaGreat
open Go.RowKit Lim
section
variable {C:Ctx} {u:Bool} {w0:Base} {w w':World} {Z0 Z Z':Zone} {σ τ:AS} {a:Act} {β:Nat→Nat} {κ:Nat→Nat × Nat}
end
def pinned (xs:List TV) (M:List (Nat × List AV)) (O:List (Nat × OV)):Prop:=(∀t cs,ofL M t=some cs→∃off,xs[t]? = some (.ref t off))∧∀t ov,ofL O t=some ov→t<BIG→∃k len,xs[t]? = some (.osl t k 0 len)
section
variable {C:Ctx} {u:Bool} {w0:Base} {w w':World} {Z0 Z Z':Zone} {σ τ:AS} {a:Act} {β:Nat→Nat} {κ:Nat→Nat × Nat}
end
section
variable {C:Ctx} {u:Bool} {w0:Base} {w w':World} {Z0 Z Z':Zone} {σ τ:AS} {a:Act} {β:Nat→Nat} {κ:Nat→Nat × Nat}
end
end Go.Proofs.YtmekiphpjpblpaaGreat
