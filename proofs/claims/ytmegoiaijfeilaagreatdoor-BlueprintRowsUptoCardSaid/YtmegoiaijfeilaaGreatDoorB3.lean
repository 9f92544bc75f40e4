import Derived.Test.YtmegoiaijfeilaaGreatDoorB2
/- Texts merged: Qg. -/
set_option linter.unusedSimpArgs false
set_option linter.unusedVariables false
namespace Go.Proofs.YtmegoiaijfeilaaGreatDoor
open Go.RowKit Lim
theorem prob_k:KR 20 6 probA=some probR:=by kernel_rfl
end Go.Proofs.YtmegoiaijfeilaaGreatDoor
