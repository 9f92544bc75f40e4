import Derived.Test.YtcaahphghaddgaaGreatDoorB2
/- Texts merged: Qg. -/
set_option linter.unusedSimpArgs false
set_option linter.unusedVariables false
namespace Go.Proofs.YtcaahphghaddgaaGreatDoor
open Go.RowKit Lim
theorem prob_k:KR 20 17 probA=some probR:=by kernel_rfl
end Go.Proofs.YtcaahphghaddgaaGreatDoor
