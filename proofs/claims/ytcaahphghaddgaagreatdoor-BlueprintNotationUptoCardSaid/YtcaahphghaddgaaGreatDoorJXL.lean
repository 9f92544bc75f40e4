import Derived.Test.YtcaahphghaddgaaGreatDoorJXK
import Derived.Lib.Split
import Derived.Lib.Repeat
/- Text XL. -/
set_option linter.unusedSimpArgs false
set_option linter.unusedVariables false
namespace Go.Proofs.YtcaahphghaddgaaGreatDoor
open Go.RowKit Lim
section
variable {w:World} {Z:Zone}
end
end Go.Proofs.YtcaahphghaddgaaGreatDoor
