import Derived.Test.YtcggnmddcbhchaaGreatDoorEVT
/- Text VU. -/
set_option linter.unusedSimpArgs false
set_option linter.unusedVariables false
namespace Go.Proofs.YtcggnmddcbhchaaGreatDoor
open Go.RowKit Lim
end Go.Proofs.YtcggnmddcbhchaaGreatDoor
