import Derived.Test.YtcggnmddcbhchaaGreatDoorEVP
/- Text VQ. -/
set_option linter.unusedSimpArgs false
set_option linter.unusedVariables false
namespace Go.Proofs.YtcggnmddcbhchaaGreatDoor
open Go.RowKit Lim
section
variable {C:Ctx} {dr:Bool} {ops:Array Oper} {os:List Oper} {l:LT} {m:LM} {q:LQ} {K:AS→Prop} {ty:TypeId} {p:String} {af:Array Edge} {t:Nat} {d:Option Nat}
end
section
variable {C:Ctx} {n:Scr} {K:Exit→AS→Prop} {l:LT} {m:LM} {q:LQ}
end
section
variable {C:Ctx} {l:LT} {m:LM} {q:LQ}
end
end Go.Proofs.YtcggnmddcbhchaaGreatDoor
