import Derived.Test.YtcaahphghaddgaaGreatDoorDXG
import Derived.Test.YtcaahphghaddgaaGreatDoorDWa
/- Text XK. -/
set_option linter.unusedSimpArgs false
set_option linter.unusedVariables false
namespace Go.Proofs.YtcaahphghaddgaaGreatDoor
open Go.RowKit Lim
def capS (s:List UInt8):Bool:=Nat.blt s.length 4294967281
def capI (z:Int):Bool:=decide (-9223372036854775808≤z) && decide (z≤9223372036854775807)
theorem capS_of {s:List UInt8} (h:capS s=true):s.length<4294967281:=blt_of h
structure Prim where
 t:Bool
 ok:List V→Bool
 res:List V→Option (List V0)
def Prim.ask (p:Prim):Ask1:=fun args g=>bif args.all V.plain && p.ok args then (p.res args).bind (decR g) else none
def Prim.OK (f:FuncId) (p:Prim):Prop:=∀args l,p.ok args=true→p.res args=some l→(p.t=true→AT f (args.map V.av) (packA (l.map V0.av)))∧(p.t=false→AC f (args.map V.av) (packA (l.map V0.av)))
theorem Prim.OK.ac {f:FuncId} {p:Prim} (h:p.OK f) {args:List V} {g:Sig} {x:denL g.ts} (hx:p.ask args g=some x):(p.t=true∧AT f (args.map V.av) (resO g x))∨(p.t=false∧AC f (args.map V.av) (resO g x)):=by
 obtain ⟨h1,hx⟩:=bif_of hx
 obtain ⟨_,h1⟩:=band_of h1
 obtain ⟨l,h2,h3⟩:=bind_of hx
 rw [decR_some h3]
 obtain ⟨q1,q2⟩:=h args l h1 h2
 cases ht:p.t with
 | true=>exact .inl ⟨rfl,q1 ht⟩
 | false=>exact .inr ⟨rfl,q2 ht⟩
theorem Prim.ask_plain {p:Prim} {args:List V} {g:Sig} {x:denL g.ts} (hx:p.ask args g=some x):args.all V.plain=true:=(band_of (bif_of hx).1).1
end Go.Proofs.YtcaahphghaddgaaGreatDoor
