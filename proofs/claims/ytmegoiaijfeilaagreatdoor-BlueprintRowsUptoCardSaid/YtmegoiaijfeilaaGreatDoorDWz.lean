import Derived.Test.YtmegoiaijfeilaaGreatDoorRows
import Derived.WalkKit
import Derived.WalkSpells
import Derived.Below
import Derived.Laws.OwnMore
import Derived.Deep.AppendLies
import Derived.Deep.Draws
import Derived.Lib.Hide
import Derived.Deep.OwnRows
import Derived.Laws.Rows
import Derived.LoopTactic
import Derived.Outline
import Derived.Deep.QuietTactic
import Derived.BigQuiet
import Derived.OwnWalk
import Derived.Shelf.Strings.Builder1
import Derived.Shelf.Strings.Builder2
import Derived.Shelf.Strings.OnBuilder
import Derived.Shelf.Small.Bits
import Derived.Shelf.Small.Wraps
import Derived.Shelf.Strings.BuilderF
import Derived.Shelf.Strings.BuilderK
import Derived.Shelf.Strings.Builder2Cap
import Derived.Shelf.Strconv.Itoa0
import Derived.Shelf.Strconv.Itoa1
import Derived.Shelf.LaysM
import Derived.Shelf.Strconv.Itoa2
import Derived.Shelf.Strconv.Itoa3
import Derived.Shelf.Strings.Search1
import Derived.Shelf.Strings.Search2
import Derived.Shelf.Strings.Search3
import Derived.Shelf.Strings.Cut
import Derived.Shelf.Strings.Count
import Derived.Shelf.Strings.Shaped
import Derived.Shelf.Sort.Plain
import Derived.Shelf.Strings.Prefix
import Derived.Shelf.Strings.Split
import Derived.Shelf.Strings.SplitShaped
import Derived.Shelf.Unicode.DecodeSlow
import Derived.Shelf.Strings.BuilderCap
import Derived.Ground.Names2Prog
import Derived.Shelf.Slices.SearchI
import Derived.Shelf.Slices.In.SortNone
import Derived.Test.YtmegoiaijfeilaaGreatDoorProg
import Derived.Deep.LoopGhost
import Derived.Deep.RegionHeld3
import Derived.Deep.DrawnRows
import Derived.RegionTactic
import Derived.Deep.DeepCutAuto
import Derived.Lib.ItoaNum
import Derived.Lib.Repeat
import Derived.Lib.LaidTab
import Derived.Lib.AppendIntMem
import Derived.Lib.ItoaMem
import Derived.Lib.Walk
import Derived.BigCall
import Derived.BigGuard
import Derived.Laws.Concat
/- Texts merged: Na Shelf Nb Nc Nd. -/
set_option linter.unusedSimpArgs false
set_option linter.unusedVariables false
namespace Go.Proofs.YtmegoiaijfeilaaGreatDoor.Lim
def pw (k:Nat):Nat:=4294967296 ^ k
def val:List Nat→Nat
 | []=>0
 | x :: xs=>x+4294967296*val xs
def Dig (l:List Nat):Prop:=∀x∈l,x<4294967296
theorem dig_nil:Dig []:=by intro x hx;cases hx
theorem dig_take {l:List Nat} (h:Dig l) (k:Nat):Dig (l.take k):=fun x hx=>h x (List.mem_of_mem_take hx)
theorem dig_drop {l:List Nat} (h:Dig l) (k:Nat):Dig (l.drop k):=fun x hx=>h x (List.mem_of_mem_drop hx)
def limbs (n:Nat):List Nat:=if h:n=0 then [] else (n % 4294967296) :: limbs (n / 4294967296)
 termination_by n
 decreasing_by omega
def nlen (n:Nat):Nat:=(limbs n).length
def tl (l:List Nat):Nat:=nlen (val l)
def cmpI (a b:Nat):Int:=if a<b then -1 else if b<a then 1 else 0
end Go.Proofs.YtmegoiaijfeilaaGreatDoor.Lim
namespace Go.Proofs.YtmegoiaijfeilaaGreatDoor.Lim
structure Top (U V u0 u1 u2 v1 v2 P U0 V0:Nat):Prop where
 hU:U=((u0*4294967296+u1)*4294967296+u2)*P+U0
 hV:V=(v1*4294967296+v2)*P+V0
 hU0:U0<P
 hV0:V0<P
 bu0:u0<4294967296
 bu1:u1<4294967296
 bu2:u2<4294967296
 bv1:v1<4294967296
 bv2:v2<4294967296
 norm:2147483648≤v1
 lt:U<V*4294967296
end Go.Proofs.YtmegoiaijfeilaaGreatDoor.Lim
namespace Go.Proofs.YtmegoiaijfeilaaGreatDoor
open Go.RowKit Lim
def lenOf:Value→Nat|.slice _ n _=>n|_=>0
def Rd (w:World) (A:Option Addr) (l:List Nat):Prop :=
 Dig l∧(0<l.length→∃b off,A=some ⟨b,off,none⟩∧b<w.heap.size∧∀j (h:j<l.length),w.cell? ⟨b,off+j,none⟩=some (.int .u32 (l[j]:Nat)))
theorem Rd.nil (w:World) (A:Option Addr):Rd w A []:=⟨dig_nil,fun h=>absurd h (by simp)⟩
theorem Rd.take {w:World} {A:Option Addr} {l:List Nat} (h:Rd w A l) (k:Nat):Rd w A (l.take k) :=
 ⟨dig_take h.1 k,fun hl=>by
  have hl':(l.take k).length≤l.length:=by simp;omega
  obtain ⟨b,off,e,hlt,hc⟩:=h.2 (by omega)
  exact ⟨b,off,e,hlt,fun j hj=>by rw [List.getElem_take];exact hc j (by omega)⟩⟩
structure In (w:World) (A:Option Addr) (c:Nat) (l:List Nat) (n:Nat):Prop where
 rd:Rd w A l
 cap:l.length≤c
 lim:l.length<1099511627776
 val:val l=n
structure Raw (w:World) (A:Option Addr) (c:Nat) (l:List Nat) (n:Nat):Prop where
 rd:Rd w A l
 cap:l.length≤c
 lim:l.length≤4398046511104
 val:val l=n
structure Out (w:World) (A:Option Addr) (c:Nat) (n:Nat):Prop where
 rd:Rd w A (limbs n)
 cap:(limbs n).length≤c
def cells (l:List Nat):Array Value:=(l.map fun x=>Value.int .u32 ((x:Nat):Int)).toArray
theorem add_addr (b off j:Nat):(⟨b,off,none⟩:Addr).add j=⟨b,off+j,none⟩:=by unfold Addr.add;split <;> simp_all
structure Only (g:Nat) (w w':World):Prop where
 os:w'.os=w.os
 tape:w'.tape=w.tape
 output:w'.output=w.output
 size:w'.heap.size=w.heap.size
 block:∀k,k≠g→w'.heap[k]? = w.heap[k]?
theorem Only.refl (g:Nat) (w:World):Only g w w:=⟨rfl,rfl,rfl,rfl,fun _ _=>rfl⟩
theorem Only.below {g B:Nat} {w w':World} (h:Only g w w') (hB:B≤g):Below B w w':=⟨h.os,h.tape,h.output,by rw [h.size];exact Nat.le_refl _,fun k hk=>h.block k (by omega)⟩
theorem below_drewN {B:Nat} {a w:World} (h:Below B a w) (n:Nat):Below B a (w.drewN n):=⟨h.os,h.tape,h.output,h.size,h.block⟩
end Go.Proofs.YtmegoiaijfeilaaGreatDoor
namespace Go.Proofs.YtmegoiaijfeilaaGreatDoor
open Go.RowKit Lim
end Go.Proofs.YtmegoiaijfeilaaGreatDoor
namespace Go.Proofs.YtmegoiaijfeilaaGreatDoor
open Go.RowKit Lim
end Go.Proofs.YtmegoiaijfeilaaGreatDoor
namespace Go.Proofs.YtmegoiaijfeilaaGreatDoor
open Go.RowKit Lim
end Go.Proofs.YtmegoiaijfeilaaGreatDoor
namespace Go.Proofs.YtmegoiaijfeilaaGreatDoor
open Go.RowKit Lim
end Go.Proofs.YtmegoiaijfeilaaGreatDoor
namespace Go.Proofs.YtmegoiaijfeilaaGreatDoor
open Go.RowKit Lim
end Go.Proofs.YtmegoiaijfeilaaGreatDoor
namespace Go.Proofs.YtmegoiaijfeilaaGreatDoor
open Go.RowKit Lim
end Go.Proofs.YtmegoiaijfeilaaGreatDoor
namespace Go.Proofs.YtmegoiaijfeilaaGreatDoor
open Go.RowKit Lim
end Go.Proofs.YtmegoiaijfeilaaGreatDoor
namespace Go.Proofs.YtmegoiaijfeilaaGreatDoor
open Go.RowKit Lim
end Go.Proofs.YtmegoiaijfeilaaGreatDoor
namespace Go.Proofs.YtmegoiaijfeilaaGreatDoor
open Go.RowKit Lim
end Go.Proofs.YtmegoiaijfeilaaGreatDoor
namespace Go.Proofs.YtmegoiaijfeilaaGreatDoor
open Go.RowKit Lim
end Go.Proofs.YtmegoiaijfeilaaGreatDoor
namespace Go.Proofs.YtmegoiaijfeilaaGreatDoor.Lim
structure Dv (N V:Nat) (R q:List Nat) (k:Nat):Prop where
 dig:Dig R
 digq:Dig q
 top:val (R.drop k)<V
 eq:val R+V*(pw k*val q)=N
end Go.Proofs.YtmegoiaijfeilaaGreatDoor.Lim
namespace Go.Proofs
open Go.Shelf
def Tryz.lays169_ren:Go.Shelf.Ren:=⟨fun|169=>60|n=>n,fun|70=>94|9=>9|0=>0|72=>97|37=>95|127=>128|3=>3|5=>5|n=>n,fun|n=>n⟩
theorem Tryz.lays169:Go.Proofs.Lays.n169 Tryz.prog Tryz.lays169_ren:={
 mixed:=by kernel_rfl
 f169:=Tryz.func60.trans (congrArg some (by kernel_rfl))
 t0:=Tryz.underlying0
 a0:=Tryz.isAgg0
 z0:=Tryz.sizeOf0
 v0:=Tryz.zeroValue0
 t3:=Tryz.underlying3
 a3:=Tryz.isAgg3
 z3:=Tryz.sizeOf3
 v3:=Tryz.zeroValue3
 t9:=Tryz.underlying9
 a9:=Tryz.isAgg9
 z9:=Tryz.sizeOf9
 v9:=Tryz.zeroValue9
 t37:=Tryz.underlying95
 a37:=Tryz.isAgg95
 z37:=Tryz.sizeOf95
 v37:=Tryz.zeroValue95
 t70:=Tryz.underlying94
 a70:=Tryz.isAgg94
 z70:=Tryz.sizeOf94
 v70:=Tryz.zeroValue94
 t72:=Tryz.underlying97
 a72:=Tryz.isAgg97
 z72:=Tryz.sizeOf97
 v72:=Tryz.zeroValue97
 t127:=Tryz.underlying128
 a127:=Tryz.isAgg128
 z127:=Tryz.sizeOf128
 v127:=Tryz.zeroValue128 }
theorem Tryz.Builder_Extra_169:Builder.Extra Tryz.prog Tryz.lays169_ren:={
 sizeBuilder:=by kernel_rfl
 liesBuilder:=by kernel_rfl
 t5:=Tryz.underlying5
 a5:=Tryz.isAgg5
 z5:=Tryz.sizeOf5
 v5:=Tryz.zeroValue5
 infoByte:=by kernel_rfl
 cellsByte:=by kernel_rfl
 sizeByte:=by kernel_rfl
 neB5:=by decide }
open Go.RowKit in
theorem Tryz.Builder_String_any (B b:Nat) (l:List UInt8) (w:World) (h:Lib.IsBuilder 97 5 B b (Lib.byteCells l) w) (hBw:B≤w.heap.size) :
  Calls Tryz.prog 60 #[.pointer (some ⟨b,0,none⟩)] w fun e w'=>e=.returned (.string ⟨l.toArray⟩)∧Below B w w':=Any.Builder_String_any Tryz.lays169 Tryz.Builder_Extra_169 B b l w h hBw
def Tryz.lays156_ren:Go.Shelf.Ren:=⟨fun|156=>80|165=>106|166=>58|169=>60|240=>78|241=>119|276=>104|277=>147|n=>n,fun|31=>125|9=>9|3=>3|4=>4|0=>0|20=>20|72=>97|76=>100|70=>94|37=>95|75=>99|127=>128|164=>162|5=>5|80=>103|n=>n,fun|n=>n⟩
theorem Tryz.lays156:Go.Proofs.Lays.n156 Tryz.prog Tryz.lays156_ren:={
 mixed:=by kernel_rfl
 f156:=Tryz.func80.trans (congrArg some (by kernel_rfl))
 f165:=Tryz.func106.trans (congrArg some (by kernel_rfl))
 f166:=Tryz.func58.trans (congrArg some (by kernel_rfl))
 f169:=Tryz.func60.trans (congrArg some (by kernel_rfl))
 f240:=Tryz.func78.trans (congrArg some (by kernel_rfl))
 f241:=Tryz.func119.trans (congrArg some (by kernel_rfl))
 f276:=Tryz.func104.trans (congrArg some (by kernel_rfl))
 f277:=Tryz.func147.trans (congrArg some (by kernel_rfl))
 t0:=Tryz.underlying0
 a0:=Tryz.isAgg0
 z0:=Tryz.sizeOf0
 v0:=Tryz.zeroValue0
 t3:=Tryz.underlying3
 a3:=Tryz.isAgg3
 z3:=Tryz.sizeOf3
 v3:=Tryz.zeroValue3
 t4:=Tryz.underlying4
 a4:=Tryz.isAgg4
 z4:=Tryz.sizeOf4
 v4:=Tryz.zeroValue4
 t9:=Tryz.underlying9
 a9:=Tryz.isAgg9
 z9:=Tryz.sizeOf9
 v9:=Tryz.zeroValue9
 t20:=Tryz.underlying20
 a20:=Tryz.isAgg20
 z20:=Tryz.sizeOf20
 v20:=Tryz.zeroValue20
 t31:=Tryz.underlying125
 a31:=Tryz.isAgg125
 z31:=Tryz.sizeOf125
 v31:=Tryz.zeroValue125
 t37:=Tryz.underlying95
 a37:=Tryz.isAgg95
 z37:=Tryz.sizeOf95
 v37:=Tryz.zeroValue95
 t70:=Tryz.underlying94
 a70:=Tryz.isAgg94
 z70:=Tryz.sizeOf94
 v70:=Tryz.zeroValue94
 t72:=Tryz.underlying97
 a72:=Tryz.isAgg97
 z72:=Tryz.sizeOf97
 v72:=Tryz.zeroValue97
 t75:=Tryz.underlying99
 a75:=Tryz.isAgg99
 z75:=Tryz.sizeOf99
 v75:=Tryz.zeroValue99
 t76:=Tryz.underlying100
 a76:=Tryz.isAgg100
 z76:=Tryz.sizeOf100
 v76:=Tryz.zeroValue100
 t127:=Tryz.underlying128
 a127:=Tryz.isAgg128
 z127:=Tryz.sizeOf128
 v127:=Tryz.zeroValue128
 t164:=Tryz.underlying162
 a164:=Tryz.isAgg162
 z164:=Tryz.sizeOf162
 v164:=Tryz.zeroValue162 }
theorem Tryz.Builder_Extra_156:Builder.Extra Tryz.prog Tryz.lays156_ren:={
 sizeBuilder:=by kernel_rfl
 liesBuilder:=by kernel_rfl
 t5:=Tryz.underlying5
 a5:=Tryz.isAgg5
 z5:=Tryz.sizeOf5
 v5:=Tryz.zeroValue5
 infoByte:=by kernel_rfl
 cellsByte:=by kernel_rfl
 sizeByte:=by kernel_rfl
 neB5:=by decide }
open Go.RowKit in
theorem Tryz.strings_Join (bk o c:Nat) (xs:List ByteArray) (sep:ByteArray) (w:World) (hcells:∀(j:Nat) x,xs[j]? = some x→w.cell? ⟨bk,o+j,none⟩=some (.string x)) (hbk:bk<w.heap.size) (hN:xs.length≤140737488355328) (hcap:xs.length≤c) (hlen:(Lib.join (xs.map (·.data.toList)) sep.data.toList).length≤140737488355328) :
  Calls Tryz.prog 80 #[.slice (some ⟨bk,o,none⟩) xs.length c,.string sep] w fun e w'=>e=.returned (.string ⟨(Lib.join (xs.map (·.data.toList)) sep.data.toList).toArray⟩)∧Below w.heap.size w w':=Any.strings_Join Tryz.lays156 Tryz.Builder_Extra_156 bk o c xs sep w hcells hbk hN hcap hlen
def Tryz.laysM171_ren:Go.Shelf.Ren:=⟨fun|171=>79|243=>105|246=>118|283=>143|284=>144|285=>145|286=>146|129=>142|317=>164|318=>165|319=>166|320=>167|337=>173|338=>174|n=>n,fun|3=>3|9=>9|2=>2|4=>4|171=>197|0=>0|53=>183|37=>95|5=>5|173=>199|212=>220|51=>195|20=>20|213=>221|46=>176|232=>238|233=>239|n=>n,fun|17=>1|18=>6|19=>7|n=>n⟩
theorem Tryz.laysM171:Go.Proofs.LaysM.n171 Tryz.prog Tryz.laysM171_ren:={
 mixed:=by kernel_rfl
 f129:=Tryz.func142.trans (congrArg some (by kernel_rfl))
 f171:=Tryz.func79.trans (congrArg some (by kernel_rfl))
 f243:=Tryz.func105.trans (congrArg some (by kernel_rfl))
 f246:=Tryz.func118.trans (congrArg some (by kernel_rfl))
 f283:=Tryz.func143.trans (congrArg some (by kernel_rfl))
 f284:=Tryz.func144.trans (congrArg some (by kernel_rfl))
 f285:=Tryz.func145.trans (congrArg some (by kernel_rfl))
 f286:=Tryz.func146.trans (congrArg some (by kernel_rfl))
 f317:=Tryz.func164.trans (congrArg some (by kernel_rfl))
 f318:=Tryz.func165.trans (congrArg some (by kernel_rfl))
 f319:=Tryz.func166.trans (congrArg some (by kernel_rfl))
 f320:=Tryz.func167.trans (congrArg some (by kernel_rfl))
 f337:=Tryz.func173.trans (congrArg some (by kernel_rfl))
 f338:=Tryz.func174.trans (congrArg some (by kernel_rfl))
 t0:=Tryz.underlying0
 a0:=Tryz.isAgg0
 z0:=Tryz.sizeOf0
 v0:=Tryz.zeroValue0
 t2:=Tryz.underlying2
 a2:=Tryz.isAgg2
 z2:=Tryz.sizeOf2
 v2:=Tryz.zeroValue2
 t3:=Tryz.underlying3
 a3:=Tryz.isAgg3
 z3:=Tryz.sizeOf3
 v3:=Tryz.zeroValue3
 t4:=Tryz.underlying4
 a4:=Tryz.isAgg4
 z4:=Tryz.sizeOf4
 v4:=Tryz.zeroValue4
 t5:=Tryz.underlying5
 a5:=Tryz.isAgg5
 z5:=Tryz.sizeOf5
 v5:=Tryz.zeroValue5
 t9:=Tryz.underlying9
 a9:=Tryz.isAgg9
 z9:=Tryz.sizeOf9
 v9:=Tryz.zeroValue9
 t20:=Tryz.underlying20
 a20:=Tryz.isAgg20
 z20:=Tryz.sizeOf20
 v20:=Tryz.zeroValue20
 t37:=Tryz.underlying95
 a37:=Tryz.isAgg95
 z37:=Tryz.sizeOf95
 v37:=Tryz.zeroValue95
 t46:=Tryz.underlying176
 a46:=Tryz.isAgg176
 z46:=Tryz.sizeOf176
 v46:=Tryz.zeroValue176
 t51:=Tryz.underlying195
 a51:=Tryz.isAgg195
 z51:=Tryz.sizeOf195
 v51:=Tryz.zeroValue195
 t53:=Tryz.underlying183
 a53:=Tryz.isAgg183
 z53:=Tryz.sizeOf183
 v53:=Tryz.zeroValue183
 t171:=Tryz.underlying197
 a171:=Tryz.isAgg197
 z171:=Tryz.sizeOf197
 v171:=Tryz.zeroValue197
 t173:=Tryz.underlying199
 a173:=Tryz.isAgg199
 z173:=Tryz.sizeOf199
 v173:=Tryz.zeroValue199
 t212:=Tryz.underlying220
 a212:=Tryz.isAgg220
 z212:=Tryz.sizeOf220
 v212:=Tryz.zeroValue220
 t213:=Tryz.underlying221
 a213:=Tryz.isAgg221
 z213:=Tryz.sizeOf221
 t232:=Tryz.underlying238
 a232:=Tryz.isAgg238
 z232:=Tryz.sizeOf238
 v232:=Tryz.zeroValue238
 t233:=Tryz.underlying239
 a233:=Tryz.isAgg239
 z233:=Tryz.sizeOf239
 v233:=Tryz.zeroValue239
 g17:=by kernel_rfl
 g18:=by kernel_rfl
 g19:=by kernel_rfl
 i0:=by kernel_rfl
 i2:=by kernel_rfl
 i3:=by kernel_rfl
 i4:=by kernel_rfl
 i5:=by kernel_rfl
 i9:=by kernel_rfl
 i20:=by kernel_rfl
 i37:=by kernel_rfl
 i46:=by kernel_rfl
 i51:=by kernel_rfl
 i53:=by kernel_rfl
 i171:=by kernel_rfl
 i173:=by kernel_rfl
 i212:=by kernel_rfl
 i232:=by kernel_rfl
 i233:=by kernel_rfl
 m17:=by kernel_rfl
 m18:=by kernel_rfl
 m19:=by kernel_rfl }
open Go.RowKit Go.Sort Go.Lib in
theorem Tryz.strconv_Itoa (n : Int) (h0 : -9223372036854775808 ≤ n) (h1 : n ≤ 9223372036854775807) (w : World) (htab : Lib.TabIs Tryz.prog w "internal/strconv.uint64pow10" .u64 Lib.pow10Tab) :
  Calls Tryz.prog 79 #[.int .i64 n] w fun e w'=>e=.returned (.string ⟨(Lib.itoa n).toArray⟩)∧∃k os,w'=grow (w.drewN k) os:=Any.strconv_Itoa Tryz.laysM171 n h0 h1 w htab
def Tryz.lays145_ren:Go.Shelf.Ren:=⟨fun|145=>61|220=>81|219=>107|217=>120|225=>121|224=>122|267=>123|266=>148|314=>149|n=>n,fun|9=>9|4=>4|59=>104|3=>3|5=>5|46=>176|146=>202|51=>195|n=>n,fun|1=>0|n=>n⟩
theorem Tryz.lays145:Go.Proofs.Lays.n145 Tryz.prog Tryz.lays145_ren:={
 mixed:=by kernel_rfl
 f145:=Tryz.func61.trans (congrArg some (by kernel_rfl))
 f217:=Tryz.func120.trans (congrArg some (by kernel_rfl))
 f219:=Tryz.func107.trans (congrArg some (by kernel_rfl))
 f220:=Tryz.func81.trans (congrArg some (by kernel_rfl))
 f224:=Tryz.func122.trans (congrArg some (by kernel_rfl))
 f225:=Tryz.func121.trans (congrArg some (by kernel_rfl))
 f266:=Tryz.func148.trans (congrArg some (by kernel_rfl))
 f267:=Tryz.func123.trans (congrArg some (by kernel_rfl))
 f314:=Tryz.func149.trans (congrArg some (by kernel_rfl))
 t3:=Tryz.underlying3
 a3:=Tryz.isAgg3
 z3:=Tryz.sizeOf3
 v3:=Tryz.zeroValue3
 t4:=Tryz.underlying4
 a4:=Tryz.isAgg4
 z4:=Tryz.sizeOf4
 v4:=Tryz.zeroValue4
 t5:=Tryz.underlying5
 a5:=Tryz.isAgg5
 z5:=Tryz.sizeOf5
 v5:=Tryz.zeroValue5
 t9:=Tryz.underlying9
 a9:=Tryz.isAgg9
 z9:=Tryz.sizeOf9
 v9:=Tryz.zeroValue9
 t46:=Tryz.underlying176
 a46:=Tryz.isAgg176
 z46:=Tryz.sizeOf176
 v46:=Tryz.zeroValue176
 t51:=Tryz.underlying195
 a51:=Tryz.isAgg195
 z51:=Tryz.sizeOf195
 v51:=Tryz.zeroValue195
 t59:=Tryz.underlying104
 a59:=Tryz.isAgg104
 z59:=Tryz.sizeOf104
 v59:=Tryz.zeroValue104
 t146:=Tryz.underlying202
 a146:=Tryz.isAgg202
 z146:=Tryz.sizeOf202
 v146:=Tryz.zeroValue202
 g1:=by kernel_rfl }
open Go.RowKit Go.Lib in
theorem Tryz.strings_Cut (s sep:ByteArray) (m:Int) (w:World) (hs:s.size<4294967281) (hm:w.cell? ⟨0,0,none⟩=some (.int .i64 m)) :
  Calls Tryz.prog 61 #[.string s,.string sep] w fun e w'=>e=.returned (.tuple #[.string ⟨(Lib.cut s.data.toList sep.data.toList).1.toArray⟩,.string ⟨(Lib.cut s.data.toList sep.data.toList).2.1.toArray⟩,.bool (Lib.cut s.data.toList sep.data.toList).2.2])∧∃n,w'=w.drewN n:=Any.strings_Cut Tryz.lays145 s sep m w hs hm
def Tryz.lays189_ren:Go.Shelf.Ren:=⟨fun|189=>236|125=>115|257=>237|128=>141|129=>142|294=>238|295=>239|296=>240|297=>241|298=>242|299=>243|216=>244|300=>245|301=>246|328=>247|329=>160|330=>161|331=>248|332=>249|215=>116|343=>250|n=>n,fun|28=>27|3=>3|46=>176|0=>0|51=>195|53=>183|4=>4|183=>188|182=>187|131=>192|5=>5|9=>9|218=>214|222=>218|228=>228|229=>131|n=>n,fun|n=>n⟩
theorem Tryz.lays189:Go.Proofs.Lays.n189 Tryz.prog Tryz.lays189_ren:={
 mixed:=by kernel_rfl
 f125:=Tryz.func115.trans (congrArg some (by kernel_rfl))
 f128:=Tryz.func141.trans (congrArg some (by kernel_rfl))
 f129:=Tryz.func142.trans (congrArg some (by kernel_rfl))
 f189:=Tryz.func236.trans (congrArg some (by kernel_rfl))
 f215:=Tryz.func116.trans (congrArg some (by kernel_rfl))
 f216:=Tryz.func244.trans (congrArg some (by kernel_rfl))
 f257:=Tryz.func237.trans (congrArg some (by kernel_rfl))
 f294:=Tryz.func238.trans (congrArg some (by kernel_rfl))
 f295:=Tryz.func239.trans (congrArg some (by kernel_rfl))
 f296:=Tryz.func240.trans (congrArg some (by kernel_rfl))
 f297:=Tryz.func241.trans (congrArg some (by kernel_rfl))
 f298:=Tryz.func242.trans (congrArg some (by kernel_rfl))
 f299:=Tryz.func243.trans (congrArg some (by kernel_rfl))
 f300:=Tryz.func245.trans (congrArg some (by kernel_rfl))
 f301:=Tryz.func246.trans (congrArg some (by kernel_rfl))
 f328:=Tryz.func247.trans (congrArg some (by kernel_rfl))
 f329:=Tryz.func160.trans (congrArg some (by kernel_rfl))
 f330:=Tryz.func161.trans (congrArg some (by kernel_rfl))
 f331:=Tryz.func248.trans (congrArg some (by kernel_rfl))
 f332:=Tryz.func249.trans (congrArg some (by kernel_rfl))
 f343:=Tryz.func250.trans (congrArg some (by kernel_rfl))
 t0:=Tryz.underlying0
 a0:=Tryz.isAgg0
 z0:=Tryz.sizeOf0
 v0:=Tryz.zeroValue0
 t3:=Tryz.underlying3
 a3:=Tryz.isAgg3
 z3:=Tryz.sizeOf3
 v3:=Tryz.zeroValue3
 t4:=Tryz.underlying4
 a4:=Tryz.isAgg4
 z4:=Tryz.sizeOf4
 v4:=Tryz.zeroValue4
 t5:=Tryz.underlying5
 a5:=Tryz.isAgg5
 z5:=Tryz.sizeOf5
 v5:=Tryz.zeroValue5
 t9:=Tryz.underlying9
 a9:=Tryz.isAgg9
 z9:=Tryz.sizeOf9
 v9:=Tryz.zeroValue9
 t28:=Tryz.underlying27
 a28:=Tryz.isAgg27
 z28:=Tryz.sizeOf27
 v28:=Tryz.zeroValue27
 t46:=Tryz.underlying176
 a46:=Tryz.isAgg176
 z46:=Tryz.sizeOf176
 v46:=Tryz.zeroValue176
 t51:=Tryz.underlying195
 a51:=Tryz.isAgg195
 z51:=Tryz.sizeOf195
 v51:=Tryz.zeroValue195
 t53:=Tryz.underlying183
 a53:=Tryz.isAgg183
 z53:=Tryz.sizeOf183
 v53:=Tryz.zeroValue183
 t131:=Tryz.underlying192
 a131:=Tryz.isAgg192
 z131:=Tryz.sizeOf192
 v131:=Tryz.zeroValue192
 t182:=Tryz.underlying187
 a182:=Tryz.isAgg187
 z182:=Tryz.sizeOf187
 v182:=Tryz.zeroValue187
 t183:=Tryz.underlying188
 a183:=Tryz.isAgg188
 z183:=Tryz.sizeOf188
 v183:=Tryz.zeroValue188
 t218:=Tryz.underlying214
 a218:=Tryz.isAgg214
 z218:=Tryz.sizeOf214
 v218:=Tryz.zeroValue214
 t222:=Tryz.underlying218
 a222:=Tryz.isAgg218
 z222:=Tryz.sizeOf218
 v222:=Tryz.zeroValue218
 t228:=Tryz.underlying228
 a228:=Tryz.isAgg228
 z228:=Tryz.sizeOf228
 v228:=Tryz.zeroValue228
 t229:=Tryz.underlying131
 a229:=Tryz.isAgg131
 z229:=Tryz.sizeOf131
 v229:=Tryz.zeroValue131 }
open Go.Sort Go.RowKit in
theorem Tryz.slices_Sort_int (blk off cap:Nat) (zs:List Int) (w:World) (hH:Holds (Value.int .i64) w blk off zs.toArray) (hblk:blk<w.heap.size) (hsz:zs.length<4611686018427387904) :
  Calls Tryz.prog 236 #[.slice (some ⟨blk,off,none⟩) zs.length cap] w fun e w' =>
   e=.returned (.tuple #[])∧∃n os,w'=grow (putRow (Value.int .i64) (Sort.ahead w n) blk off (zs.mergeSort fun x y=>decide (x≤y)).toArray) os:=Any.slices_Sort_int Tryz.lays189 blk off cap zs w hH hblk hsz
def Tryz.lays206_ren:Go.Shelf.Ren:=⟨fun|206=>132|n=>n,fun|9=>9|4=>4|3=>3|n=>n,fun|n=>n⟩
theorem Tryz.lays206:Go.Proofs.Lays.n206 Tryz.prog Tryz.lays206_ren:={
 mixed:=by kernel_rfl
 f206:=Tryz.func132.trans (congrArg some (by kernel_rfl))
 t3:=Tryz.underlying3
 a3:=Tryz.isAgg3
 z3:=Tryz.sizeOf3
 v3:=Tryz.zeroValue3
 t4:=Tryz.underlying4
 a4:=Tryz.isAgg4
 z4:=Tryz.sizeOf4
 v4:=Tryz.zeroValue4
 t9:=Tryz.underlying9
 a9:=Tryz.isAgg9
 z9:=Tryz.sizeOf9
 v9:=Tryz.zeroValue9 }
open Go.RowKit Go.Lib in
theorem Tryz.stringslite_HasPrefix (s p:ByteArray) (w:World) :
  Calls Tryz.prog 132 #[.string s,.string p] w fun e w'=>e=.returned (.bool (Lib.hasPrefix s.data.toList p.data.toList))∧w'=w:=Any.stringslite_HasPrefix Tryz.lays206 s p w
def Tryz.lays146_ren:Go.Shelf.Ren:=⟨fun|146=>82|221=>108|268=>124|138=>125|143=>126|195=>150|197=>151|218=>152|219=>107|260=>168|217=>120|225=>121|224=>122|267=>123|266=>148|314=>149|n=>n,fun|9=>9|31=>125|3=>3|4=>4|0=>0|105=>205|21=>21|5=>5|46=>176|119=>230|139=>233|138=>232|146=>202|51=>195|n=>n,fun|1=>0|3=>4|4=>5|n=>n⟩
theorem Tryz.lays146:Go.Proofs.Lays.n146 Tryz.prog Tryz.lays146_ren:={
 mixed:=by kernel_rfl
 f138:=Tryz.func125.trans (congrArg some (by kernel_rfl))
 f143:=Tryz.func126.trans (congrArg some (by kernel_rfl))
 f146:=Tryz.func82.trans (congrArg some (by kernel_rfl))
 f195:=Tryz.func150.trans (congrArg some (by kernel_rfl))
 f197:=Tryz.func151.trans (congrArg some (by kernel_rfl))
 f217:=Tryz.func120.trans (congrArg some (by kernel_rfl))
 f218:=Tryz.func152.trans (congrArg some (by kernel_rfl))
 f219:=Tryz.func107.trans (congrArg some (by kernel_rfl))
 f221:=Tryz.func108.trans (congrArg some (by kernel_rfl))
 f224:=Tryz.func122.trans (congrArg some (by kernel_rfl))
 f225:=Tryz.func121.trans (congrArg some (by kernel_rfl))
 f260:=Tryz.func168.trans (congrArg some (by kernel_rfl))
 f266:=Tryz.func148.trans (congrArg some (by kernel_rfl))
 f267:=Tryz.func123.trans (congrArg some (by kernel_rfl))
 f268:=Tryz.func124.trans (congrArg some (by kernel_rfl))
 f314:=Tryz.func149.trans (congrArg some (by kernel_rfl))
 t0:=Tryz.underlying0
 a0:=Tryz.isAgg0
 z0:=Tryz.sizeOf0
 v0:=Tryz.zeroValue0
 t3:=Tryz.underlying3
 a3:=Tryz.isAgg3
 z3:=Tryz.sizeOf3
 v3:=Tryz.zeroValue3
 t4:=Tryz.underlying4
 a4:=Tryz.isAgg4
 z4:=Tryz.sizeOf4
 v4:=Tryz.zeroValue4
 t5:=Tryz.underlying5
 a5:=Tryz.isAgg5
 z5:=Tryz.sizeOf5
 v5:=Tryz.zeroValue5
 t9:=Tryz.underlying9
 a9:=Tryz.isAgg9
 z9:=Tryz.sizeOf9
 v9:=Tryz.zeroValue9
 t21:=Tryz.underlying21
 a21:=Tryz.isAgg21
 z21:=Tryz.sizeOf21
 v21:=Tryz.zeroValue21
 t31:=Tryz.underlying125
 a31:=Tryz.isAgg125
 z31:=Tryz.sizeOf125
 v31:=Tryz.zeroValue125
 t46:=Tryz.underlying176
 a46:=Tryz.isAgg176
 z46:=Tryz.sizeOf176
 v46:=Tryz.zeroValue176
 t51:=Tryz.underlying195
 a51:=Tryz.isAgg195
 z51:=Tryz.sizeOf195
 v51:=Tryz.zeroValue195
 t105:=Tryz.underlying205
 a105:=Tryz.isAgg205
 z105:=Tryz.sizeOf205
 v105:=Tryz.zeroValue205
 t119:=Tryz.underlying230
 a119:=Tryz.isAgg230
 z119:=Tryz.sizeOf230
 t138:=Tryz.underlying232
 a138:=Tryz.isAgg232
 z138:=Tryz.sizeOf232
 v138:=Tryz.zeroValue232
 t139:=Tryz.underlying233
 a139:=Tryz.isAgg233
 z139:=Tryz.sizeOf233
 v139:=Tryz.zeroValue233
 t146:=Tryz.underlying202
 a146:=Tryz.isAgg202
 z146:=Tryz.sizeOf202
 v146:=Tryz.zeroValue202
 g1:=by kernel_rfl
 g3:=by kernel_rfl
 g4:=by kernel_rfl }
open Go.RowKit Go.Lib in
theorem Tryz.strings_Split (s sep:ByteArray) (m:Int) (w:World) (hs:s.size<4294967281) (hm:w.cell? ⟨0,0,none⟩=some (.int .i64 m)) (h1:1≤sep.size) :
  Calls Tryz.prog 82 #[.string s,.string sep] w fun e w' =>
   e=.returned (.slice (some ⟨w.heap.size,0,none⟩) (Lib.countB s sep+1) (Lib.countB s sep+1))∧w'=w.alloc (.cells ((Lib.splitB sep 0 (Lib.countB s sep) s).map Value.string).toArray 9):=Any.strings_Split Tryz.lays146 (by kernel_rfl) s sep m w hs hm h1
open Go.RowKit Go.Sort in
theorem Tryz.slices_Sort_int_none (p:Option Addr) (cap:Nat) (w:World) :
  Calls Tryz.prog 236 #[.slice p 0 cap] w fun e w'=>e=.returned (.tuple #[])∧w'=w:=Any.slices_Sort_int_none Tryz.lays189 p cap w
end Go.Proofs
set_option linter.unusedSimpArgs false
set_option linter.unusedVariables false
namespace Go.Proofs.YtmegoiaijfeilaaGreatDoor
open Go.RowKit Lim
end Go.Proofs.YtmegoiaijfeilaaGreatDoor
namespace Go.Proofs.YtmegoiaijfeilaaGreatDoor
open Go.RowKit Lim
end Go.Proofs.YtmegoiaijfeilaaGreatDoor
namespace Go.Proofs.YtmegoiaijfeilaaGreatDoor
open Go.RowKit Lim
def sg (t:Bool) (n:Nat):Int:=if t then -(n:Int) else (n:Int)
structure InI (w:World) (t:Bool) (A:Option Addr) (c:Nat) (l:List Nat) (z:Int):Prop where
 mag:In w A c l z.natAbs
 sgn:z=sg t z.natAbs
structure OutI (w:World) (t:Bool) (A:Option Addr) (c:Nat) (l:List Nat) (z:Int):Prop where
 mag:Out w A c z.natAbs
 sgn:t=decide (z<0)
 lim:l=limbs z.natAbs
def Box (w:World) (g:Nat) (cs:Array Value) (t:TypeId):Prop:=w.heap[g]? = some (.cells cs t (0,0))
theorem Box.lt {w:World} {g:Nat} {cs:Array Value} {t:TypeId} (h:Box w g cs t):g<w.heap.size:=by
 rcases Nat.lt_or_ge g w.heap.size with hlt|hge
 ·exact hlt
 ·unfold Box at h;rw [Array.getElem?_eq_none hge]at h;cases h
theorem Box.cell {w:World} {g:Nat} {cs:Array Value} {t:TypeId} (h:Box w g cs t) (i:Nat):w.cell? ⟨g,i,none⟩=cs[i]?:=cell_of_row w g i cs t (0,0) h
theorem Box.new (w:World) (cs:Array Value) (t:TypeId):Box (w.alloc (.cells cs t)) w.heap.size cs t:=heap_alloc_new w _
def noLimb:Value→Bool|.int .u32 _=>false|_=>true
end Go.Proofs.YtmegoiaijfeilaaGreatDoor
namespace Go.Proofs.YtmegoiaijfeilaaGreatDoor
open Go.RowKit Lim
attribute [local go_sem ↓] Go.wp_at_zero Go.wp_at_succ
end Go.Proofs.YtmegoiaijfeilaaGreatDoor
namespace Go.Proofs.YtmegoiaijfeilaaGreatDoor
open Go.RowKit Lim
attribute [local go_sem ↓] Go.wp_at_zero Go.wp_at_succ
end Go.Proofs.YtmegoiaijfeilaaGreatDoor
namespace Go.Proofs.YtmegoiaijfeilaaGreatDoor
open Go.RowKit Lim
attribute [local go_sem ↓] Go.wp_at_zero Go.wp_at_succ
end Go.Proofs.YtmegoiaijfeilaaGreatDoor
set_option linter.unusedSimpArgs false
set_option linter.unusedVariables false
namespace Go.Proofs.YtmegoiaijfeilaaGreatDoor
open Go.RowKit Lim
attribute [local go_sem ↓] Go.wp_at_zero Go.wp_at_succ
def rd (z:Int) (d:Nat):Nat:=d / Nat.gcd z.natAbs d
structure InR (w:World) (t:Bool) (A:Option Addr) (c:Nat) (l:List Nat) (B:Option Addr) (f:Nat) (m:List Nat) (z:Int) (d:Nat):Prop where
 num:InI w t A c l z
 den:In w B f m d
end Go.Proofs.YtmegoiaijfeilaaGreatDoor
namespace Go.Proofs.YtmegoiaijfeilaaGreatDoor
open Go.RowKit Lim
attribute [local go_sem ↓] Go.wp_at_zero Go.wp_at_succ
end Go.Proofs.YtmegoiaijfeilaaGreatDoor
namespace Go.Proofs.YtmegoiaijfeilaaGreatDoor
open Go.RowKit Lim
attribute [local go_sem ↓] Go.wp_at_zero Go.wp_at_succ
end Go.Proofs.YtmegoiaijfeilaaGreatDoor
namespace Go.Proofs.YtmegoiaijfeilaaGreatDoor
open Go.RowKit Lim
attribute [local go_sem ↓] Go.wp_at_zero Go.wp_at_succ
end Go.Proofs.YtmegoiaijfeilaaGreatDoor
namespace Go.Proofs.YtmegoiaijfeilaaGreatDoor
open Go.RowKit Lim
attribute [local go_sem ↓] Go.wp_at_zero Go.wp_at_succ
theorem below_alloc {W w:World} (h:Below W.heap.size W w) (o:Obj):Below W.heap.size W (w.alloc o):=h.alloc h.size o
end Go.Proofs.YtmegoiaijfeilaaGreatDoor
namespace Go.Proofs.YtmegoiaijfeilaaGreatDoor
open Go.RowKit Lim
attribute [local go_sem ↓] Go.wp_at_zero Go.wp_at_succ
end Go.Proofs.YtmegoiaijfeilaaGreatDoor
namespace Go.Proofs.YtmegoiaijfeilaaGreatDoor
open Go.RowKit Lim
attribute [local go_sem ↓] Go.wp_at_zero Go.wp_at_succ
end Go.Proofs.YtmegoiaijfeilaaGreatDoor
set_option linter.unusedSimpArgs false
set_option linter.unusedVariables false
namespace Go.Proofs.YtmegoiaijfeilaaGreatDoor
open Go.RowKit
theorem tab_keepB {P:Program} {w w':World} {name:String} {k:IntKind} {zs:List Int} (h:Lib.TabIs P w name k zs) (hb:∀g,P.globalNamed name=some g→g<w.heap.size→w'.heap[g]? = w.heap[g]?):Lib.TabIs P w' name k zs:=by
 unfold Lib.TabIs World.var? at *
 cases hg:P.globalNamed name with
 | none=>simp [hg]at h
 | some g =>
  simp only [hg,Option.bind_some]at h ⊢
  have hlt:g<w.heap.size:=by
   rcases Nat.lt_or_ge g w.heap.size with h'|h'
   ·exact h'
   ·rw [Array.getElem?_eq_none h']at h;simp at h
  rw [hb g hg hlt]
  exact h
theorem tab_lt {P:Program} {w:World} {name:String} {k:IntKind} {zs:List Int} (h:Lib.TabIs P w name k zs) {g:Nat} (hg:P.globalNamed name=some g):g<w.heap.size:=by
 unfold Lib.TabIs World.var? at h
 simp only [hg,Option.bind_some]at h
 rcases Nat.lt_or_ge g w.heap.size with h'|h'
 ·exact h'
 ·rw [Array.getElem?_eq_none h']at h;simp at h
end Go.Proofs.YtmegoiaijfeilaaGreatDoor
namespace Go.Proofs.YtmegoiaijfeilaaGreatDoor
open Go.RowKit Lim Go.Sort
attribute [local go_sem ↓] Go.wp_at_zero Go.wp_at_succ
def Tab (w : World) : Prop := Lib.TabIs Tryz.prog w "internal/strconv.uint64pow10" .u64 Lib.pow10Tab
end Go.Proofs.YtmegoiaijfeilaaGreatDoor
namespace Go.Proofs.YtmegoiaijfeilaaGreatDoor
open Go.RowKit Lim
end Go.Proofs.YtmegoiaijfeilaaGreatDoor
namespace Go.Proofs.YtmegoiaijfeilaaGreatDoor
open Go.RowKit Lim
attribute [local go_sem ↓] Go.wp_at_zero Go.wp_at_succ
def gsL (n k:Nat):List Nat:=(List.range k).map fun i=>n / 1000000000 ^ i % 1000000000
def gcells (n k:Nat):List Value:=(gsL n k).map fun g=>Value.int .u32 ((g:Nat):Int)
structure PrRel (w wr:World) (A:Option Addr) (c gk:Nat) (gv:Value) (k n:Nat):Prop where
 rest:In wr A c (limbs gk) gk
 own:wr.ownsRow w.heap.size 195 1 gv k (gcells n k)
 val:gk=n / 1000000000 ^ k
 top:k=0∨0<n / 1000000000 ^ (k-1)
 bel:Below w.heap.size w wr
structure PtRel (wr wx:World) (tv:Value) (j n:Nat):Prop where
 own:wx.ownsRow wr.heap.size 5 1 tv (Lib.decDigits (n / 1000000000 ^ j)).length (Lib.byteCells (Lib.decDigits (n / 1000000000 ^ j)))
 bel:Below wr.heap.size wr wx
structure PzRel (W1 wr:World) (tv:Value) (ds:List UInt8) (z:Nat):Prop where
 own:wr.ownsRow W1.heap.size 5 1 tv (ds.length+z) (Lib.byteCells (ds ++ List.replicate z 48))
 bel:Below W1.heap.size W1 wr
end Go.Proofs.YtmegoiaijfeilaaGreatDoor
namespace Go.Proofs.YtmegoiaijfeilaaGreatDoor
open Go.RowKit Lim
attribute [local go_sem ↓] Go.wp_at_zero Go.wp_at_succ
def bs (l:List UInt8):ByteArray:=⟨l.toArray⟩
theorem bs_size (l:List UInt8):(bs l).size=l.length:=by simp [bs,ByteArray.size]
theorem bs_app (a b:List UInt8):bs a ++ bs b=bs (a ++ b):=by
 apply ByteArray.ext
 rw [ByteArray.data_append]
 simp [bs]
structure SliceFacts (T:List UInt8) (p:Nat) (sT:ByteArray) (L:Nat) (sa sb sc s2:ByteArray):Prop where
 a:∀W,(Instr.slice 9 (.string sT) none (some (.int .i64 ((L:Int)-(p:Int)))) none).run Tryz.prog W=.ok (.string sa) W
 b:∀W,(Op.stringOp .add sa ⟨#[46]⟩).run Tryz.prog W=.ok (.string sb) W
 c:∀W,(Instr.slice 9 (.string sT) (some (.int .i64 ((L:Int)-(p:Int)))) none none).run Tryz.prog W=.ok (.string sc) W
 d:∀W,(Op.stringOp .add sb sc).run Tryz.prog W=.ok (.string s2) W
 e:s2=bs (T.take (T.length-p) ++ [46] ++ T.drop (T.length-p))
end Go.Proofs.YtmegoiaijfeilaaGreatDoor
namespace Go.Proofs.YtmegoiaijfeilaaGreatDoor
open Go.RowKit Lim
attribute [local go_sem ↓] Go.wp_at_zero Go.wp_at_succ
end Go.Proofs.YtmegoiaijfeilaaGreatDoor
namespace Go.Proofs.YtmegoiaijfeilaaGreatDoor
open Go.RowKit Lim
attribute [local go_sem ↓] Go.wp_at_zero Go.wp_at_succ
theorem toList_loop (a:ByteArray):∀(n i:Nat) (r:List UInt8),a.size-i=n→ByteArray.toList.loop a i r=r.reverse ++ a.data.toList.drop i:=by
 intro n
 induction n with
 | zero =>
  intro i r h
  rw [ByteArray.toList.loop,if_neg (by omega),List.drop_eq_nil_of_le (by rw [Array.length_toList];exact (show a.size≤i by omega)),List.append_nil]
 | succ n ih =>
  intro i r h
  have hi:i<a.size:=by omega
  have hi2:i<a.data.toList.length:=by rw [Array.length_toList];exact hi
  rw [ByteArray.toList.loop,if_pos hi,ih (i+1) _ (by omega),List.drop_eq_getElem_cons hi2]
  have e:a.get! i=a.data.toList[i]:=by
   show a.data[i]! = _
   rw [getElem!_pos a.data i hi]
   simp
  rw [e]
  simp
theorem toList_bs (s:List UInt8):(bs s).toList=s:=by
 unfold ByteArray.toList
 rw [toList_loop _ _ _ _ rfl]
 simp [bs]
end Go.Proofs.YtmegoiaijfeilaaGreatDoor
namespace Go.Proofs.YtmegoiaijfeilaaGreatDoor
open Go.RowKit Lim
attribute [local go_sem ↓] Go.wp_at_zero Go.wp_at_succ
structure PaRel (w wr:World) (A:Option Addr) (c:Nat) (AT:Option Addr) (cT:Nat) (v:Nat):Prop where
 acc:Out wr A c v
 ten:Out wr AT cT 10
 bel:Below w.heap.size w wr
end Go.Proofs.YtmegoiaijfeilaaGreatDoor
