import Derived.Test.YtmegoiaijfeilaaGreatDoorB4
/- Texts merged: WiA Pn. -/
set_option linter.unusedSimpArgs false
set_option linter.unusedVariables false
namespace Go.Proofs.YtmegoiaijfeilaaGreatDoor
open Go.RowKit Lim
abbrev shRu:SH:=.cons shI (.cons shI (.cons shI (.cons shI (.cons .str .nil))))
abbrev shSp:SH:=.cons shI (.cons (.sl shRu) .nil)
abbrev shPr:SH:=.cons shI (.cons shI .nil)
theorem i64_z {z:Int} (h:IntKind.min .i64≤z∧z≤IntKind.max .i64):in64Z z:=by simpa [IntKind.min,IntKind.max,IntKind.signed,IntKind.bits]using h
def toRu (x:Int × Int × Int × Int × List UInt8):RuleV:=⟨x.1,x.2.1,x.2.2.1,x.2.2.2.1,x.2.2.2.2⟩
theorem specs_den (n:Int) (rs:List (Int × Int × Int × Int × List UInt8)):SH.top shSp (eraL (vtOf shSp) ((n,rs):(vtOf shSp).den))=.agg [i64 n,rulesA (rs.map toRu)]:=by
 have e:(rs.map toRu).map ruleA=rs.map (fun x=>AV.agg [i64 x.1,i64 x.2.1,i64 x.2.2.1,i64 x.2.2.2.1,str x.2.2.2.2]):=by rw [List.map_map];rfl
 unfold rulesA
 rw [e]
 rfl
theorem ac_swap {f:FuncId} {a a' b b':AV} {r:List AV} {v:AV} (h1:a'=a) (h2:b'=b) (h:AC f (a :: b :: r) v):AC f (a' :: b' :: r) v:=by
 rw [h1,h2]
 exact h
end Go.Proofs.YtmegoiaijfeilaaGreatDoor
set_option linter.unusedSimpArgs false
set_option linter.unusedVariables false
namespace Go.Proofs.YtmegoiaijfeilaaGreatDoor
open Go.RowKit Lim
theorem brows.law (as':List AV) (h:OkA 1048576 [shSp,.sl shPI,.sl shPr,.sl shI] as'):AC 4 as' (boo true):=by
 obtain ⟨a,r1,rfl,h1,q1⟩:=okA_more h
 obtain ⟨b,r2,rfl,h2,q2⟩:=okA_more q1
 obtain ⟨c,r3,rfl,h3,q3⟩:=okA_more q2
 obtain ⟨d,rfl,h4⟩:=okA_one q3
 obtain ⟨⟨n,rs⟩,rfl,hn,hl,hr⟩:=h1.den
 obtain ⟨pool,rfl,hpl,_⟩:=h2.den
 obtain ⟨l,rfl,hll,_⟩:=h3.den
 obtain ⟨ch,rfl,hcl,_⟩:=h4.den
 have:=rows_c n (rs.map toRu) pool l ch (fun r hr'=>by
  obtain ⟨x,hx,rfl⟩:=List.mem_map.1 hr'
  obtain ⟨_,q2,q3,q4,q5⟩:=hr x hx
  exact ⟨i64_z q2,i64_z q3,i64_z q4,q5⟩) hpl hll hcl
 have e2:SH.top (.sl shPI) (eraL (vtOf (.sl shPI)) (pool:(vtOf (.sl shPI)).den))=.sl 9 (List.map itA pool):=by
  show AV.sl 9 _=_
  congr 1
 exact ac_swap (specs_den n rs) e2 this
end Go.Proofs.YtmegoiaijfeilaaGreatDoor
