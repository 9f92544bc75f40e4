import Derived.Test.YtcaahphghaddgaaGreatDoorDXK
import Derived.Lib.Split
import Derived.Lib.Repeat
/- Text XL. -/
set_option linter.unusedSimpArgs false
set_option linter.unusedVariables false
namespace Go.Proofs.YtcaahphghaddgaaGreatDoor
open Go.RowKit Lim
section
variable {w:World} {Z:Zone}
end
theorem cut_c (s p:List UInt8) (hs:s.length<4294967281):AT 55 [str s,str p] (.tup [str (Lib.cut s p).1,str (Lib.cut s p).2.1,boo (Lib.cut s p).2.2]):=by
 refine ⟨by exact ⟨Tryz.f55,Tryz.func55,by kernel_rfl,rfl⟩,fun w Z vs hE hz _ hr=>?_⟩
 obtain ⟨_,_,rfl,h1,h2⟩:=reps2 hr
 have hE:Env w:=hE
 rw [h1.lit_eq,h2.lit_eq]
 obtain ⟨m,hm⟩:=hE.mx
 refine (Tryz.strings_Cut (bs s) (bs p) m w (by rw [bs_size];exact hs) hm).mono ?_
 rintro e w' ⟨rfl,n,rfl⟩
 rw [bs_list,bs_list]
 exact ⟨_,rfl,below_drewN (Below.refl _ _) n,rept3 (.lit rfl) (.lit rfl) (.lit rfl)⟩
def capR (z:Int):Bool:=decide (0≤z) && decide (z≤1048576)
def pItoa_o:List V→Bool
 | [.o (.c ⟨.int .i64,z⟩)]=>capI z
 | _=>false
def pRep_o:List V→Bool
 | [.o (.c ⟨.str,s⟩),.o (.c ⟨.int .i64,z⟩)]=>Nat.ble s.length 1048576 && capR z
 | _=>false
def pCut_o:List V→Bool
 | [.o (.c ⟨.str,s⟩),.o (.c ⟨.str,_⟩)]=>capS s
 | _=>false
def pCut_r:List V→Option (List V0)
 | [.o (.c ⟨.str,s⟩),.o (.c ⟨.str,p⟩)]=>some [.c ⟨.str,(Lib.cut s p).1⟩,.c ⟨.str,(Lib.cut s p).2.1⟩,.c ⟨.bool,(Lib.cut s p).2.2⟩]
 | _=>none
theorem pCut_p:Prim.OK 55 ⟨true,pCut_o,pCut_r⟩:=by
 intro args l h h2
 simp only [pCut_r]at h2
 split at h2
 ·rename_i s p
  cases h2
  refine ⟨fun _=>cut_c s p (capS_of h),fun ht=>by cases ht⟩
 ·cases h2
end Go.Proofs.YtcaahphghaddgaaGreatDoor
