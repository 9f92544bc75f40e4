import Derived.Test.YtcggnmddcbhchaaGreatDoorEXK
import Derived.Lib.Split
import Derived.Lib.Repeat
/- Text XL. -/
set_option linter.unusedSimpArgs false
set_option linter.unusedVariables false
namespace Go.Proofs.YtcggnmddcbhchaaGreatDoor
open Go.RowKit Lim
abbrev strs (L:List (List UInt8)):AV:=.sl 1 (L.map (fun x=>str x))
section
variable {w:World} {Z:Zone}
theorem row1_rep {α:Type} (f:α→Value) (h1:∀x,(f x).oneCell'=true) (l:List α) {b off c:Nat} (hb:b<w.heap.size) (hc:l.length≤c) (hcell:∀j (hj:j<l.length),w.cell? ⟨b,off+j,none⟩=some (f l[j])∧Z b (off+j)):Rep w Z (.sl 1 (l.map fun x=>AV.lit (f x))) (.slice (some ⟨b,off,none⟩) l.length c):=by
 have:Rep w Z (.sl 1 (l.map fun x=>AV.lit (f x))) (.slice (some ⟨b,off,none⟩) (l.map fun x=>AV.lit (f x)).length c):=by
  refine .sl (fun i _=>if h:i<l.length then f l[i] else undef) hb (by simpa using hc) (fun i hi=>by simp [AV.cells]) (fun i j hi hj=>?_) (fun i hi j hj=>?_)
  ·have hi':i<l.length:=by simpa using hi
   have:j=0:=by omega
   subst this
   simp only [hi',dif_pos,Nat.mul_one,Nat.add_zero]
   exact hcell i hi'
  ·have hi':i<l.length:=by simpa using hi
   have hj':j=0:=by simp [AV.cells]at hj;exact hj
   subst hj'
   simp only [hi',dif_pos]
   simp only [List.getElem_map,AV.cells,List.getElem_cons_zero]
   exact .lit (h1 _)
 simpa using this
end
def conH (b:UInt8):List (List UInt8)→List (List UInt8)
 | []=>[]
 | x :: l=>(b :: x) :: l
def splN (c:UInt8):List UInt8→Nat→List (List UInt8)
 | [],_=>[[]]
 | b :: l,0=>[b :: l]
 | b :: l,k+1=>bif b == c then [] :: splN c l k else conH b (splN c l (k+1))
theorem splN_zero (c:UInt8) (s:List UInt8):splN c s 0=[s]:=by cases s <;> rfl
theorem splitK_splN (c:UInt8):∀(s:List UInt8) (k:Nat),Lib.splitK [c] 0 k s=splN c s k
 | s,0=>by rw [splN_zero];rfl
 | [],k+1=>rfl
 | b :: l,k+1=>by
  by_cases h:b=c
  ·subst h
   have hix:Lib.index (b :: l) [b]=0:=by rw [Lib.index];simp [List.isPrefixOf]
   have hb:(b == b)=true:=by simp
   rw [Lib.splitK,hix,splN,hb,cond_true,←splitK_splN b l k]
   simp
  ·have hp:([c]:List UInt8).isPrefixOf (b :: l)=false:=by simp [List.isPrefixOf,Ne.symm h]
   have hix:Lib.index (b :: l) [c]=if Lib.index l [c] == -1 then -1 else Lib.index l [c]+1:=by rw [Lib.index,hp];simp
   have hge:=Lib.index_ge l [c]
   have hb:(b == c)=false:=by simpa using h
   rw [splN,hb,cond_false,←splitK_splN c l (k+1)]
   simp only [Lib.splitK,hix]
   by_cases hm:Lib.index l [c] = -1
   ·simp [hm,conH]
   ·have e1:(Lib.index l [c] == -1)=false:=by simpa using hm
    have e2:(Lib.index l [c]+1 == -1)=false:=by simp;omega
    have e3:(Lib.index l [c]+1).toNat=(Lib.index l [c]).toNat+1:=by omega
    simp only [e1,e2,e3,Bool.false_eq_true,if_false,Nat.add_zero,List.length_cons,List.length_nil,conH,List.take_succ_cons,Nat.zero_add,List.drop_succ_cons]
theorem splN_many (c:UInt8):∀(s:List UInt8) (k:Nat),s.length≤k→splN c s k=splN c s s.length
 | [],k,_=>by cases k <;> rfl
 | b :: l,0,h=>by simp at h
 | b :: l,k+1,h=>by
  have h:l.length≤k:=by simpa using h
  simp only [splN,List.length_cons]
  rw [splN_many c l k h,splN_many c l (k+1) (by omega),splN_many c l (l.length+1) (by omega)]
theorem splN_len (c:UInt8):∀(s:List UInt8) (k:Nat),(splN c s k).length≤k+1
 | [],k=>by simp [splN]
 | b :: l,0=>by simp [splN]
 | b :: l,k+1=>by
  simp only [splN]
  cases b == c with
  | true=>have:=splN_len c l k;simpa using this
  | false =>
   have:=splN_len c l (k+1)
   rw [cond_false]
   cases hh:splN c l (k+1)with
   | nil=>simp [conH]
   | cons x r=>rw [hh]at this;simpa [conH]using this
theorem splN_min (c:UInt8) (s:List UInt8) (n:Nat) (hn:1≤n):splN c s (min n (s.length+1)-1)=splN c s (n-1):=by
 rcases Nat.lt_or_ge n (s.length+1)with h|h
 ·rw [Nat.min_eq_left (by omega)]
 ·rw [Nat.min_eq_right h,splN_many c s (n-1) (by omega),Nat.add_sub_cancel]
theorem splitN_c (s:List UInt8) (c:UInt8) (n:Nat) (hs:s.length<4294967281) (hn:1≤n) (hn2:n≤9223372036854775807):AT 37 [str s,str [c],i64 (n:Nat)] (strs (splN c s (n-1))):=by
 refine ⟨by exact ⟨Tryz.f37,Tryz.func37,by kernel_rfl,rfl⟩,fun w Z vs hE hz _ hr=>?_⟩
 obtain ⟨_,_,_,rfl,h1,h2,h3⟩:=reps3 hr
 have hE:Env w:=hE
 obtain ⟨m,hm⟩:=hE.mx
 rw [h1.lit_eq,h2.lit_eq,h3.lit_eq]
 have hd:=Lib.splitB_data (bs [c]) 0 (min n ((bs s).size+1)-1) (bs s)
 have hd2:Lib.splitK (bs [c]).data.toList 0 (min n ((bs s).size+1)-1) (bs s).data.toList=splN c s (n-1):=by
  rw [bs_list,bs_list,splitK_splN,bs_size,splN_min c s n hn]
 rw [hd2]at hd
 have hsp:Lib.splitB (bs [c]) 0 (min n ((bs s).size+1)-1) (bs s)=(splN c s (n-1)).map bs:=by
  rw [←hd,List.map_map]
  have:(bs ∘ fun x:ByteArray=>x.data.toList)=id:=by funext x;rfl
  rw [this,List.map_id]
 have hlen:(splN c s (n-1)).length≤min n ((bs s).size+1):=by
  rw [bs_size,←splN_min c s n hn]
  have:=splN_len c s (min n (s.length+1)-1)
  omega
 refine (Tryz.strings_SplitN (bs s) (bs [c]) n m w (by rw [bs_size];exact hs) hm (by rw [bs_size];exact Nat.le_refl 1) hn hn2).mono ?_
 rintro e w' ⟨rfl,rfl⟩
 rw [hsp,List.length_map]
 refine ⟨_,rfl,Below.alloc (Below.refl _ _) (Nat.le_refl _) _,?_⟩
 refine row1_rep (fun x:List UInt8=>Value.string (bs x)) (fun _=>rfl) (splN c s (n-1)) (by rw [World.size_alloc];exact Nat.lt_succ_self _) hlen fun j hj=>⟨?_,.inr ⟨Nat.le_refl _,by rw [World.size_alloc];exact Nat.lt_succ_self _⟩⟩
 have hblk:=heap_alloc_new w (.cells (Lib.cellsOf ((splN c s (n-1)).map bs) (min n ((bs s).size+1))) 9)
 simp only [World.cell?,hblk,Nat.zero_add]
 simp only [Lib.cellsOf,List.map_map,List.getElem?_toArray]
 rw [List.getElem?_append_left (by simpa using hj)]
 simp [hj]
theorem itoa_c (n:Int) (h:-9223372036854775808≤n∧n≤9223372036854775807):AT 100 [i64 n] (str (Lib.itoa n)):=by
 refine ⟨by exact ⟨Tryz.f100,Tryz.func100,by kernel_rfl,rfl⟩,fun w Z vs hE hz _ hr=>?_⟩
 obtain ⟨_,rfl,h1⟩:=reps1 hr
 have hE:Env w:=hE
 rw [h1.lit_eq]
 refine (Tryz.strconv_Itoa n h.1 h.2 w hE.tab).mono ?_
 rintro e w' ⟨rfl,k,os,rfl⟩
 exact ⟨_,rfl,Lib.below_grow _ w (Nat.le_refl _) k os,.lit rfl⟩
theorem repeat_c (s:List UInt8) (n:Nat) (h1:n≤1048576) (h2:s.length≤1048576):AT 129 [str s,i64 (n:Nat)] (str (Lib.repeatL s n)):=by
 refine ⟨by exact ⟨Tryz.f129,Tryz.func129,by kernel_rfl,rfl⟩,fun w Z vs hE hz _ hr=>?_⟩
 obtain ⟨_,_,rfl,h3,h4⟩:=reps2 hr
 rw [h3.lit_eq,h4.lit_eq]
 refine (Tryz.strings_Repeat (bs s) n w (by omega) (by rw [bs_size];exact Nat.le_trans (Nat.mul_le_mul h2 h1) (by decide))).mono ?_
 rintro e w' ⟨rfl,hb⟩
 rw [bs_list]
 exact ⟨_,rfl,hb,.lit rfl⟩
theorem cut_c (s p:List UInt8) (hs:s.length<4294967281):AT 194 [str s,str p] (.tup [str (Lib.cut s p).1,str (Lib.cut s p).2.1,boo (Lib.cut s p).2.2]):=by
 refine ⟨by exact ⟨Tryz.f194,Tryz.func194,by kernel_rfl,rfl⟩,fun w Z vs hE hz _ hr=>?_⟩
 obtain ⟨_,_,rfl,h1,h2⟩:=reps2 hr
 have hE:Env w:=hE
 rw [h1.lit_eq,h2.lit_eq]
 obtain ⟨m,hm⟩:=hE.mx
 refine (Tryz.strings_Cut (bs s) (bs p) m w (by rw [bs_size];exact hs) hm).mono ?_
 rintro e w' ⟨rfl,n,rfl⟩
 rw [bs_list,bs_list]
 exact ⟨_,rfl,below_drewN (Below.refl _ _) n,rept3 (.lit rfl) (.lit rfl) (.lit rfl)⟩
def capR (z:Int):Bool:=decide (0≤z) && decide (z≤1048576)
theorem capR_of {z:Int} (h:capR z=true):∃k:Nat,z=(k:Int)∧k≤1048576:=by
 obtain ⟨h4,h5⟩:=band_of h
 have h4:=of_decide_eq_true h4
 have h5:=of_decide_eq_true h5
 exact ⟨z.toNat,by omega,by omega⟩
def capQ (z:Int):Bool:=decide (1≤z) && decide (z≤1048576)
theorem capQ_of {z:Int} (h:capQ z=true):∃k:Nat,z=(k:Int)∧1≤k∧k≤1048576:=by
 obtain ⟨h4,h5⟩:=band_of h
 have h4:=of_decide_eq_true h4
 have h5:=of_decide_eq_true h5
 exact ⟨z.toNat,by omega,by omega,by omega⟩
def pItoa_o:List V→Bool
 | [.o (.c ⟨.int .i64,z⟩)]=>capI z
 | _=>false
def pItoa_r:List V→Option (List V0)
 | [.o (.c ⟨.int .i64,z⟩)]=>some [.c ⟨.str,itoaK z⟩]
 | _=>none
theorem pItoa_p:Prim.OK 100 ⟨true,pItoa_o,pItoa_r⟩:=by
 intro args l h h2
 simp only [pItoa_r]at h2
 split at h2
 ·rename_i z
  cases h2
  rw [itoaK_eq]
  refine ⟨fun _=>itoa_c z (capI_of h),fun ht=>by cases ht⟩
 ·cases h2
def pRep_o:List V→Bool
 | [.o (.c ⟨.str,s⟩),.o (.c ⟨.int .i64,z⟩)]=>Nat.ble s.length 1048576 && capR z
 | _=>false
def pRep_r:List V→Option (List V0)
 | [.o (.c ⟨.str,s⟩),.o (.c ⟨.int .i64,z⟩)]=>some [.c ⟨.str,Lib.repeatL s z.toNat⟩]
 | _=>none
theorem pRep_p:Prim.OK 129 ⟨true,pRep_o,pRep_r⟩:=by
 intro args l h h2
 simp only [pRep_r]at h2
 split at h2
 ·rename_i s z
  cases h2
  obtain ⟨h1,h3⟩:=band_of h
  obtain ⟨k,rfl,h4⟩:=capR_of h3
  refine ⟨fun _=>repeat_c s k h4 (ble_of h1),fun ht=>by cases ht⟩
 ·cases h2
def pCut_o:List V→Bool
 | [.o (.c ⟨.str,s⟩),.o (.c ⟨.str,_⟩)]=>capS s
 | _=>false
def pCut_r:List V→Option (List V0)
 | [.o (.c ⟨.str,s⟩),.o (.c ⟨.str,p⟩)]=>some [.c ⟨.str,(Lib.cut s p).1⟩,.c ⟨.str,(Lib.cut s p).2.1⟩,.c ⟨.bool,(Lib.cut s p).2.2⟩]
 | _=>none
theorem pCut_p:Prim.OK 194 ⟨true,pCut_o,pCut_r⟩:=by
 intro args l h h2
 simp only [pCut_r]at h2
 split at h2
 ·rename_i s p
  cases h2
  refine ⟨fun _=>cut_c s p (capS_of h),fun ht=>by cases ht⟩
 ·cases h2
def pSplN_o:List V→Bool
 | [.o (.c ⟨.str,s⟩),.o (.c ⟨.str,[_]⟩),.o (.c ⟨.int .i64,z⟩)]=>capS s && capQ z
 | _=>false
def pSplN_r:List V→Option (List V0)
 | [.o (.c ⟨.str,s⟩),.o (.c ⟨.str,[c]⟩),.o (.c ⟨.int .i64,z⟩)]=>some [.c ⟨.sl 1 .str,splN c s (z.toNat-1)⟩]
 | _=>none
theorem pSplN_p:Prim.OK 37 ⟨true,pSplN_o,pSplN_r⟩:=by
 intro args l h h2
 simp only [pSplN_r]at h2
 split at h2
 ·rename_i s c z
  cases h2
  obtain ⟨h1,h3⟩:=band_of h
  obtain ⟨k,rfl,h4,h5⟩:=capQ_of h3
  refine ⟨fun _=>splitN_c s c k (capS_of h1) h4 (by omega),fun ht=>by cases ht⟩
 ·cases h2
end Go.Proofs.YtcggnmddcbhchaaGreatDoor
