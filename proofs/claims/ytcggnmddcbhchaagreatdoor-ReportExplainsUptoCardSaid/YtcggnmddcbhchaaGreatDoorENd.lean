import Derived.Lib.ItoaNum
import Derived.Lib.Repeat
import Derived.Lib.LaidTab
import Derived.Below
import Derived.Test.YtcggnmddcbhchaaGreatDoorENc
import Derived.Lib.AppendIntMem
import Derived.Lib.ItoaMem
import Derived.Lib.Walk
import Derived.BigCall
import Derived.BigGuard
import Derived.Test.YtcggnmddcbhchaaGreatDoorENa
import Derived.WalkKit
import Derived.Laws.OwnMore
import Derived.Deep.AppendLies
import Derived.Laws.Concat
import Derived.BigQuiet
import Derived.Deep.QuietTactic
/- Text Nd. -/
set_option linter.unusedSimpArgs false
set_option linter.unusedVariables false
namespace Go.Proofs.YtcggnmddcbhchaaGreatDoor
open Go.RowKit
def padD:Nat→Nat→List UInt8
 | 0,_=>[]
 | k+1,g=>padD k (g / 10) ++ [UInt8.ofNat (48+g % 10)]
theorem padD_length (k g:Nat):(padD k g).length=k:=by
 induction k generalizing g with
 | zero=>rfl
 | succ k ih=>simp [padD,ih]
theorem dec_big {u:Nat} (h:¬u<10):Lib.decDigits u=Lib.decDigits (u / 10) ++ [UInt8.ofNat (48+u % 10)]:=by rw [Lib.decDigits,dif_neg h]
theorem dec_join (k q g:Nat) (hq:0<q) (hg:g<10 ^ k):Lib.decDigits (q*10 ^ k+g)=Lib.decDigits q ++ padD k g:=by
 induction k generalizing g with
 | zero =>
  have:g=0:=by omega
  subst this
  simp [padD]
 | succ k ih =>
  have hp:0<10 ^ k:=Nat.pow_pos (by omega)
  have hbig:¬q*10 ^ (k+1)+g<10:=by
   have h1:1*1≤q*10 ^ k:=Nat.mul_le_mul hq hp
   rw [Nat.pow_succ,←Nat.mul_assoc]
   omega
  rw [dec_big hbig]
  have e1:(q*10 ^ (k+1)+g) / 10=q*10 ^ k+g / 10:=by
   rw [Nat.pow_succ,←Nat.mul_assoc];omega
  have e2:(q*10 ^ (k+1)+g) % 10=g % 10:=by
   rw [Nat.pow_succ,←Nat.mul_assoc];omega
  rw [e1,e2,ih (g / 10) (by rw [Nat.pow_succ]at hg;omega),padD,List.append_assoc]
theorem padD_zero (k:Nat):padD k 0=List.replicate k 48:=by
 induction k with
 | zero=>rfl
 | succ k ih=>rw [padD,ih,List.replicate_succ'];rfl
theorem padD_eq (k g:Nat) (hg:g<10 ^ (k+1)):padD (k+1) g=List.replicate (k+1-Lib.nDigits g) 48 ++ Lib.decDigits g:=by
 induction k generalizing g with
 | zero =>
  have h10:g<10:=by simpa using hg
  rw [Lib.nDigits_small h10,Lib.decDigits,dif_pos h10]
  have:g % 10=g:=Nat.mod_eq_of_lt h10
  simp [padD,this]
 | succ k ih =>
  by_cases h10:g<10
  ·rw [Lib.nDigits_small h10,Lib.decDigits,dif_pos h10,padD]
   have e:g / 10=0:=by omega
   have:g % 10=g:=Nat.mod_eq_of_lt h10
   rw [e,padD_zero,this]
   rfl
  ·have hd:g / 10<10 ^ (k+1):=by rw [Nat.pow_succ]at hg;omega
   rw [padD,ih _ hd,dec_big h10,Lib.nDigits_big h10,List.append_assoc]
   congr 2
   omega
theorem nDigits_le9 {g:Nat} (hg:g<1000000000):Lib.nDigits g≤9:=by
 rcases Nat.lt_or_ge g 10 with h|h
 ·rw [Lib.nDigits_small h];omega
 ·rcases Nat.lt_or_ge (Lib.nDigits g) 10 with h2|h2
  ·omega
  ·exfalso
   have key:∀k u,Lib.nDigits u=k+1→1≤k→10 ^ k≤u:=by
    intro k
    induction k with
    | zero=>intro u _ h;omega
    | succ k ih =>
     intro u hu _
     have hb:¬u<10:=fun hs=>by rw [Lib.nDigits_small hs]at hu;omega
     rw [Lib.nDigits_big hb]at hu
     rcases Nat.eq_zero_or_pos k with rfl|hk
     ·omega
     ·have:=ih (u / 10) (by omega) hk
      rw [Nat.pow_succ];omega
   have h3:=key (Lib.nDigits g-1) g (by omega) (by omega)
   have h4:10 ^ 9≤10 ^ (Lib.nDigits g-1):=Nat.pow_le_pow_right (by omega) (by omega)
   have:(10:Nat) ^ 9=1000000000:=by decide
   omega
theorem tab_keep {P:Program} {w w':World} {name:String} {k:IntKind} {zs:List Int} (h:Lib.TabIs P w name k zs) (hb:Below w.heap.size w w'):Lib.TabIs P w' name k zs:=by
 unfold Lib.TabIs World.var? at *
 cases hg:P.globalNamed name with
 | none=>simp [hg]at h
 | some g =>
  simp only [hg,Option.bind_some]at h ⊢
  have hlt:g<w.heap.size:=by
   rcases Nat.lt_or_ge g w.heap.size with h'|h'
   ·exact h'
   ·rw [Array.getElem?_eq_none h']at h;simp at h
  rw [hb.block g hlt]
  exact h
theorem tab_keepB {P:Program} {w w':World} {name:String} {k:IntKind} {zs:List Int} (h:Lib.TabIs P w name k zs) (hb:∀g,P.globalNamed name=some g→g<w.heap.size→w'.heap[g]? = w.heap[g]?):Lib.TabIs P w' name k zs:=by
 unfold Lib.TabIs World.var? at *
 cases hg:P.globalNamed name with
 | none=>simp [hg]at h
 | some g =>
  simp only [hg,Option.bind_some]at h ⊢
  have hlt:g<w.heap.size:=by
   rcases Nat.lt_or_ge g w.heap.size with h'|h'
   ·exact h'
   ·rw [Array.getElem?_eq_none h']at h;simp at h
  rw [hb g hg hlt]
  exact h
theorem tab_lt {P:Program} {w:World} {name:String} {k:IntKind} {zs:List Int} (h:Lib.TabIs P w name k zs) {g:Nat} (hg:P.globalNamed name=some g):g<w.heap.size:=by
 unfold Lib.TabIs World.var? at h
 simp only [hg,Option.bind_some]at h
 rcases Nat.lt_or_ge g w.heap.size with h'|h'
 ·exact h'
 ·rw [Array.getElem?_eq_none h']at h;simp at h
end Go.Proofs.YtcggnmddcbhchaaGreatDoor
namespace Go.Proofs.YtcggnmddcbhchaaGreatDoor
open Go.RowKit Lim Go.Sort
attribute [local go_sem ↓] Go.wp_at_zero Go.wp_at_succ
def Tab (w : World) : Prop := Lib.TabIs Tryz.prog w "internal/strconv.uint64pow10" .u64 Lib.pow10Tab
theorem Tab.keep {w w':World} (h:Tab w) (hb:Below w.heap.size w w'):Tab w':=tab_keep h hb
set_option maxHeartbeats 4000000 in
theorem fmtI_any (u:Nat) (hu64:u<18446744073709551616) (w:World) (htab:Tab w) :
  Calls Tryz.prog 176 #[.int .u64 (u:Int),.int .i64 10] w fun e w'=>e=.returned (.string ⟨(Lib.decDigits u).toArray⟩)∧Below w.heap.size w w':=by
 by_cases hs:u<100
 ·go_enter Tryz.func176,Tryz.ntmps176
  go_wp2_with fail
  refine (Tryz.internal_strconv_small u hs _).mono ?_
  rintro e w' ⟨rfl,rfl⟩
  go_wp2_with fail
  go_ret
  exact ⟨rfl,Below.refl _ _⟩
 ·have hu1:1≤u:=by omega
  have hnd20:Lib.nDigits u≤20:=by have:=Lib.numDigits_eq u hu1 hu64;split at this <;> omega
  have iu:(100:Int)≤(u:Int):=by omega
  have hal:Tryz.prog.arrayLen 208=24:=by simp [Program.arrayLen,Tryz.underlying208]
  have hsl:∀W,(Instr.sliceAt 208 (.pointer (some ⟨w.heap.size,0,none⟩)) none (some (.int .i64 (Lib.nDigits u:Int))) none).run Tryz.prog W=.ok (.slice (some ⟨w.heap.size,0,none⟩) (Lib.nDigits u) 24) W:=fun W=>by
   rw [run_sliceAt_array_h W 208 ⟨w.heap.size,0,none⟩ (by simp [Program.arrayLen,Program.elem,Tryz.underlying208]) .i64 (Lib.nDigits u:Int) (by omega) (by rw [hal];omega)]
   go_simp
  have hH0:=Lib.holds_zero0 w 208 (Lib.nDigits u) (by omega)
  have hfmt:=Tryz.internal_strconv_formatBase10 w.heap.size 0 24 u (Array.replicate (Lib.nDigits u) 0) (w.alloc (.cells Lib.zeros24 208)) hH0 (by rw [Array.size_replicate];exact Lib.lt_pow_nDigits u) hu64 (by rw [Array.size_replicate];omega)
  rw [Array.size_replicate]at hfmt
  have HH0:=Lib.hid hH0
  clear hH0 hal
  go_enter Tryz.func176,Tryz.ntmps176
  go_wp2_with fail
  refine (Tryz.internal_strconv_numDigits u hu1 hu64 _ (Lib.tabIs_alloc htab _)).mono ?_
  rintro e w' ⟨rfl,rfl⟩
  go_wp2_with fail
  refine hfmt.mono ?_
  rintro e w' ⟨rfl,k,v',dk,rfl,hF⟩
  have hcv:(convert 140 9 (.slice (some ⟨w.heap.size,0,none⟩) (Lib.nDigits u) 24)).run Tryz.prog ((putRow (fun (b:UInt8)=>Value.int .u8 (b.toNat:Int)) (w.alloc (.cells Lib.zeros24 208)) w.heap.size 0 dk).drewN k)=.ok (.string ⟨(Lib.decDigits u).toArray⟩) ((putRow (fun (b:UInt8)=>Value.int .u8 (b.toNat:Int)) (w.alloc (.cells Lib.zeros24 208)) w.heap.size 0 dk).drewN k):=by
   have h:=run_convert_bytes_back (P:=Tryz.prog) ((putRow (fun (b:UInt8)=>Value.int .u8 (b.toNat:Int)) (w.alloc (.cells Lib.zeros24 208)) w.heap.size 0 dk).drewN k) 140 9 5 ⟨w.heap.size,0,none⟩ 24 (Lib.decDigits u) Tryz.underlying140 Tryz.underlying5 Tryz.underlying9 (fun j hj=>by
    rw [Lib.row_is_numeral hF j hj,Lib.add_plain,World.cell?_drewN]
    exact cell?_putRow (fun (b:UInt8)=>Value.int .u8 (b.toNat:Int)) _ w.heap.size 0 _ dk HH0.out (by rw [hF.size,Array.size_replicate]) j (by rw [hF.size];rw [Lib.decDigits_length]at hj;exact hj))
   rw [Lib.decDigits_length]at h
   exact h
  obtain ⟨os,eo⟩:=Lib.fin_at w (.cells Lib.zeros24 208) dk k 0
  have hnx:Below w.heap.size w ((putRow (fun (b:UInt8)=>Value.int .u8 (b.toNat:Int)) (w.alloc (.cells Lib.zeros24 208)) w.heap.size 0 dk).drewN k):=by rw [eo];exact Lib.below_grow _ w (Nat.le_refl _) k os
  generalize (putRow (fun (b:UInt8)=>Value.int .u8 (b.toNat:Int)) (w.alloc (.cells Lib.zeros24 208)) w.heap.size 0 dk).drewN k=W2 at hcv hnx ⊢
  clear eo HH0 hfmt
  go_wp2_with fail
  go_ret
  exact ⟨rfl,hnx⟩
set_option maxHeartbeats 1000000 in
theorem fmt_any (u:Nat) (hu64:u<18446744073709551616) (w:World) (htab:Tab w) :
  Calls Tryz.prog 127 #[.int .u64 (u:Int),.int .i64 10] w fun e w'=>e=.returned (.string ⟨(Lib.decDigits u).toArray⟩)∧Below w.heap.size w w':=by
 go_enter Tryz.func127,Tryz.ntmps127
 go_wp2_with fail
 refine (fmtI_any u hu64 _ htab).mono ?_
 rintro e w' ⟨rfl,hb⟩
 go_wp2_with fail
 go_ret
 exact ⟨rfl,hb⟩
set_option maxHeartbeats 1000000 in
theorem app_any (B n u:Nat) (hu64:u<18446744073709551616) (sv:Value) (xs:List Value) (w:World) (htab:Tab w) (hown:w.ownsRow B 5 1 sv n xs) (hBw:B≤w.heap.size) (hlim:n+20≤140737488355328) :
  Calls Tryz.prog 126 #[sv,.int .u64 (u:Int),.int .i64 10] w fun e w'=>∃v',e=.returned v'∧w'.ownsRow B 5 1 v' (n+(Lib.decDigits u).length) (xs ++ Lib.byteCells (Lib.decDigits u))∧Below B w w':=by
 go_enter Tryz.func126,Tryz.ntmps126
 go_wp2_with fail
 by_cases hs:u<100
 ·refine (Tryz.internal_strconv_AppendUint_10_small B n u hs sv xs _ hown hBw hlim).mono ?_
  rintro e w' ⟨v',rfl,ho,hb,_⟩
  go_wp2_with fail
  go_ret
  exact ⟨v',rfl,ho,hb⟩
 ·refine (Tryz.internal_strconv_AppendUint_10_big B n u (by omega) hu64 sv xs _ hown hBw hlim htab).mono ?_
  rintro e w' ⟨v',rfl,ho,hb,_⟩
  go_wp2_with fail
  go_ret
  exact ⟨v',rfl,ho,hb⟩
end Go.Proofs.YtcggnmddcbhchaaGreatDoor
namespace Go.Proofs.YtcggnmddcbhchaaGreatDoor
open Go.RowKit Lim
set_option maxHeartbeats 1000000 in
theorem divLimb_at (A1:Option Addr) (c1 n1 d:Nat) (a:List Nat) (w:World) (h1:In w A1 c1 a n1) (hd:0<d) (hdb:d<4294967296) :
  Calls Tryz.prog 125 #[.slice A1 a.length c1,.int .u32 (d:Int)] w fun e w'=>∃c r,e=.returned (.tuple #[.slice (some ⟨w.heap.size,0,none⟩) (limbs (n1 / d)).length c,.int .u32 ((r:Nat):Int)])∧Hid (r=n1 % d)∧Out w' (some ⟨w.heap.size,0,none⟩) c (n1 / d)∧Below w.heap.size w w':=by
 have r1:=h1.rd
 have k1:=h1.lim
 have V1':=Lib.hid h1.val
 have hmk:=made a.length (by omega)
 go_enter Tryz.func125,Tryz.ntmps125
 go_wp2_with fail
 go_loopw [7,8] (fun r i wr=>∃k c:Nat,k≤a.length∧i=.int .i64 ((k:Int)-1)∧r=.int .u64 (c:Int)∧DlRel w wr w.heap.size k c d a) (fun _ i _=>(intOf i+1).toNat)
 case atStart =>
  exact ⟨a.length,0,by omega,rfl,rfl,[],by simp,dig_nil,by rw [List.append_nil];exact Blk.new w _,by simp [val],hd,(Below.refl _ _).alloc (Nat.le_refl _) _⟩
 case round =>
  obtain ⟨k,r,hk,rfl,rfl,hrel⟩:=hrel
  have hbe:Below w.heap.size w wr:=by obtain ⟨_,_,_,_,_,_,h⟩:=hrel;exact h
  have hrd:r<d:=by obtain ⟨_,_,_,_,_,h,_⟩:=hrel;exact h
  rcases Nat.eq_zero_or_pos k with h0|h0
  ·subst h0
   obtain ⟨hr,l,hin,hll,hbl⟩:=hrel.last (by omega)
   rw [V1'.out]at hin hr
   have hL:=Lib.hid hll;clear hll
   have hR:=Lib.hid hr;clear hr
   go_wp2_with fail
   have ht:=trim_raw _ _ _ _ _ hin _ rfl
   rw [hL.out]at ht
   refine ht.mono ?_
   clear ht
   rintro e w' ⟨rfl,rfl⟩
   go_wp2
   go_ret2
   exact ⟨_,r,rfl,hR,hin.trim,hbl⟩
  ·obtain ⟨j,rfl⟩:∃j,k=j+1:=⟨k-1,by omega⟩
   rw [show (((j+1:Nat):Int)-1)=(j:Int)from by omega]
   have ja:j<a.length:=by omega
   obtain ⟨b1,o1,rfl,hlt1,hcx⟩:=(r1.keep hbe).at_ ja
   obtain ⟨x,hx⟩:∃x,a[j]=x:=⟨_,rfl⟩
   rw [hx]at hcx
   have hX:=Lib.hid (getD_of ja hx)
   have hxb:x<4294967296:=by rw [←hx];exact dig_get r1.1 ja
   clear hx
   have hor:=or_shift r x hxb (by omega)
   obtain ⟨t,ht⟩:∃t,t=r*4294967296+x:=⟨_,rfl⟩
   rw [←ht]at hor
   obtain ⟨hoc,hof,htd,htb,hd0,hst⟩:=hrel.step ja (Nat.le_refl _) hdb hX.out hxb ht
   have hT:=Lib.hid ht;clear ht
   have hST:=Lib.hid hst;clear hst
   go_wp2
   go_roundw
   case rel=>exact ⟨j,t % d,by omega,rfl,vint (by rw [Int.natCast_emod]),hST.out _ (by rw [←Int.natCast_ediv,IntKind.wrap_u64];clear hST;generalize t / d=z at *;omega)⟩
   case measure=>simp [intOf]
end Go.Proofs.YtcggnmddcbhchaaGreatDoor
namespace Go.Proofs.YtcggnmddcbhchaaGreatDoor
open Go.RowKit Lim
attribute [local go_sem ↓] Go.wp_at_zero Go.wp_at_succ
theorem own_keep {w w':World} {base:Nat} {e:TypeId} {size:Nat} {v:Value} {n:Nat} {xs:List Value} (h:w.ownsRow base e size v n xs) (hb:Below w.heap.size w w'):w'.ownsRow base e size v n xs :=
 h.kept (row:=none) ⟨hb.os,hb.tape,hb.output,hb.size,fun k hk _=>hb.block k hk⟩ (by cases hv:v.ownBlock <;> simp)
theorem In.grown {w w':World} {A:Option Addr} {c n:Nat} {l:List Nat} {row:Option Nat} (h:In w A c l n) (hg:w.grownBy w' row) (hne:∀b off,A=some ⟨b,off,none⟩→some b≠row):In w' A c l n:=by
 refine ⟨⟨h.rd.1,fun hl=>?_⟩,h.cap,h.lim,h.val⟩
 obtain ⟨b,off,e,hlt,hc⟩:=h.rd.2 hl
 exact ⟨b,off,e,Nat.lt_of_lt_of_le hlt hg.size,fun j hj=>(hg.cell_far _ hlt (hne b off e)).trans (hc j hj)⟩
theorem pow_nDigits:∀k u,Lib.nDigits u=k+1→1≤k→10 ^ k≤u:=by
 intro k
 induction k with
 | zero=>intro u _ h;omega
 | succ k ih =>
  intro u hu _
  have hb:¬u<10:=fun hs=>by rw [Lib.nDigits_small hs]at hu;omega
  rw [Lib.nDigits_big hb]at hu
  rcases Nat.eq_zero_or_pos k with rfl|hk
  ·omega
  ·have:=ih (u / 10) (by omega) hk
   rw [Nat.pow_succ];omega
theorem nDigits_lt {u D:Nat} (h:u<10 ^ D):Lib.nDigits u≤D+1:=by
 rcases Nat.lt_or_ge (D+1) (Lib.nDigits u)with h1|h1
 ·have h2:=pow_nDigits (Lib.nDigits u-1) u (by omega) (by omega)
  have h3:10 ^ D≤10 ^ (Lib.nDigits u-1):=Nat.pow_le_pow_right (by omega) (by omega)
  omega
 ·exact h1
def gsL (n k:Nat):List Nat:=(List.range k).map fun i=>n / 1000000000 ^ i % 1000000000
theorem gsL_succ (n k:Nat):gsL n (k+1)=gsL n k ++ [n / 1000000000 ^ k % 1000000000]:=by simp [gsL,List.range_succ]
def gcells (n k:Nat):List Value:=(gsL n k).map fun g=>Value.int .u32 ((g:Nat):Int)
theorem gcells_succ (n k:Nat):gcells n (k+1)=gcells n k ++ [Value.int .u32 ((n / 1000000000 ^ k % 1000000000:Nat):Int)]:=by simp [gcells,gsL_succ]
theorem gcells_at (n k i:Nat) (h:i<k):(gcells n k)[i]? = some (.int .u32 ((n / 1000000000 ^ i % 1000000000:Nat):Int)):=by
 simp [gcells,gsL,h]
structure PrRel (w wr:World) (A:Option Addr) (c gk:Nat) (gv:Value) (k n:Nat):Prop where
 rest:In wr A c (limbs gk) gk
 own:wr.ownsRow w.heap.size 133 1 gv k (gcells n k)
 val:gk=n / 1000000000 ^ k
 top:k=0∨0<n / 1000000000 ^ (k-1)
 bel:Below w.heap.size w wr
structure PtRel (wr wx:World) (tv:Value) (j n:Nat):Prop where
 own:wx.ownsRow wr.heap.size 5 1 tv (Lib.decDigits (n / 1000000000 ^ j)).length (Lib.byteCells (Lib.decDigits (n / 1000000000 ^ j)))
 bel:Below wr.heap.size wr wx
structure PzRel (W1 wr:World) (tv:Value) (ds:List UInt8) (z:Nat):Prop where
 own:wr.ownsRow W1.heap.size 5 1 tv (ds.length+z) (Lib.byteCells (ds ++ List.replicate z 48))
 bel:Below W1.heap.size W1 wr
theorem PzRel.start {W1 W2 w8:World} {tv:Value} {j n:Nat} (h:PtRel W1 W2 tv j n) (b8:Below W2.heap.size W2 w8):PzRel W1 w8 tv (Lib.decDigits (n / 1000000000 ^ j)) 0 :=
 ⟨by rw [Nat.add_zero,List.replicate_zero,List.append_nil];exact own_keep h.own b8,below_step h.bel b8⟩
theorem PzRel.next {W1 wr w9:World} {tv v':Value} {ds:List UInt8} {z:Nat} {o:Obj} (own:wr.ownsRow W1.heap.size 5 1 tv (ds.length+z) (Lib.byteCells (ds ++ List.replicate z 48))) (bel:Below W1.heap.size W1 wr)
  (hown:w9.ownsRow W1.heap.size 5 1 v' (ds.length+z+1) (Lib.byteCells (ds ++ List.replicate z 48) ++ [.int .u8 48])) (hgrow:(wr.alloc o).grownBy w9 tv.ownBlock):PzRel W1 w9 v' ds (z+1):=by
 refine ⟨?_,(below_alloc bel o).grown hgrow (by have:=bel.size;simp;omega) (fun k hk=>(own.lt k hk).1)⟩
 rw [←Nat.add_assoc,List.replicate_succ',←List.append_assoc]
 have e:Lib.byteCells (ds ++ List.replicate z 48 ++ [48])=Lib.byteCells (ds ++ List.replicate z 48) ++ [.int .u8 48]:=by simp [Lib.byteCells]
 rw [e]
 exact hown
theorem PtRel.next {W1 wr w9:World} {tv v':Value} {ds:List UInt8} {n q d nd:Nat} {sb:ByteArray} (hnd:Lib.nDigits d≤9) (hdG:d<1000000000) (hd:n / 1000000000 ^ q % 1000000000=d) (hds:Lib.decDigits (n / 1000000000 ^ (q+1))=ds) (hn:Lib.nDigits d=nd) (hs:Lib.strCells sb=Lib.byteCells (Lib.decDigits d)) (hss:sb.size=nd)
  (own:wr.ownsRow W1.heap.size 5 1 tv (ds.length+(9-nd)) (Lib.byteCells (ds ++ List.replicate (9-nd) 48))) (bel:Below W1.heap.size W1 wr)
  (hown:w9.ownsRow W1.heap.size 5 1 v' (ds.length+(9-nd)+sb.size) (Lib.byteCells (ds ++ List.replicate (9-nd) 48) ++ Lib.strCells sb)) (hgrow:wr.grownBy w9 tv.ownBlock) (hpos:0<n / 1000000000 ^ (q+1)):PtRel W1 w9 v' q n:=by
 have e1:n / 1000000000 ^ q=n / 1000000000 ^ (q+1)*10 ^ 9+d:=by
  rw [Nat.pow_succ,←Nat.div_div_eq_div_mul,←hd]
  omega
 have e2:Lib.decDigits (n / 1000000000 ^ q)=ds ++ List.replicate (9-nd) 48 ++ Lib.decDigits d:=by
  rw [e1,dec_join 9 _ d hpos hdG,hds,padD_eq 8 d hdG,hn,List.append_assoc]
 have e3:Lib.byteCells (Lib.decDigits (n / 1000000000 ^ q))=Lib.byteCells (ds ++ List.replicate (9-nd) 48) ++ Lib.strCells sb:=by
  rw [e2,hs];simp [Lib.byteCells]
 have e4:(Lib.decDigits (n / 1000000000 ^ q)).length=ds.length+(9-nd)+sb.size:=by
  rw [e2,List.length_append,List.length_append,List.length_replicate,Lib.decDigits_length,hn,hss]
 refine ⟨by rw [e3,e4];exact hown,bel.grown hgrow bel.size (fun k hk=>(own.lt k hk).1)⟩
theorem pow9 (k:Nat):1000000000 ^ k=10 ^ (9*k):=by rw [Nat.pow_mul]
theorem groups_le {n k D:Nat} (h:k=0∨0<n / 1000000000 ^ (k-1)) (hn:n<10 ^ D):k≤D+1:=by
 rcases h with h|h
 ·omega
 ·have h1:1000000000 ^ (k-1)≤n:=by
   rcases Nat.lt_or_ge n (1000000000 ^ (k-1))with h2|h2
   ·rw [Nat.div_eq_of_lt h2]at h;omega
   ·exact h2
  rw [pow9]at h1
  have h3:10 ^ (9*(k-1))<10 ^ D:=Nat.lt_of_le_of_lt h1 hn
  have:=(Nat.pow_lt_pow_iff_right (by omega)).1 h3
  omega
theorem PrRel.next {w wr w5 w6:World} {gk k n r5 c5:Nat} {gv v':Value} {o:Obj} (hz:¬gk=0) (hl:nlen n<1099511627776) (own:wr.ownsRow w.heap.size 133 1 gv k (gcells n k)) (val:gk=n / 1000000000 ^ k) (bel:Below w.heap.size w wr) (hr5:r5=gk % 1000000000) (o5:Out w5 (some ⟨wr.heap.size,0,none⟩) c5 (gk / 1000000000)) (b5:Below wr.heap.size wr w5)
  (hown:w6.ownsRow w.heap.size 133 1 v' (k+1) (gcells n k ++ [.int .u32 (r5:Int)])) (hgrow:(w5.alloc o).grownBy w6 gv.ownBlock):PrRel w w6 (some ⟨wr.heap.size,0,none⟩) c5 (gk / 1000000000) v' (k+1) n:=by
 have hnl:nlen (gk / 1000000000)<1099511627776:=by
  have h1:=nlen_mono (Nat.div_le_self gk 1000000000)
  have h2:=nlen_mono (show gk≤n by rw [val];exact Nat.div_le_self _ _)
  omega
 have hlt:∀j,gv.ownBlock=some j→w.heap.size≤j∧j<wr.heap.size:=own.lt
 refine ⟨(((o5.alloc o).toIn hnl)).grown hgrow ?_,?_,?_,Or.inr ?_,?_⟩
 ·intro b off e
  injection e with e
  injection e with e1 e2
  intro hc
  have:=(hlt b hc.symm).2
  omega
 ·rw [gcells_succ,←val,←hr5];exact hown
 ·rw [val,Nat.div_div_eq_div_mul,Nat.pow_succ]
 ·rw [Nat.add_sub_cancel,←val];omega
 ·have h1:=below_alloc (below_step bel b5) o
  refine h1.grown hgrow ?_ (fun j hj=>(hlt j hj).1)
  have:=bel.size
  have:=b5.size
  simp
  omega
theorem lt_pow_nlen (n:Nat):n<10 ^ (10*nlen n):=by
 have h:=lt_nlen n
 have h2:pw (nlen n)≤10 ^ (10*nlen n):=by
  rw [Nat.pow_mul]
  unfold pw
  first
   | exact Nat.pow_le_pow_left (by omega) _
 omega
set_option maxHeartbeats 4000000 in
set_option maxRecDepth 100000 in
theorem nprint_any (A:Option Addr) (c n:Nat) (l:List Nat) (w:World) (h:In w A c l n) (htab:Tab w) (hl:nlen n<1099511627776) :
  Calls Tryz.prog 57 #[.slice A l.length c] w fun e w'=>e=.returned (.string ⟨(Lib.decDigits n).toArray⟩)∧Below w.heap.size w w':=by
 obtain ⟨i0,hi,hz0,hz1,hz2⟩:=info_parts (show (Tryz.prog.info? 133).map (fun i=>(i.zero,i.size,i.bytes))=some (some (.int .u32 0),1,4)by kernel_rfl)
 have hn10:=lt_pow_nlen n
 obtain ⟨a,ha⟩:∃a,limbs n=a:=⟨_,rfl⟩
 have HA:=Lib.hid ha
 go_enter Tryz.func57,Tryz.ntmps57
 go_wp2_with fail
 refine (trim_in _ _ _ _ _ h a ha).mono ?_
 clear ha
 rintro e w' ⟨rfl,rfl⟩
 by_cases h0:n=0
 ·have hz:a.length=0:=by rw [←HA.out,h0,limbs_zero];rfl
  have hzi:(a.length:Int)=0:=by omega
  go_wp2_with fail
  go_ret
  rw [h0,Lib.decDigits_one (by omega)]
  exact ⟨rfl,Below.refl _ _⟩
 ·have hp:0<a.length:=by rw [←HA.out];exact slen_pos n (by omega)
  have hpi:(0:Int)<(a.length:Int):=by omega
  go_wp2_with fail
  rw [←HA.out]
  go_loopg [3,4] n (fun gk s3 gv wr=>∃(A:Option Addr) (c k:Nat),s3=.slice A (limbs gk).length c∧PrRel w wr A c gk gv k n)
  case atStart=>exact ⟨A,c,0,rfl,h.toRaw.trim.toIn hl,World.ownsRow_nil _ _ _ _,by simp,Or.inl rfl,Below.refl _ _⟩
  case round =>
   obtain ⟨A,c,k,rfl,hr⟩:=hrel
   by_cases hz:gk=0
   ·generalize wr=W1 at *
    have hzl:¬0<(limbs gk).length:=by rw [hz,limbs_zero];simp
    have hzi:¬(0:Int)<((limbs gk).length:Int):=by omega
    have hkl:=groups_le hr.top hn10
    obtain ⟨m,rfl⟩:∃m,k=m+1:=by
     rcases Nat.eq_zero_or_pos k with hk|hk
     ·have:=hr.val
      rw [hk,Nat.pow_zero,Nat.div_one]at this
      omega
     ·exact ⟨k-1,by omega⟩
    obtain ⟨g,cap,rfl,hg1,hg2⟩:=hr.own.form (by omega)
    obtain ⟨t,ht⟩:∃t,n / 1000000000 ^ m=t:=⟨_,rfl⟩
    have htp:0<t:=by
     rcases hr.top with h|h
     ·omega
     ·rw [Nat.add_sub_cancel,ht]at h;exact h
    have htG:t<1000000000:=by
     have:=hr.val
     rw [hz,Nat.pow_succ,←Nat.div_div_eq_div_mul,ht]at this
     omega
    have hcg:∀i,i<m+1→W1.cell? ⟨g,i,none⟩=some (.int .u32 ((n / 1000000000 ^ i % 1000000000:Nat):Int)):=fun i hi=>(hr.own.cellAt i (by omega)).trans (gcells_at n _ i hi)
    have hct:=hcg m (by omega)
    rw [ht,Nat.mod_eq_of_lt htG]at hct
    have HCG:=Lib.hid hcg
    have HT:=Lib.hid ht
    have BEL:=Lib.hid hr.bel
    have hTab:=htab.keep hr.bel
    clear hcg ht hr HA hp hpi h0 h
    obtain ⟨K,hK⟩:∃K,K=m+1:=⟨_,rfl⟩
    rw [←hK]at hkl ⊢
    have hK1:(K:Int)-1=(m:Int):=by omega
    have hK2:(K:Int)-2=(m:Int)-1:=by omega
    have hmK:m<K:=by omega
    have HK:=Lib.hid hK;clear hK
    have HZ:=Lib.hid hz;clear hz
    have AP:=Lib.hid (app_any W1.heap.size 0 t (by omega) (.slice none 0 0) [] W1 hTab (World.ownsRow_nil _ _ _ _) (Nat.le_refl _) (by omega))
    have htI:(t:Int)≤18446744073709551615:=by omega
    go_wp2_with fail
    with_reducible refine AP.out.mono ?_
    rintro e w7 ⟨v7,rfl,o7,b7⟩
    simp only [Nat.zero_add,List.nil_append]at o7
    clear hct AP hK1
    go_wp2_with fail
    obtain ⟨i1,hy,hy0,hy1,hy2⟩:=info_parts (show (Tryz.prog.info? 5).map (fun i=>(i.zero,i.size,i.bytes))=some (some (.int .u8 0),1,1)by kernel_rfl)
    go_loopw [6,7] (fun tv i wx=>∃j,j≤m∧i=.int .i64 ((j:Int)-1)∧PtRel W1 wx tv j n) (fun _ i _=>(intOf i+1).toNat)
    case atStart=>exact ⟨m,Nat.le_refl _,rfl,by rw [HT.out];exact o7,b7⟩
    case round =>
     obtain ⟨j,hj,rfl,hpt⟩:=hrel
     rcases Nat.eq_zero_or_pos j with hj0|hj0
     ·subst hj0
      have hown:=hpt.own
      have hbx:=hpt.bel
      rw [Nat.pow_zero,Nat.div_one]at hown
      obtain ⟨g2,cap2,rfl,_,_⟩:=hown.form (by rw [Lib.decDigits_length];have:=Lib.nDigits_pos n;omega)
      have hcv:=run_convert_bytes_back (P:=Tryz.prog) wr 140 9 5 ⟨g2,0,none⟩ cap2 (Lib.decDigits n) Tryz.underlying140 Tryz.underlying5 Tryz.underlying9 (fun j hj=>hown.cells rfl j (.int .u8 ((Lib.decDigits n)[j].toNat:Int)) (by simp [Lib.byteCells,hj]))
      have BF:=Lib.hid (below_step BEL.out hbx)
      clear hown hbx hpt
      go_wp2_with fail
      go_ret
      exact ⟨rfl,BF.out⟩
     ·obtain ⟨q,rfl⟩:∃q,j=q+1:=⟨j-1,by omega⟩
      rw [show (((q+1:Nat):Int)-1)=(q:Int)from by omega]
      generalize wr=W2 at *
      obtain ⟨d,hd⟩:∃d,n / 1000000000 ^ q % 1000000000=d:=⟨_,rfl⟩
      have hdG:d<1000000000:=by rw [←hd];exact Nat.mod_lt _ (by omega)
      have hcell:W2.cell? ⟨g,q,none⟩=some (.int .u32 (d:Int)):=by
       have:=HCG.out q (by omega)
       rw [hd]at this
       exact (hpt.bel.cell (p:=⟨g,q,none⟩) hg2).trans this
      have hdI:(d:Int)≤18446744073709551615:=by omega
      have hqK:q<K:=by omega
      obtain ⟨sb,hsb⟩:∃sb:ByteArray,sb=⟨(Lib.decDigits d).toArray⟩:=⟨_,rfl⟩
      have hss:sb.size=Lib.nDigits d:=by rw [hsb,←Lib.decDigits_length];simp [ByteArray.size]
      have hsc:Lib.strCells sb=Lib.byteCells (Lib.decDigits d):=by rw [hsb];rfl
      have FM:=fmt_any d (by omega) W2 (hTab.keep hpt.bel)
      rw [←hsb]at FM
      have FM2:=Lib.hid FM
      have nd9:=nDigits_le9 hdG
      have nd1:=Lib.nDigits_pos d
      obtain ⟨nd,hnd⟩:∃nd,Lib.nDigits d=nd:=⟨_,rfl⟩
      have HD:=Lib.hid hd
      have HS:=Lib.hid hsc
      have HN:=Lib.hid hnd
      rw [hnd]at hss nd9 nd1
      have PT:=Lib.hid hpt
      clear hd hsb hsc hnd FM hpt
      have hssI:(sb.size:Int)=(nd:Int):=by omega
      go_wp2_with fail
      with_reducible refine FM2.out.mono ?_
      rintro e w8 ⟨rfl,b8⟩
      go_wp2_with fail
      have hL:(Lib.decDigits (n / 1000000000 ^ (q+1))).length≤10*nlen n+1:=by
       rw [Lib.decDigits_length]
       exact nDigits_lt (Nat.lt_of_le_of_lt (Nat.div_le_self _ _) hn10)
      obtain ⟨ds,hds⟩:∃ds,Lib.decDigits (n / 1000000000 ^ (q+1))=ds:=⟨_,rfl⟩
      have HDS:=Lib.hid hds
      have PZ0:PzRel W1 w8 u6 ds 0:=by rw [←hds];exact PzRel.start PT.out b8
      rw [hds]at hL
      clear hds
      go_loopw [6,9] (fun tv s9 wr=>∃p,nd≤p∧p≤9∧s9=.int .i64 (p:Int)∧PzRel W1 wr tv ds (p-nd)) (fun _ s9 _=>(9-intOf s9).toNat)
      case atStart=>exact ⟨nd,Nat.le_refl _,nd9,rfl,by rw [Nat.sub_self];exact PZ0⟩
      case round =>
       obtain ⟨p,hp1,hp9,rfl,hpz⟩:=hrel
       have OWN:=Lib.hid hpz.own
       have BZ:=Lib.hid hpz.bel
       have hsz:=hpz.bel.size
       clear hpz PZ0
       by_cases hlt:p<9
       ·have hpI:(p:Int)<9:=by omega
        go_wp2_with (at_builtin;refine wpList_append_own _ rfl _ _ 140 rfl W1.heap.size 5 i1 (.int .u8 0) 1 1 Tryz.underlying140 hy hy0 hy1 hy2 rfl (by decide) _ _ _ rfl (OWN.out.alloc _) ⟨wr.heap.size,0,none⟩ 1 1 [.int .u8 48] rfl rfl ?c1 ?c2 ?c3 ?c4 ?c5 ?_)
        case c1 =>
         intro j u hj
         match j,hj with
         | 0,hj=>simp at hj;subst hj;simp [Addr.add]
        case c2=>intro u hu;simp at hu;subst hu;rfl
        case c3=>unfold maxLen;omega
        case c4=>omega
        case c5=>simp;omega
        intro v' w9 hown9 hgrow _
        go_wp2
        go_roundw
        case rel=>exact ⟨p+1,by omega,by omega,by simp,by rw [show p+1-nd=p-nd+1 by omega];exact PzRel.next OWN.out BZ.out hown9 hgrow⟩
        case measure=>simp [intOf];omega
       ·have hp:p=9:=by omega
        subst hp
        go_wp2_with (at_builtin;refine Lib.wpList_append_own_string _ rfl _ _ 140 9 rfl W1.heap.size 5 i1 Tryz.underlying140 Tryz.underlying9 hy hy0 hy1 hy2 _ _ _ rfl OWN.out sb rfl (by unfold maxLen;omega) (by omega) hsz ?_)
        intro v' w9 hown9 hgrow _
        go_wp2
        go_roundw
        case rel =>
         refine ⟨q,by omega,rfl,PtRel.next (by rw [HN.out];omega) hdG HD.out HDS.out HN.out HS.out hss OWN.out BZ.out (by rw [hss];exact hown9) hgrow ?_⟩
         have h1:n / 1000000000 ^ m≤n / 1000000000 ^ (q+1):=Nat.div_le_div_left (Nat.pow_le_pow_right (by omega) hj) (Nat.pow_pos (by omega))
         rw [HT.out]at h1
         omega
        case measure=>simp [intOf]
   ·have hp2:=slen_pos gk (by omega)
    have hkl:=groups_le hr.top hn10
    have VV:=Lib.hid hr.val
    have DL:Hid (Calls Tryz.prog 125 #[.slice A (limbs gk).length c,.int .u32 1000000000] wr fun e w'=>∃c r,e=.returned (.tuple #[.slice (some ⟨wr.heap.size,0,none⟩) (limbs (gk / 1000000000)).length c,.int .u32 ((r:Nat):Int)])∧Hid (r=gk % 1000000000)∧Out w' (some ⟨wr.heap.size,0,none⟩) c (gk / 1000000000)∧Below wr.heap.size wr w'):=Lib.hid (divLimb_at A c gk 1000000000 _ wr hr.rest (by omega) (by omega))
    have hwr:=hr.bel.size
    have OWN:=Lib.hid hr.own
    have BEL:=Lib.hid hr.bel
    clear hr HA hp hpi
    go_wp2_with (first
     | (go_at_call 125;(with_reducible refine DL.out.mono ?_);rintro e w5 ⟨c5,r5,rfl,hr5,o5,b5⟩;have z5:=b5.size)
     | (at_builtin;refine wpList_append_own _ rfl _ _ 22 rfl w.heap.size 133 i0 (.int .u32 0) 1 4 Tryz.underlying22 hi hz0 hz1 hz2 rfl (by decide) _ _ _ rfl ((own_keep OWN.out b5).alloc _) ⟨w5.heap.size,0,none⟩ 1 1 [.int .u32 (r5:Int)] rfl rfl ?c1 ?c2 ?c3 ?c4 ?c5 ?_))
    case c1 =>
     intro j u hj
     match j,hj with
     | 0,hj=>simp at hj;subst hj;simp [Addr.add]
    case c2=>intro u hu;simp at hu;subst hu;rfl
    case c3=>unfold maxLen;omega
    case c4=>omega
    case c5=>simp;omega
    intro v' w6 hown6 hgrow _
    go_wp2
    go_roundg (gk / 1000000000)
    case measure=>exact Nat.div_lt_self (by omega) (by omega)
    case rel=>exact ⟨_,c5,k+1,rfl,PrRel.next hz hl OWN.out VV.out BEL.out hr5.out o5 b5 hown6 hgrow⟩
end Go.Proofs.YtcggnmddcbhchaaGreatDoor
namespace Go.Proofs.YtcggnmddcbhchaaGreatDoor
open Go.RowKit Lim
attribute [local go_sem ↓] Go.wp_at_zero Go.wp_at_succ
def bs (l:List UInt8):ByteArray:=⟨l.toArray⟩
theorem bs_size (l:List UInt8):(bs l).size=l.length:=by simp [bs,ByteArray.size]
theorem bs_app (a b:List UInt8):bs a ++ bs b=bs (a ++ b):=by
 apply ByteArray.ext
 rw [ByteArray.data_append]
 simp [bs]
theorem bs_take (l:List UInt8) (k:Nat):(bs l).extract 0 k=bs (l.take k):=by
 apply ByteArray.ext
 rw [ByteArray.data_extract]
 simp [bs]
theorem bs_drop (l:List UInt8) (k:Nat):(bs l).extract k (bs l).size=bs (l.drop k):=by
 apply ByteArray.ext
 rw [ByteArray.data_extract,bs_size]
 simp [bs]
 rw [List.take_of_length_le (by simp)]
theorem run_cat (W:World) (a b c:List UInt8) (hc:a ++ b=c) (h:c.length≤9223372036854775807):(Op.stringOp .add (bs a) (bs b)).run Tryz.prog W=.ok (.string (bs c)) W:=by
 subst hc
 rw [run_string_add_sum _ _ _ (by rw [bs_size,bs_size,←List.length_append];exact h),bs_app]
theorem dec_len {n:Nat} (hl:nlen n<1099511627776):(Lib.decDigits n).length≤10995116277761:=by
 rw [Lib.decDigits_length]
 have:=nDigits_lt (lt_pow_nlen n)
 omega
set_option maxHeartbeats 1000000 in
set_option maxRecDepth 100000 in
theorem iprint_any (t:Bool) (A:Option Addr) (c:Nat) (l:List Nat) (z:Int) (w:World) (h:InI w t A c l z) (htab:Tab w) :
  Calls Tryz.prog 60 #[.agg #[.bool t,.slice A l.length c]] w fun e w'=>e=.returned (.string (bs (Lib.itoa z)))∧Below w.heap.size w w':=by
 have hbel:Below w.heap.size w (w.alloc (.cells #[.bool t,.slice A l.length c] 25)):=(Below.refl _ _).alloc (Nat.le_refl _) _
 have hb:=Box.new w #[.bool t,.slice A l.length c] 25
 have h':=h.keep hbel
 have hnl:nlen z.natAbs<1099511627776:=h.mag.nlen
 have hdl:=dec_len hnl
 have HI:Hid (Lib.itoa z=if z<0 then 45 :: Lib.decDigits z.natAbs else Lib.decDigits z.natAbs):=Lib.hid (by
  unfold Lib.itoa
  split
  ·rfl
  ·rw [show z.toNat=z.natAbs by omega])
 go_enter Tryz.func60,Tryz.ntmps60
 go_wp2_with fail
 refine (sign_any _ _ _ _ _ _ h').mono ?_
 rintro e w1 ⟨rfl,b1⟩
 have hb1:=hb.keep b1
 have e1:=hb1.i1
 have q1:=below_step hbel b1
 have PR:=Lib.hid (nprint_any A c z.natAbs l w1 (h'.mag.keep b1) (htab.keep q1) hnl)
 clear h' hb b1 hbel
 by_cases hz:z<0
 ·have hs:sgnI z<0:=by unfold sgnI;rw [if_pos hz];omega
  have hcat:=fun W=>run_cat W [45] (Lib.decDigits z.natAbs) _ rfl (by simp;omega)
  have hi:=HI.out
  rw [if_pos hz]at hi
  have HI2:=Lib.hid hi;clear hi
  generalize sgnI z=sv at *
  go_wp2_with fail
  with_reducible refine PR.out.mono ?_
  rintro e w2 ⟨rfl,b2⟩
  have hcat2:=hcat w2
  clear hcat
  simp only [bs]at hcat2
  go_wp2_with fail
  go_ret
  rw [HI2.out]
  exact ⟨rfl,below_step q1 b2⟩
 ·have hs:¬sgnI z<0:=by unfold sgnI;rw [if_neg hz];split <;> omega
  have hi:=HI.out
  rw [if_neg hz]at hi
  have HI2:=Lib.hid hi;clear hi
  generalize sgnI z=sv at *
  go_wp2_with fail
  with_reducible refine PR.out.mono ?_
  rintro e w2 ⟨rfl,b2⟩
  go_wp2_with fail
  go_ret
  rw [HI2.out]
  exact ⟨rfl,below_step q1 b2⟩
def decT1 (n p:Nat):List UInt8:=if (Lib.decDigits n).length≤p then List.replicate (p+1-(Lib.decDigits n).length) 48 ++ Lib.decDigits n else Lib.decDigits n
def decT2 (n p:Nat):List UInt8:=if 0<p then (decT1 n p).take ((decT1 n p).length-p) ++ [46] ++ (decT1 n p).drop ((decT1 n p).length-p) else decT1 n p
def decTx (z:Int) (p:Nat):List UInt8:=if z<0 then 45 :: decT2 z.natAbs p else decT2 z.natAbs p
theorem decT1_len (n p:Nat):p<(decT1 n p).length∧(decT1 n p).length≤(Lib.decDigits n).length+p+1:=by
 unfold decT1
 split
 ·rw [List.length_append,List.length_replicate];omega
 ·omega
theorem repeat_zero (k:Nat):Lib.repeatL [48] k=List.replicate k 48:=by
 induction k with
 | zero=>rfl
 | succ k ih=>rw [Lib.repeatL,ih,List.replicate_succ];rfl
structure SliceFacts (T:List UInt8) (p:Nat) (sT:ByteArray) (L:Nat) (sa sb sc s2:ByteArray):Prop where
 a:∀W,(Instr.slice 9 (.string sT) none (some (.int .i64 ((L:Int)-(p:Int)))) none).run Tryz.prog W=.ok (.string sa) W
 b:∀W,(Op.stringOp .add sa ⟨#[46]⟩).run Tryz.prog W=.ok (.string sb) W
 c:∀W,(Instr.slice 9 (.string sT) (some (.int .i64 ((L:Int)-(p:Int)))) none none).run Tryz.prog W=.ok (.string sc) W
 d:∀W,(Op.stringOp .add sb sc).run Tryz.prog W=.ok (.string s2) W
 e:s2=bs (T.take (T.length-p) ++ [46] ++ T.drop (T.length-p))
theorem SliceFacts.mk' (T:List UInt8) (p:Nat) (sT:ByteArray) (hsT:bs T=sT) (L:Nat) (hL:T.length=L) (hp:p<L) (hb:L<9223372036854775800):∃sa sb sc s2,SliceFacts T p sT L sa sb sc s2:=by
 subst hsT
 have e0:((L:Int)-(p:Int)).toNat=L-p:=by omega
 have hs:((bs T).size:Int)=(L:Int):=by rw [bs_size,hL]
 refine ⟨_,_,_,_,fun W=>?_,fun W=>run_cat W (T.take (L-p)) [46] _ rfl ?_,fun W=>?_,fun W=>run_cat W _ (T.drop (L-p)) _ rfl ?_,by rw [hL]⟩
 ·rw [run_slice_string_h (P:=Tryz.prog) (ht:=Tryz.underlying9) (h0:=by omega) (h2:=by omega),e0,bs_take]
 ·rw [List.length_append,List.length_take];simp;omega
 ·rw [run_slice_string_l (P:=Tryz.prog) (ht:=Tryz.underlying9) (h0:=by omega) (h1:=by omega),e0,bs_drop]
 ·rw [List.length_append,List.length_append,List.length_take,List.length_drop];simp;omega
set_option maxHeartbeats 2000000 in
set_option maxRecDepth 100000 in
theorem dprint_any (t:Bool) (A:Option Addr) (c p:Nat) (l:List Nat) (z:Int) (w:World) (h:InI w t A c l z) (hp:p≤9) (htab:Tab w) :
  Calls Tryz.prog 99 #[.agg #[.bool t,.slice A l.length c,.int .i64 (p:Int)]] w fun e w'=>e=.returned (.tuple #[.string (bs (decTx z p)),.int .i64 0])∧Below w.heap.size w w':=by
 have hbel:Below w.heap.size w (w.alloc (.cells #[.bool t,.slice A l.length c,.int .i64 (p:Int)] 87)):=(Below.refl _ _).alloc (Nat.le_refl _) _
 have hb:=Box.new w #[.bool t,.slice A l.length c,.int .i64 (p:Int)] 87
 have h':=h.keep hbel
 have hnl:nlen z.natAbs<1099511627776:=h.mag.nlen
 have hdl:=dec_len hnl
 go_enter Tryz.func99,Tryz.ntmps99
 go_wp2_with fail
 refine (validPlaces_yes _ (by omega) (by omega) _).mono ?_
 rintro e w' ⟨rfl,rfl⟩
 go_wp2_with fail
 with_reducible refine (nprint_any A c z.natAbs l _ h'.mag (htab.keep hbel) hnl).mono ?_
 rintro e w2 ⟨rfl,b2⟩
 have hb2:=hb.keep b2
 have h2:=h'.keep b2
 have q2:=below_step hbel b2
 clear hb h' hbel b2
 have e0:=hb2.c0
 have e1:=hb2.c1
 have e2:=hb2.c2
 obtain ⟨d0,hd0⟩:∃d0,Lib.decDigits z.natAbs=d0:=⟨_,rfl⟩
 have HD0:=Lib.hid hd0
 rw [hd0]at hdl
 rw [show (⟨(Lib.decDigits z.natAbs).toArray⟩:ByteArray)=bs d0 by rw [hd0];rfl]
 clear hd0
 obtain ⟨T,hT⟩:∃T,decT1 z.natAbs p=T:=⟨_,rfl⟩
 have hTl:=decT1_len z.natAbs p
 rw [hT,HD0.out]at hTl
 obtain ⟨sT,hsT⟩:∃sT,bs T=sT:=⟨_,rfl⟩
 obtain ⟨L,hL⟩:∃L,T.length=L:=⟨_,rfl⟩
 have hsz:sT.size=L:=by rw [←hsT,bs_size,hL]
 rw [hL]at hTl
 have hszI:(sT.size:Int)=(L:Int):=by omega
 have SL:=SliceFacts.mk' T p sT hsT L hL hTl.1 (by omega)
 have HT:=Lib.hid hT
 have HS:=Lib.hid hsT
 have d0s:(bs d0).size=d0.length:=bs_size d0
 obtain ⟨sa,sb,sc,s2,sl⟩:=SL
 clear hT hsT
 by_cases hlen:d0.length≤p
 ·have hlenI:(d0.length:Int)≤(p:Int):=by omega
  obtain ⟨k,hk⟩:∃k,p+1-d0.length=k:=⟨_,rfl⟩
  have hkI:(p:Int)+1-(d0.length:Int)=(k:Int):=by omega
  have hcat:=fun W=>run_cat W (List.replicate k 48) d0 T (by rw [←HT.out];unfold decT1;rw [HD0.out,if_pos hlen,hk]) (by omega)
  rw [HS.out]at hcat
  have RP:=Lib.hid (Tryz.strings_Repeat ⟨#[48]⟩ k w2 (by omega) (by show 1*k≤_;omega))
  go_wp2_with fail
  with_reducible refine RP.out.mono ?_
  rintro e X ⟨rfl,b3⟩
  rw [show (⟨(Lib.repeatL [48] k).toArray⟩:ByteArray)=bs (List.replicate k 48)by rw [repeat_zero];rfl]
  have Xb:=hb2.keep b3
  have Xj:=h2.keep b3
  have Xq:=below_step q2 b3
  have x0:=Xb.c0
  have x1':=Xb.c1
  have x2':=Xb.c2
  clear hb2 h2 q2 e0 e1 e2 RP b3
  by_cases hp0:0<p
  ·have hp0I:(0:Int)<(p:Int):=by omega
   have x1:=sl.a
   have x2:=sl.b
   have x3:=sl.c
   have x4:=sl.d
   have hLI:(p:Int)<(L:Int):=by omega
   have SE:=Lib.hid sl.e
   clear sl
   go_upto_region 7 with fail
   go_quiet (fail)
   clear x1 x2 x3 x4
   have bq:Below X.heap.size X (X.drewN nq):=below_drewN (Below.refl _ _) nq
   have Yb:=Xb.keep bq
   have Yj:=Xj.keep bq
   have Yq:=below_step Xq bq
   have y0:=Yb.c0
   have y1:=Yb.c1
   go_wp2_with fail
   have js:=Yj
   refine (sign_any _ _ _ _ _ _ js).mono ?_
   rintro e v9 ⟨rfl,b9⟩
   have q9:=below_step Yq b9
   by_cases hz:z<0
   ·have hs:sgnI z<0:=by unfold sgnI;rw [if_pos hz];omega
    generalize sgnI z=sv at *
    obtain ⟨s3,hs3⟩:∃s3,bs (45 :: (T.take (T.length-p) ++ [46] ++ T.drop (T.length-p)))=s3:=⟨_,rfl⟩
    have hcat4:∀W,(Op.stringOp .add ⟨#[45]⟩ s2).run Tryz.prog W=.ok (.string s3) W:=fun W=>by
     have:=run_cat W [45] (T.take (T.length-p) ++ [46] ++ T.drop (T.length-p)) _ rfl (by rw [List.length_append];simp only [List.length_append,List.length_take,List.length_drop,List.length_cons,List.length_nil];omega)
     rw [show bs (T.take (T.length-p) ++ [46] ++ T.drop (T.length-p))=s2 from SE.out.symm]at this
     rw [←hs3]
     exact this
    have HS3:=Lib.hid hs3;clear hs3
    have hfin:decTx z p=45 :: (T.take (T.length-p) ++ [46] ++ T.drop (T.length-p)):=by unfold decTx decT2;rw [if_pos hz,HT.out];rw [if_pos hp0]
    have HF:=Lib.hid hfin;clear hfin
    go_wp2_with fail
    go_ret2
    rw [HF.out,HS3.out]
    exact ⟨rfl,q9⟩
   ·have hs:¬sgnI z<0:=by unfold sgnI;rw [if_neg hz];split <;> omega
    generalize sgnI z=sv at *
    have hfin:decTx z p=(T.take (T.length-p) ++ [46] ++ T.drop (T.length-p)):=by unfold decTx decT2;rw [if_neg hz,HT.out];rw [if_pos hp0]
    have HF:=Lib.hid hfin;clear hfin
    go_wp2_with fail
    go_ret2
    rw [HF.out,show bs (T.take (T.length-p) ++ [46] ++ T.drop (T.length-p))=s2 from SE.out.symm]
    exact ⟨rfl,q9⟩
  ·have hp0':p=0:=by omega
   have hp0I:¬(0:Int)<(p:Int):=by omega
   clear sl
   go_wp2_with fail
   have js:=Xj
   refine (sign_any _ _ _ _ _ _ js).mono ?_
   rintro e v9 ⟨rfl,b9⟩
   have q9:=below_step Xq b9
   by_cases hz:z<0
   ·have hs:sgnI z<0:=by unfold sgnI;rw [if_pos hz];omega
    generalize sgnI z=sv at *
    obtain ⟨s3,hs3⟩:∃s3,bs (45 :: T)=s3:=⟨_,rfl⟩
    have hcat4:∀W,(Op.stringOp .add ⟨#[45]⟩ sT).run Tryz.prog W=.ok (.string s3) W:=fun W=>by
     have:=run_cat W [45] T _ rfl (by rw [List.length_append];simp only [List.length_append,List.length_take,List.length_drop,List.length_cons,List.length_nil];omega)
     rw [HS.out]at this
     rw [←hs3]
     exact this
    have HS3:=Lib.hid hs3;clear hs3
    have hfin:decTx z p=45 :: T:=by unfold decTx decT2;rw [if_pos hz,HT.out];rw [if_neg hp0]
    have HF:=Lib.hid hfin;clear hfin
    go_wp2_with fail
    go_ret2
    rw [HF.out,HS3.out]
    exact ⟨rfl,q9⟩
   ·have hs:¬sgnI z<0:=by unfold sgnI;rw [if_neg hz];split <;> omega
    generalize sgnI z=sv at *
    have hfin:decTx z p=T:=by unfold decTx decT2;rw [if_neg hz,HT.out];rw [if_neg hp0]
    have HF:=Lib.hid hfin;clear hfin
    go_wp2_with fail
    go_ret2
    rw [HF.out,HS.out]
    exact ⟨rfl,q9⟩
 ·have hlenI:¬(d0.length:Int)≤(p:Int):=by omega
  have hlenJ:(p:Int)<(d0.length:Int):=by omega
  have hTd:d0=T:=by rw [←HT.out];unfold decT1;rw [HD0.out,if_neg hlen]
  rw [hTd,HS.out]
  rw [hTd]at hlenI hlenJ
  generalize w2=X at *
  have Xb:=hb2
  have Xj:=h2
  have Xq:=q2
  rw [hL]at hlenI hlenJ
  clear hb2 h2 q2 d0s hTd
  by_cases hp0:0<p
  ·have hp0I:(0:Int)<(p:Int):=by omega
   have x1:=sl.a
   have x2:=sl.b
   have x3:=sl.c
   have x4:=sl.d
   have hLI:(p:Int)<(L:Int):=by omega
   have SE:=Lib.hid sl.e
   clear sl
   go_upto_region 7 with fail
   go_quiet (fail)
   clear x1 x2 x3 x4
   have bq:Below X.heap.size X (X.drewN nq):=below_drewN (Below.refl _ _) nq
   have Yb:=Xb.keep bq
   have Yj:=Xj.keep bq
   have Yq:=below_step Xq bq
   have y0:=Yb.c0
   have y1:=Yb.c1
   go_wp2_with fail
   have js:=Yj
   refine (sign_any _ _ _ _ _ _ js).mono ?_
   rintro e v9 ⟨rfl,b9⟩
   have q9:=below_step Yq b9
   by_cases hz:z<0
   ·have hs:sgnI z<0:=by unfold sgnI;rw [if_pos hz];omega
    generalize sgnI z=sv at *
    obtain ⟨s3,hs3⟩:∃s3,bs (45 :: (T.take (T.length-p) ++ [46] ++ T.drop (T.length-p)))=s3:=⟨_,rfl⟩
    have hcat4:∀W,(Op.stringOp .add ⟨#[45]⟩ s2).run Tryz.prog W=.ok (.string s3) W:=fun W=>by
     have:=run_cat W [45] (T.take (T.length-p) ++ [46] ++ T.drop (T.length-p)) _ rfl (by rw [List.length_append];simp only [List.length_append,List.length_take,List.length_drop,List.length_cons,List.length_nil];omega)
     rw [show bs (T.take (T.length-p) ++ [46] ++ T.drop (T.length-p))=s2 from SE.out.symm]at this
     rw [←hs3]
     exact this
    have HS3:=Lib.hid hs3;clear hs3
    have hfin:decTx z p=45 :: (T.take (T.length-p) ++ [46] ++ T.drop (T.length-p)):=by unfold decTx decT2;rw [if_pos hz,HT.out];rw [if_pos hp0]
    have HF:=Lib.hid hfin;clear hfin
    go_wp2_with fail
    go_ret2
    rw [HF.out,HS3.out]
    exact ⟨rfl,q9⟩
   ·have hs:¬sgnI z<0:=by unfold sgnI;rw [if_neg hz];split <;> omega
    generalize sgnI z=sv at *
    have hfin:decTx z p=(T.take (T.length-p) ++ [46] ++ T.drop (T.length-p)):=by unfold decTx decT2;rw [if_neg hz,HT.out];rw [if_pos hp0]
    have HF:=Lib.hid hfin;clear hfin
    go_wp2_with fail
    go_ret2
    rw [HF.out,show bs (T.take (T.length-p) ++ [46] ++ T.drop (T.length-p))=s2 from SE.out.symm]
    exact ⟨rfl,q9⟩
  ·have hp0':p=0:=by omega
   have hp0I:¬(0:Int)<(p:Int):=by omega
   clear sl
   go_wp2_with fail
   have js:=Xj
   refine (sign_any _ _ _ _ _ _ js).mono ?_
   rintro e v9 ⟨rfl,b9⟩
   have q9:=below_step Xq b9
   by_cases hz:z<0
   ·have hs:sgnI z<0:=by unfold sgnI;rw [if_pos hz];omega
    generalize sgnI z=sv at *
    obtain ⟨s3,hs3⟩:∃s3,bs (45 :: T)=s3:=⟨_,rfl⟩
    have hcat4:∀W,(Op.stringOp .add ⟨#[45]⟩ sT).run Tryz.prog W=.ok (.string s3) W:=fun W=>by
     have:=run_cat W [45] T _ rfl (by rw [List.length_append];simp only [List.length_append,List.length_take,List.length_drop,List.length_cons,List.length_nil];omega)
     rw [HS.out]at this
     rw [←hs3]
     exact this
    have HS3:=Lib.hid hs3;clear hs3
    have hfin:decTx z p=45 :: T:=by unfold decTx decT2;rw [if_pos hz,HT.out];rw [if_neg hp0]
    have HF:=Lib.hid hfin;clear hfin
    go_wp2_with fail
    go_ret2
    rw [HF.out,HS3.out]
    exact ⟨rfl,q9⟩
   ·have hs:¬sgnI z<0:=by unfold sgnI;rw [if_neg hz];split <;> omega
    generalize sgnI z=sv at *
    have hfin:decTx z p=T:=by unfold decTx decT2;rw [if_neg hz,HT.out];rw [if_neg hp0]
    have HF:=Lib.hid hfin;clear hfin
    go_wp2_with fail
    go_ret2
    rw [HF.out,HS.out]
    exact ⟨rfl,q9⟩
end Go.Proofs.YtcggnmddcbhchaaGreatDoor
namespace Go.Proofs.YtcggnmddcbhchaaGreatDoor
open Go.RowKit Lim
attribute [local go_sem ↓] Go.wp_at_zero Go.wp_at_succ
def ratTx (N:Int) (D:Nat):List UInt8:=if D=1 then Lib.itoa N else Lib.itoa N ++ [47] ++ Lib.decDigits D
theorem itoa_len {z:Int} (hl:nlen z.natAbs<1099511627776):(Lib.itoa z).length≤10995116277762:=by
 have:=dec_len hl
 unfold Lib.itoa
 split
 ·simp;omega
 ·rw [show z.toNat=z.natAbs by omega];omega
set_option maxHeartbeats 2000000 in
set_option maxRecDepth 100000 in
theorem rprint_any (t:Bool) (A B:Option Addr) (c f d:Nat) (l m:List Nat) (z:Int) (w:World) (h:InR w t A c l B f m z d) (htab:Tab w) (hl2:nlen d+8<1099511627776) :
  Calls Tryz.prog 27 #[.agg #[.bool t,.slice A l.length c,.slice B m.length f]] w fun e w'=>e=.returned (.string (bs (ratTx (rn (pz z d) (pd d)) (rd (pz z d) (pd d)))))∧Below w.heap.size w w':=by
 have hbel:Below w.heap.size w (w.alloc (.cells #[.bool t,.slice A l.length c,.slice B m.length f] 27)):=(Below.refl _ _).alloc (Nat.le_refl _) _
 have hb:=Box.new w #[.bool t,.slice A l.length c,.slice B m.length f] 27
 have h':=h.keep hbel
 obtain ⟨N,hN⟩:∃N,rn (pz z d) (pd d)=N:=⟨_,rfl⟩
 obtain ⟨D,hD⟩:∃D,rd (pz z d) (pd d)=D:=⟨_,rfl⟩
 have nN:nlen N.natAbs<1099511627776:=by
  have a1:=nlen_mono (show N.natAbs≤(pz z d).natAbs by rw [←hN,rn_abs];exact Nat.div_le_self _ _)
  have a2:=nlen_pz z d
  have a3:nlen z.natAbs<1099511627776:=h.num.mag.nlen
  omega
 have nD:nlen D<1099511627776:=by
  have a1:=nlen_mono (show D≤pd d by rw [←hD];exact Nat.div_le_self _ _)
  have a2:=nlen_pd d
  omega
 have NRM:=Lib.hid (rnorm_any t A B c f d l m z _ h')
 rw [hN,hD]at NRM ⊢
 clear hN hD h h'
 have hil:=itoa_len nN
 have hdl:=dec_len nD
 go_enter Tryz.func27,Tryz.ntmps27
 go_wp2_with fail
 with_reducible refine NRM.out.mono ?_
 rintro e w1 ⟨t1,A1,c1,l1,B1,f1,m1,rfl,o1,o2,hm,b1⟩
 have HM:=Lib.hid hm;clear hm
 have hb1:=hb.keep b1
 have e0:=hb1.c0
 have e1:=hb1.c1
 have e2:=hb1.c2
 have g0:=hb1.frozen 0
 have g1:=hb1.frozen 1
 have g2:=hb1.frozen 2
 obtain ⟨o3,b3⟩:=o1.mag.box3 hb1 rfl rfl rfl (u:=.bool t1) (v:=.slice A1 l1.length c1) (s:=.slice B1 m1.length f1) rfl rfl
 obtain ⟨o4,_⟩:=o2.box3 hb1 rfl rfl rfl (u:=.bool t1) (v:=.slice A1 l1.length c1) (s:=.slice B1 m1.length f1) rfl rfl
 have q1:=Below.box3 (below_step hbel b1) (Nat.le_refl _) (.bool t1) (.slice A1 l1.length c1) (.slice B1 m1.length f1)
 have oN:OutI (((w1.setCell ⟨w.heap.size,0,none⟩ (.bool t1)).setCell ⟨w.heap.size,1,none⟩ (.slice A1 l1.length c1)).setCell ⟨w.heap.size,2,none⟩ (.slice B1 m1.length f1)) t1 A1 c1 l1 N:=⟨o3,o1.sgn,o1.lim⟩
 have i4:=o4.toIn nD
 rw [←HM.out]at i4
 clear hb hb1 b1 o1 o2 o3 o4 hbel NRM
 go_wp2_with fail
 generalize hW2:((w1.setCell ⟨w.heap.size,0,none⟩ (.bool t1)).setCell ⟨w.heap.size,1,none⟩ (.slice A1 l1.length c1)).setCell ⟨w.heap.size,2,none⟩ (.slice B1 m1.length f1)=W2 at *
 clear hW2 e0 e1 e2 g0 g1 g2 HM
 refine (iprint_any _ _ _ _ _ _ (oN.toIn nN) (htab.keep q1)).mono ?_
 rintro e w3 ⟨rfl,k3⟩
 have b4:=b3.keep k3
 have i5:=i4.keep k3
 have q3:=below_step q1 k3
 clear b3 i4 q1 k3 oN
 have e0:=b4.c0
 have e1:=b4.c1
 have e2:=b4.c2
 obtain ⟨sN,hsN⟩:∃sN,bs (Lib.itoa N)=sN:=⟨_,rfl⟩
 rw [hsN]
 go_upto_region 3 with fail
 have bd:Below w3.heap.size w3 w3.drew:=(Below.refl _ _).drew
 have bdx:=b4.keep bd
 have d2:w3.drew.cell? ⟨w.heap.size,2,none⟩=some (.slice B1 m1.length f1):=bdx.c2
 have OF:Hid (Calls Tryz.prog 63 #[.int .u64 1] w3.drew fun e w'=>∃A c,e=.returned (.slice A (limbs 1).length c)∧Out w' A c 1∧Below w3.drew.heap.size w3.drew w'):=Lib.hid (of_any 1 (by omega) w3.drew)
 have n1:nlen 1<1099511627776:=by rw [nlen_one];omega
 have KK:=Lib.hid (fun (W':World) (hb:Below w3.heap.size w3 W')=>(b4.keep hb).c2)
 go_region_held3 (fun w'=>w'.cell? ⟨w.heap.size,2,none⟩=some (.slice B1 m1.length f1)) (with_reducible first|exact e2|exact KK.out _ bd|exact KK.out _ r1|exact KK.out _ r2)
  (first
   | (go_at_call 63;(with_reducible refine OF.out.mono ?_);rintro e v1 ⟨Aa,ca,rfl,oa,ba⟩;have r1:Below w3.heap.size w3 v1:=bd.trans ba)
   | (go_at_call 62;(with_reducible refine (cmp_any _ _ _ _ _ _ _ _ _ (i5.keep r1) (oa.toIn n1)).mono ?_);rintro e v2 ⟨rfl,mm,hmm⟩;(have r2:Below w3.heap.size w3 v2:=by (rw [hmm];exact below_drewN r1 mm));clear hmm)
   | fail)
 have b6:=b4.keep r2
 have q4:=below_step q3 r2
 have i6:=i5.keep r2
 have k2:=b6.c2
 have T4:=htab.keep q4
 by_cases hD:D=1
 ·have hc:(cmpI D 1 == 0)=true:=by rw [hD];rfl
  generalize cmpI D 1=cv at *
  have hf:ratTx N D=Lib.itoa N:=by unfold ratTx;rw [if_pos hD]
  have HF:=Lib.hid hf;clear hf hD
  go_wp2_with fail
  go_ret
  rw [HF.out,hsN]
  exact ⟨rfl,q4⟩
 ·have hc:(cmpI D 1 == 0)=false:=by unfold cmpI;split <;> (try split) <;> first|rfl|omega
  generalize cmpI D 1=cv at *
  have hf:ratTx N D=Lib.itoa N ++ [47] ++ Lib.decDigits D:=by unfold ratTx;rw [if_neg hD]
  have HF:=Lib.hid hf;clear hf hD
  obtain ⟨s1,hs1⟩:∃s1,bs (Lib.itoa N ++ [47])=s1:=⟨_,rfl⟩
  obtain ⟨s2,hs2⟩:∃s2,bs (Lib.itoa N ++ [47] ++ Lib.decDigits D)=s2:=⟨_,rfl⟩
  have c1:∀W,(Op.stringOp .add sN ⟨#[47]⟩).run Tryz.prog W=.ok (.string s1) W:=fun W=>by
   have:=run_cat W (Lib.itoa N) [47] _ rfl (by rw [List.length_append];simp;omega)
   rw [hsN,hs1]at this
   exact this
  have c2:∀W,(Op.stringOp .add s1 ⟨(Lib.decDigits D).toArray⟩).run Tryz.prog W=.ok (.string s2) W:=fun W=>by
   have:=run_cat W (Lib.itoa N ++ [47]) (Lib.decDigits D) _ rfl (by rw [List.length_append,List.length_append];simp;omega)
   rw [hs1,hs2]at this
   exact this
  have HS2:=Lib.hid hs2;clear hs1 hs2 hsN
  have PR:=Lib.hid (nprint_any B1 f1 D m1 v2 i6 T4 nD)
  clear i5 i6 q3 b4 b6 KK OF hdl hil
  go_wp2_with fail
  with_reducible refine PR.out.mono ?_
  rintro e v3 ⟨rfl,r3⟩
  go_wp2_with fail
  go_ret
  rw [HF.out,HS2.out]
  exact ⟨rfl,below_step q4 r3⟩
end Go.Proofs.YtcggnmddcbhchaaGreatDoor
namespace Go.Proofs.YtcggnmddcbhchaaGreatDoor
open Go.RowKit Lim
attribute [local go_sem ↓] Go.wp_at_zero Go.wp_at_succ
theorem toList_loop (a:ByteArray):∀(n i:Nat) (r:List UInt8),a.size-i=n→ByteArray.toList.loop a i r=r.reverse ++ a.data.toList.drop i:=by
 intro n
 induction n with
 | zero =>
  intro i r h
  rw [ByteArray.toList.loop,if_neg (by omega),List.drop_eq_nil_of_le (by rw [Array.length_toList];exact (show a.size≤i by omega)),List.append_nil]
 | succ n ih =>
  intro i r h
  have hi:i<a.size:=by omega
  have hi2:i<a.data.toList.length:=by rw [Array.length_toList];exact hi
  rw [ByteArray.toList.loop,if_pos hi,ih (i+1) _ (by omega),List.drop_eq_getElem_cons hi2]
  have e:a.get! i=a.data.toList[i]:=by
   show a.data[i]! = _
   rw [getElem!_pos a.data i hi]
   simp
  rw [e]
  simp
theorem toList_bs (s:List UInt8):(bs s).toList=s:=by
 unfold ByteArray.toList
 rw [toList_loop _ _ _ _ rfl]
 simp [bs]
end Go.Proofs.YtcggnmddcbhchaaGreatDoor
namespace Go.Proofs.YtcggnmddcbhchaaGreatDoor
open Go.RowKit Lim
attribute [local go_sem ↓] Go.wp_at_zero Go.wp_at_succ
structure PaRel (w wr:World) (A:Option Addr) (c:Nat) (AT:Option Addr) (cT:Nat) (v:Nat):Prop where
 acc:Out wr A c v
 ten:Out wr AT cT 10
 bel:Below w.heap.size w wr
end Go.Proofs.YtcggnmddcbhchaaGreatDoor
