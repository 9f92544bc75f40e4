import Derived.Test.YtcggnmddcbhchaaGreatDoorEXG
import Derived.Test.YtcggnmddcbhchaaGreatDoorEWa
/- Text XK. -/
set_option linter.unusedSimpArgs false
set_option linter.unusedVariables false
namespace Go.Proofs.YtcggnmddcbhchaaGreatDoor
open Go.RowKit Lim
def limbsF:Nat→Nat→List Nat
 | 0,_=>[]
 | k+1,n=>bif Nat.beq n 0 then [] else (n % 4294967296) :: limbsF k (n / 4294967296)
def limbsK (n:Nat):List Nat:=limbsF (Nat.log2 n / 32+1) n
theorem limbsF_eq:∀(k n:Nat),n<pw k→limbsF k n=limbs n
 | 0,n,h=>by
  have:n=0:=by simpa [pw]using h
  subst this;rw [limbs_zero];rfl
 | k+1,n,h=>by
  simp only [limbsF]
  cases hb:Nat.beq n 0 with
  | true=>have:=Nat.eq_of_beq_eq_true hb;subst this;rw [limbs_zero];rfl
  | false =>
   have hn:n≠0:=fun e=>by subst e;cases hb
   rw [cond_false,limbs_pos hn,limbsF_eq k (n / 4294967296) (by unfold pw at h ⊢;rw [Nat.pow_succ]at h;omega)]
theorem lt_log (n:Nat):n<pw (Nat.log2 n / 32+1):=by
 have h1:n<2 ^ (Nat.log2 n+1):=Nat.lt_log2_self
 have h2:pw (Nat.log2 n / 32+1)=2 ^ (32*(Nat.log2 n / 32+1)):=by unfold pw;rw [Nat.pow_mul]
 rw [h2]
 exact Nat.lt_of_lt_of_le h1 (Nat.pow_le_pow_right (by decide) (by omega))
theorem limbsK_eq (n:Nat):limbsK n=limbs n:=limbsF_eq _ _ (lt_log n)
theorem nlen_log (n:Nat):nlen n≤Nat.log2 n / 32+1:=nlen_le (lt_log n)
def decF:Nat→Nat→List UInt8
 | 0,_=>[]
 | k+1,u=>bif Nat.blt u 10 then [UInt8.ofNat (48+u)] else decF k (u / 10) ++ [UInt8.ofNat (48+u % 10)]
def decK (u:Nat):List UInt8:=decF (Nat.log2 u+1) u
theorem decF_eq:∀(k n:Nat),n<2 ^ k→0<k→decF k n=Lib.decDigits n
 | 0,_,_,h=>by cases h
 | k+1,n,h,_=>by
  simp only [decF]
  cases hb:Nat.blt n 10 with
  | true =>
   have hlt:n<10:=blt_of hb
   rw [Lib.decDigits,dif_pos hlt];rfl
  | false =>
   have hlt:¬n<10:=fun hh=>by
    have:Nat.blt n 10=true:=Nat.ble_eq_true_of_le hh
    rw [hb]at this;cases this
   have hk:0<k:=by cases k with|zero=>simp at h;omega|succ=>omega
   rw [cond_false,Lib.decDigits,dif_neg hlt,decF_eq k (n / 10) (by rw [Nat.pow_succ]at h;omega) hk]
theorem decK_eq (n:Nat):decK n=Lib.decDigits n:=decF_eq _ _ Nat.lt_log2_self (Nat.succ_pos _)
def itoaK (z:Int):List UInt8:=bif decide (z<0) then 45 :: decK z.natAbs else decK z.toNat
theorem itoaK_eq (z:Int):itoaK z=Lib.itoa z:=by
 unfold itoaK Lib.itoa
 simp only [decK_eq]
 by_cases h:z<0 <;> simp [h]
def ratK (z:Int) (d:Nat):List UInt8:=bif Nat.beq d 1 then itoaK z else itoaK z ++ [47] ++ decK d
theorem ratK_eq (z:Int) (d:Nat):ratK z d=ratTx z d:=by
 unfold ratK ratTx
 simp only [itoaK_eq,decK_eq]
 by_cases h:d=1
 ·subst h;rfl
 ·have:Nat.beq d 1=false:=by rw [beq_iff];simpa using h
  rw [this,if_neg h];rfl
def dec1K (n p:Nat):List UInt8:=bif Nat.ble (decK n).length p then List.replicate (p+1-(decK n).length) 48 ++ decK n else decK n
def dec2K (n p:Nat):List UInt8:=bif Nat.blt 0 p then (dec1K n p).take ((dec1K n p).length-p) ++ [46] ++ (dec1K n p).drop ((dec1K n p).length-p) else dec1K n p
def decTK (z:Int) (p:Nat):List UInt8:=bif decide (z<0) then 45 :: dec2K z.natAbs p else dec2K z.natAbs p
theorem dec1K_eq (n p:Nat):dec1K n p=decT1 n p:=by
 unfold dec1K decT1
 simp only [decK_eq]
 cases h:Nat.ble (Lib.decDigits n).length p with
 | true=>rw [cond_true,if_pos (ble_of h)]
 | false=>rw [cond_false,if_neg (fun hh=>by rw [Nat.ble_eq_true_of_le hh]at h;cases h)]
theorem dec2K_eq (n p:Nat):dec2K n p=decT2 n p:=by
 unfold dec2K decT2
 simp only [dec1K_eq]
 cases h:Nat.blt 0 p with
 | true=>rw [cond_true,if_pos (blt_of h)]
 | false=>rw [cond_false,if_neg (fun hh=>by have:Nat.blt 0 p=true:=Nat.ble_eq_true_of_le hh;rw [this]at h;cases h)]
theorem decTK_eq (z:Int) (p:Nat):decTK z p=decTx z p:=by
 unfold decTK decTx
 simp only [dec2K_eq]
 by_cases h:z<0 <;> simp [h]
def capN (l:List Nat):Bool:=Nat.blt l.length 1099511627776 && Nat.blt (Nat.log2 (val l)) 1099511627776
def capS (s:List UInt8):Bool:=Nat.blt s.length 4294967281
def capI (z:Int):Bool:=decide (-9223372036854775808≤z) && decide (z≤9223372036854775807)
theorem capN_of {l:List Nat} (h:capN l=true):l.length<1099511627776∧nlen (val l)≤34359738369:=by
 obtain ⟨h1,h2⟩:=band_of h
 have h2:=blt_of h2
 have:=nlen_log (val l)
 exact ⟨blt_of h1,by omega⟩
theorem capI_of {z:Int} (h:capI z=true):-9223372036854775808≤z∧z≤9223372036854775807:=by
 obtain ⟨h1,h2⟩:=band_of h
 exact ⟨of_decide_eq_true h1,of_decide_eq_true h2⟩
def capU (z:Int):Bool:=decide (0≤z) && decide (z<18446744073709551616)
theorem capU_of {z:Int} (h:capU z=true):∃k:Nat,z=(k:Int)∧k<18446744073709551616:=by
 obtain ⟨h1,h2⟩:=band_of h
 have h1:=of_decide_eq_true h1
 have h2:=of_decide_eq_true h2
 exact ⟨z.toNat,by omega,by omega⟩
def capP (z:Int):Bool:=decide (0≤z) && decide (z≤9)
theorem capP_of {z:Int} (h:capP z=true):∃k:Nat,z=(k:Int)∧k≤9:=by
 obtain ⟨h1,h2⟩:=band_of h
 have h1:=of_decide_eq_true h1
 have h2:=of_decide_eq_true h2
 exact ⟨z.toNat,by omega,by omega⟩
theorem capS_of {s:List UInt8} (h:capS s=true):s.length<4294967281:=blt_of h
structure Prim where
 t:Bool
 ok:List V→Bool
 res:List V→Option (List V0)
def Prim.ask (p:Prim):Ask1:=fun args g=>bif args.all V.plain && p.ok args then (p.res args).bind (decR g) else none
def Prim.OK (f:FuncId) (p:Prim):Prop:=∀args l,p.ok args=true→p.res args=some l→(p.t=true→AT f (args.map V.av) (packA (l.map V0.av)))∧(p.t=false→AC f (args.map V.av) (packA (l.map V0.av)))
theorem Prim.OK.ac {f:FuncId} {p:Prim} (h:p.OK f) {args:List V} {g:Sig} {x:denL g.ts} (hx:p.ask args g=some x):(p.t=true∧AT f (args.map V.av) (resO g x))∨(p.t=false∧AC f (args.map V.av) (resO g x)):=by
 obtain ⟨h1,hx⟩:=bif_of hx
 obtain ⟨_,h1⟩:=band_of h1
 obtain ⟨l,h2,h3⟩:=bind_of hx
 rw [decR_some h3]
 obtain ⟨q1,q2⟩:=h args l h1 h2
 cases ht:p.t with
 | true=>exact .inl ⟨rfl,q1 ht⟩
 | false=>exact .inr ⟨rfl,q2 ht⟩
theorem Prim.ask_plain {p:Prim} {args:List V} {g:Sig} {x:denL g.ts} (hx:p.ask args g=some x):args.all V.plain=true:=(band_of (bif_of hx).1).1
def pNOf_o:List V→Bool
 | [.o (.c ⟨.int .u64,z0⟩)]=>true && capU z0
 | _=>false
def pNOf_r:List V→Option (List V0)
 | [.o (.c ⟨.int .u64,z0⟩)]=>some [.c ⟨.nat,limbsK (z0.toNat)⟩]
 | _=>none
theorem pNOf_p:Prim.OK 63 ⟨false,pNOf_o,pNOf_r⟩:=by
 intro args l h h2
 simp only [pNOf_r]at h2
 split at h2
 ·rename_i z0
  cases h2
  simp only [pNOf_o,Bool.and_eq_true]at h
  obtain ⟨c0,h⟩:=h
  simp only [limbsK_eq,decK_eq,itoaK_eq,ratK_eq,decTK_eq]
  refine ⟨fun ht=>?_,fun ht=>?_⟩
  ·cases ht
  ·obtain ⟨k,rfl,hk⟩:=capU_of h;exact nof_c k hk
 ·cases h2
def pNCmp_o:List V→Bool
 | [.o (.c ⟨.nat,a0⟩),.o (.c ⟨.nat,a1⟩)]=>capN a0 && capN a1 && true
 | _=>false
def pNCmp_r:List V→Option (List V0)
 | [.o (.c ⟨.nat,a0⟩),.o (.c ⟨.nat,a1⟩)]=>some [.c ⟨.int .i64,cmpI (val a0) (val a1)⟩]
 | _=>none
theorem pNCmp_p:Prim.OK 62 ⟨false,pNCmp_o,pNCmp_r⟩:=by
 intro args l h h2
 simp only [pNCmp_r]at h2
 split at h2
 ·rename_i a0 a1
  cases h2
  simp only [pNCmp_o,Bool.and_eq_true]at h
  obtain ⟨⟨c0,c1⟩,h⟩:=h
  have h0:IsN (.nat a0) (val a0):=⟨a0,rfl,rfl,(capN_of c0).1⟩
  have n0:=(capN_of c0).2
  have h1:IsN (.nat a1) (val a1):=⟨a1,rfl,rfl,(capN_of c1).1⟩
  have n1:=(capN_of c1).2
  refine ⟨fun ht=>?_,fun ht=>?_⟩
  ·cases ht
  ·exact ncmp_c h0 h1
 ·cases h2
def pNNorm_o:List V→Bool
 | [.o (.c ⟨.nat,a0⟩)]=>capN a0 && true
 | _=>false
def pNNorm_r:List V→Option (List V0)
 | [.o (.c ⟨.nat,a0⟩)]=>some [.c ⟨.nat,limbsK (val a0)⟩]
 | _=>none
theorem pNNorm_p:Prim.OK 96 ⟨false,pNNorm_o,pNNorm_r⟩:=by
 intro args l h h2
 simp only [pNNorm_r]at h2
 split at h2
 ·rename_i a0
  cases h2
  simp only [pNNorm_o,Bool.and_eq_true]at h
  obtain ⟨c0,h⟩:=h
  have h0:IsN (.nat a0) (val a0):=⟨a0,rfl,rfl,(capN_of c0).1⟩
  have n0:=(capN_of c0).2
  simp only [limbsK_eq,decK_eq,itoaK_eq,ratK_eq,decTK_eq]
  refine ⟨fun ht=>?_,fun ht=>?_⟩
  ·cases ht
  ·exact nnorm_c h0
 ·cases h2
def pNAdd_o:List V→Bool
 | [.o (.c ⟨.nat,a0⟩),.o (.c ⟨.nat,a1⟩)]=>capN a0 && capN a1 && true
 | _=>false
def pNAdd_r:List V→Option (List V0)
 | [.o (.c ⟨.nat,a0⟩),.o (.c ⟨.nat,a1⟩)]=>some [.c ⟨.nat,limbsK (val a0+val a1)⟩]
 | _=>none
theorem pNAdd_p:Prim.OK 202 ⟨false,pNAdd_o,pNAdd_r⟩:=by
 intro args l h h2
 simp only [pNAdd_r]at h2
 split at h2
 ·rename_i a0 a1
  cases h2
  simp only [pNAdd_o,Bool.and_eq_true]at h
  obtain ⟨⟨c0,c1⟩,h⟩:=h
  have h0:IsN (.nat a0) (val a0):=⟨a0,rfl,rfl,(capN_of c0).1⟩
  have n0:=(capN_of c0).2
  have h1:IsN (.nat a1) (val a1):=⟨a1,rfl,rfl,(capN_of c1).1⟩
  have n1:=(capN_of c1).2
  simp only [limbsK_eq,decK_eq,itoaK_eq,ratK_eq,decTK_eq]
  refine ⟨fun ht=>?_,fun ht=>?_⟩
  ·cases ht
  ·exact nadd_c h0 h1
 ·cases h2
def pNMul_o:List V→Bool
 | [.o (.c ⟨.nat,a0⟩),.o (.c ⟨.nat,a1⟩)]=>capN a0 && capN a1 && true
 | _=>false
def pNMul_r:List V→Option (List V0)
 | [.o (.c ⟨.nat,a0⟩),.o (.c ⟨.nat,a1⟩)]=>some [.c ⟨.nat,limbsK (val a0*val a1)⟩]
 | _=>none
theorem pNMul_p:Prim.OK 95 ⟨false,pNMul_o,pNMul_r⟩:=by
 intro args l h h2
 simp only [pNMul_r]at h2
 split at h2
 ·rename_i a0 a1
  cases h2
  simp only [pNMul_o,Bool.and_eq_true]at h
  obtain ⟨⟨c0,c1⟩,h⟩:=h
  have h0:IsN (.nat a0) (val a0):=⟨a0,rfl,rfl,(capN_of c0).1⟩
  have n0:=(capN_of c0).2
  have h1:IsN (.nat a1) (val a1):=⟨a1,rfl,rfl,(capN_of c1).1⟩
  have n1:=(capN_of c1).2
  simp only [limbsK_eq,decK_eq,itoaK_eq,ratK_eq,decTK_eq]
  refine ⟨fun ht=>?_,fun ht=>?_⟩
  ·cases ht
  ·exact nmul_c h0 h1
 ·cases h2
def pNSub_o:List V→Bool
 | [.o (.c ⟨.nat,a0⟩),.o (.c ⟨.nat,a1⟩)]=>capN a0 && capN a1 && true
 | _=>false
def pNSub_r:List V→Option (List V0)
 | [.o (.c ⟨.nat,a0⟩),.o (.c ⟨.nat,a1⟩)]=>some [.c ⟨.nat,bif Nat.ble (val a1) (val a0) then limbsK (val a0-val a1) else []⟩,.c ⟨.bool,Nat.ble (val a1) (val a0)⟩]
 | _=>none
theorem pNSub_p:Prim.OK 203 ⟨false,pNSub_o,pNSub_r⟩:=by
 intro args l h h2
 simp only [pNSub_r]at h2
 split at h2
 ·rename_i a0 a1
  cases h2
  simp only [pNSub_o,Bool.and_eq_true]at h
  obtain ⟨⟨c0,c1⟩,h⟩:=h
  have h0:IsN (.nat a0) (val a0):=⟨a0,rfl,rfl,(capN_of c0).1⟩
  have n0:=(capN_of c0).2
  have h1:IsN (.nat a1) (val a1):=⟨a1,rfl,rfl,(capN_of c1).1⟩
  have n1:=(capN_of c1).2
  simp only [limbsK_eq,decK_eq,itoaK_eq,ratK_eq,decTK_eq]
  refine ⟨fun ht=>?_,fun ht=>?_⟩
  ·cases ht
  ·cases q:Nat.ble (val a1) (val a0)with|true=>exact nsub_yes h0 h1 (ble_of q)|false=>exact nsub_no h0 h1 (Nat.lt_of_not_le fun hh=>by rw [Nat.ble_eq_true_of_le hh]at q;cases q)
 ·cases h2
def pNDM_o:List V→Bool
 | [.o (.c ⟨.nat,a0⟩),.o (.c ⟨.nat,a1⟩)]=>capN a0 && capN a1 && Nat.blt 0 (val a1)
 | _=>false
def pNDM_r:List V→Option (List V0)
 | [.o (.c ⟨.nat,a0⟩),.o (.c ⟨.nat,a1⟩)]=>some [.c ⟨.nat,limbsK (val a0 / val a1)⟩,.c ⟨.nat,limbsK (val a0 % val a1)⟩,.c ⟨.bool,true⟩]
 | _=>none
theorem pNDM_p:Prim.OK 174 ⟨false,pNDM_o,pNDM_r⟩:=by
 intro args l h h2
 simp only [pNDM_r]at h2
 split at h2
 ·rename_i a0 a1
  cases h2
  simp only [pNDM_o,Bool.and_eq_true]at h
  obtain ⟨⟨c0,c1⟩,h⟩:=h
  have h0:IsN (.nat a0) (val a0):=⟨a0,rfl,rfl,(capN_of c0).1⟩
  have n0:=(capN_of c0).2
  have h1:IsN (.nat a1) (val a1):=⟨a1,rfl,rfl,(capN_of c1).1⟩
  have n1:=(capN_of c1).2
  simp only [limbsK_eq,decK_eq,itoaK_eq,ratK_eq,decTK_eq]
  refine ⟨fun ht=>?_,fun ht=>?_⟩
  ·cases ht
  ·exact ndivmod_c h0 h1 (blt_of h)
 ·cases h2
def pNPrint_o:List V→Bool
 | [.o (.c ⟨.nat,a0⟩)]=>capN a0 && true
 | _=>false
def pNPrint_r:List V→Option (List V0)
 | [.o (.c ⟨.nat,a0⟩)]=>some [.c ⟨.str,decK (val a0)⟩]
 | _=>none
theorem pNPrint_p:Prim.OK 57 ⟨false,pNPrint_o,pNPrint_r⟩:=by
 intro args l h h2
 simp only [pNPrint_r]at h2
 split at h2
 ·rename_i a0
  cases h2
  simp only [pNPrint_o,Bool.and_eq_true]at h
  obtain ⟨c0,h⟩:=h
  have h0:IsN (.nat a0) (val a0):=⟨a0,rfl,rfl,(capN_of c0).1⟩
  have n0:=(capN_of c0).2
  simp only [limbsK_eq,decK_eq,itoaK_eq,ratK_eq,decTK_eq]
  refine ⟨fun ht=>?_,fun ht=>?_⟩
  ·cases ht
  ·exact nprint_c h0 (by omega)
 ·cases h2
def pIMake_o:List V→Bool
 | [.o (.c ⟨.bool,t0⟩),.o (.c ⟨.nat,a1⟩)]=>true && capN a1 && true
 | _=>false
def pIMake_r:List V→Option (List V0)
 | [.o (.c ⟨.bool,t0⟩),.o (.c ⟨.nat,a1⟩)]=>some [.agg [⟨.bool,decide (sg t0 (val a1)<0)⟩,⟨.nat,limbsK (sg t0 (val a1)).natAbs⟩]]
 | _=>none
theorem pIMake_p:Prim.OK 130 ⟨false,pIMake_o,pIMake_r⟩:=by
 intro args l h h2
 simp only [pIMake_r]at h2
 split at h2
 ·rename_i t0 a1
  cases h2
  simp only [pIMake_o,Bool.and_eq_true]at h
  obtain ⟨⟨c0,c1⟩,h⟩:=h
  have h1:IsN (.nat a1) (val a1):=⟨a1,rfl,rfl,(capN_of c1).1⟩
  have n1:=(capN_of c1).2
  simp only [limbsK_eq,decK_eq,itoaK_eq,ratK_eq,decTK_eq]
  refine ⟨fun ht=>?_,fun ht=>?_⟩
  ·cases ht
  ·exact imake_c t0 h1
 ·cases h2
def pISign_o:List V→Bool
 | [.o (.agg [⟨.bool,t0⟩,⟨.nat,a0⟩])]=>capN a0 && true
 | _=>false
def pISign_r:List V→Option (List V0)
 | [.o (.agg [⟨.bool,t0⟩,⟨.nat,a0⟩])]=>some [.c ⟨.int .i64,sgnI (sg t0 (val a0))⟩]
 | _=>none
theorem pISign_p:Prim.OK 74 ⟨false,pISign_o,pISign_r⟩:=by
 intro args l h h2
 simp only [pISign_r]at h2
 split at h2
 ·rename_i t0 a0
  cases h2
  simp only [pISign_o,Bool.and_eq_true]at h
  obtain ⟨c0,h⟩:=h
  have h0:IsI (intA t0 a0) (sg t0 (val a0)):=⟨t0,a0,rfl,rfl,(capN_of c0).1⟩
  have n0:=(capN_of c0).2
  rw [←sg_abs t0 (val a0)]at n0
  refine ⟨fun ht=>?_,fun ht=>?_⟩
  ·cases ht
  ·exact isign_c h0
 ·cases h2
def pIOf_o:List V→Bool
 | [.o (.c ⟨.int .i64,z0⟩)]=>capI z0 && true
 | _=>false
def pIOf_r:List V→Option (List V0)
 | [.o (.c ⟨.int .i64,z0⟩)]=>some [.agg [⟨.bool,decide (z0<0)⟩,⟨.nat,limbsK (z0).natAbs⟩]]
 | _=>none
theorem pIOf_p:Prim.OK 61 ⟨false,pIOf_o,pIOf_r⟩:=by
 intro args l h h2
 simp only [pIOf_r]at h2
 split at h2
 ·rename_i z0
  cases h2
  simp only [pIOf_o,Bool.and_eq_true]at h
  obtain ⟨c0,h⟩:=h
  have h0:=capI_of c0
  simp only [limbsK_eq,decK_eq,itoaK_eq,ratK_eq,decTK_eq]
  refine ⟨fun ht=>?_,fun ht=>?_⟩
  ·cases ht
  ·exact iof_c z0 h0.1 h0.2
 ·cases h2
def pIAdd_o:List V→Bool
 | [.o (.agg [⟨.bool,t0⟩,⟨.nat,a0⟩]),.o (.agg [⟨.bool,t1⟩,⟨.nat,a1⟩])]=>capN a0 && capN a1 && true
 | _=>false
def pIAdd_r:List V→Option (List V0)
 | [.o (.agg [⟨.bool,t0⟩,⟨.nat,a0⟩]),.o (.agg [⟨.bool,t1⟩,⟨.nat,a1⟩])]=>some [.agg [⟨.bool,decide ((sg t0 (val a0)+sg t1 (val a1))<0)⟩,⟨.nat,limbsK ((sg t0 (val a0)+sg t1 (val a1))).natAbs⟩]]
 | _=>none
theorem pIAdd_p:Prim.OK 157 ⟨false,pIAdd_o,pIAdd_r⟩:=by
 intro args l h h2
 simp only [pIAdd_r]at h2
 split at h2
 ·rename_i t0 a0 t1 a1
  cases h2
  simp only [pIAdd_o,Bool.and_eq_true]at h
  obtain ⟨⟨c0,c1⟩,h⟩:=h
  have h0:IsI (intA t0 a0) (sg t0 (val a0)):=⟨t0,a0,rfl,rfl,(capN_of c0).1⟩
  have n0:=(capN_of c0).2
  rw [←sg_abs t0 (val a0)]at n0
  have h1:IsI (intA t1 a1) (sg t1 (val a1)):=⟨t1,a1,rfl,rfl,(capN_of c1).1⟩
  have n1:=(capN_of c1).2
  rw [←sg_abs t1 (val a1)]at n1
  simp only [limbsK_eq,decK_eq,itoaK_eq,ratK_eq,decTK_eq]
  refine ⟨fun ht=>?_,fun ht=>?_⟩
  ·cases ht
  ·exact iadd_c h0 h1 (by omega)
 ·cases h2
def pIMul_o:List V→Bool
 | [.o (.agg [⟨.bool,t0⟩,⟨.nat,a0⟩]),.o (.agg [⟨.bool,t1⟩,⟨.nat,a1⟩])]=>capN a0 && capN a1 && true
 | _=>false
def pIMul_r:List V→Option (List V0)
 | [.o (.agg [⟨.bool,t0⟩,⟨.nat,a0⟩]),.o (.agg [⟨.bool,t1⟩,⟨.nat,a1⟩])]=>some [.agg [⟨.bool,decide ((sg t0 (val a0)*sg t1 (val a1))<0)⟩,⟨.nat,limbsK ((sg t0 (val a0)*sg t1 (val a1))).natAbs⟩]]
 | _=>none
theorem pIMul_p:Prim.OK 121 ⟨false,pIMul_o,pIMul_r⟩:=by
 intro args l h h2
 simp only [pIMul_r]at h2
 split at h2
 ·rename_i t0 a0 t1 a1
  cases h2
  simp only [pIMul_o,Bool.and_eq_true]at h
  obtain ⟨⟨c0,c1⟩,h⟩:=h
  have h0:IsI (intA t0 a0) (sg t0 (val a0)):=⟨t0,a0,rfl,rfl,(capN_of c0).1⟩
  have n0:=(capN_of c0).2
  rw [←sg_abs t0 (val a0)]at n0
  have h1:IsI (intA t1 a1) (sg t1 (val a1)):=⟨t1,a1,rfl,rfl,(capN_of c1).1⟩
  have n1:=(capN_of c1).2
  rw [←sg_abs t1 (val a1)]at n1
  simp only [limbsK_eq,decK_eq,itoaK_eq,ratK_eq,decTK_eq]
  refine ⟨fun ht=>?_,fun ht=>?_⟩
  ·cases ht
  ·exact imul_c h0 h1 (by omega)
 ·cases h2
def pIPrint_o:List V→Bool
 | [.o (.agg [⟨.bool,t0⟩,⟨.nat,a0⟩])]=>capN a0 && true
 | _=>false
def pIPrint_r:List V→Option (List V0)
 | [.o (.agg [⟨.bool,t0⟩,⟨.nat,a0⟩])]=>some [.c ⟨.str,itoaK (sg t0 (val a0))⟩]
 | _=>none
theorem pIPrint_p:Prim.OK 60 ⟨false,pIPrint_o,pIPrint_r⟩:=by
 intro args l h h2
 simp only [pIPrint_r]at h2
 split at h2
 ·rename_i t0 a0
  cases h2
  simp only [pIPrint_o,Bool.and_eq_true]at h
  obtain ⟨c0,h⟩:=h
  have h0:IsI (intA t0 a0) (sg t0 (val a0)):=⟨t0,a0,rfl,rfl,(capN_of c0).1⟩
  have n0:=(capN_of c0).2
  rw [←sg_abs t0 (val a0)]at n0
  simp only [limbsK_eq,decK_eq,itoaK_eq,ratK_eq,decTK_eq]
  refine ⟨fun ht=>?_,fun ht=>?_⟩
  ·cases ht
  ·exact iprint_c h0
 ·cases h2
def pRNorm_o:List V→Bool
 | [.o (.agg [⟨.bool,t0⟩,⟨.nat,a0⟩,⟨.nat,b0⟩])]=>(capN a0 && capN b0) && true
 | _=>false
def pRNorm_r:List V→Option (List V0)
 | [.o (.agg [⟨.bool,t0⟩,⟨.nat,a0⟩,⟨.nat,b0⟩])]=>some [.agg [⟨.bool,decide (rn (pz (sg t0 (val a0)) (val b0)) (pd (val b0))<0)⟩,⟨.nat,limbsK (rn (pz (sg t0 (val a0)) (val b0)) (pd (val b0))).natAbs⟩,⟨.nat,limbsK (rd (pz (sg t0 (val a0)) (val b0)) (pd (val b0)))⟩]]
 | _=>none
theorem pRNorm_p:Prim.OK 56 ⟨false,pRNorm_o,pRNorm_r⟩:=by
 intro args l h h2
 simp only [pRNorm_r]at h2
 split at h2
 ·rename_i t0 a0 b0
  cases h2
  simp only [pRNorm_o,Bool.and_eq_true]at h
  obtain ⟨c0,h⟩:=h
  have h0:IsR (ratA t0 a0 b0) (sg t0 (val a0)) (val b0):=⟨t0,a0,b0,rfl,rfl,rfl,(capN_of c0.1).1,(capN_of c0.2).1⟩
  have n0:=(capN_of c0.1).2
  rw [←sg_abs t0 (val a0)]at n0
  have m0:=(capN_of c0.2).2
  simp only [limbsK_eq,decK_eq,itoaK_eq,ratK_eq,decTK_eq]
  refine ⟨fun ht=>?_,fun ht=>?_⟩
  ·cases ht
  ·exact rnorm_c h0
 ·cases h2
def pRMake_o:List V→Bool
 | [.o (.agg [⟨.bool,t0⟩,⟨.nat,a0⟩]),.o (.agg [⟨.bool,t1⟩,⟨.nat,a1⟩])]=>capN a0 && capN a1 && decide (sg t1 (val a1)≠0)
 | _=>false
def pRMake_r:List V→Option (List V0)
 | [.o (.agg [⟨.bool,t0⟩,⟨.nat,a0⟩]),.o (.agg [⟨.bool,t1⟩,⟨.nat,a1⟩])]=>some [.agg [⟨.bool,decide (rn (mz (sg t0 (val a0)) (sg t1 (val a1))) (sg t1 (val a1)).natAbs<0)⟩,⟨.nat,limbsK (rn (mz (sg t0 (val a0)) (sg t1 (val a1))) (sg t1 (val a1)).natAbs).natAbs⟩,⟨.nat,limbsK (rd (mz (sg t0 (val a0)) (sg t1 (val a1))) (sg t1 (val a1)).natAbs)⟩],.c ⟨.bool,true⟩]
 | _=>none
theorem pRMake_p:Prim.OK 138 ⟨false,pRMake_o,pRMake_r⟩:=by
 intro args l h h2
 simp only [pRMake_r]at h2
 split at h2
 ·rename_i t0 a0 t1 a1
  cases h2
  simp only [pRMake_o,Bool.and_eq_true]at h
  obtain ⟨⟨c0,c1⟩,h⟩:=h
  have h0:IsI (intA t0 a0) (sg t0 (val a0)):=⟨t0,a0,rfl,rfl,(capN_of c0).1⟩
  have n0:=(capN_of c0).2
  rw [←sg_abs t0 (val a0)]at n0
  have h1:IsI (intA t1 a1) (sg t1 (val a1)):=⟨t1,a1,rfl,rfl,(capN_of c1).1⟩
  have n1:=(capN_of c1).2
  rw [←sg_abs t1 (val a1)]at n1
  simp only [limbsK_eq,decK_eq,itoaK_eq,ratK_eq,decTK_eq]
  refine ⟨fun ht=>?_,fun ht=>?_⟩
  ·cases ht
  ·exact rmake_c h0 h1 (of_decide_eq_true h)
 ·cases h2
def pRRed_o:List V→Bool
 | [.o (.agg [⟨.bool,t0⟩,⟨.nat,a0⟩]),.o (.c ⟨.nat,a1⟩)]=>capN a0 && capN a1 && Nat.blt 0 (val a1)
 | _=>false
def pRRed_r:List V→Option (List V0)
 | [.o (.agg [⟨.bool,t0⟩,⟨.nat,a0⟩]),.o (.c ⟨.nat,a1⟩)]=>some [.agg [⟨.bool,decide (rn (sg t0 (val a0)) (val a1)<0)⟩,⟨.nat,limbsK (rn (sg t0 (val a0)) (val a1)).natAbs⟩,⟨.nat,limbsK (rd (sg t0 (val a0)) (val a1))⟩]]
 | _=>none
theorem pRRed_p:Prim.OK 123 ⟨false,pRRed_o,pRRed_r⟩:=by
 intro args l h h2
 simp only [pRRed_r]at h2
 split at h2
 ·rename_i t0 a0 a1
  cases h2
  simp only [pRRed_o,Bool.and_eq_true]at h
  obtain ⟨⟨c0,c1⟩,h⟩:=h
  have h0:IsI (intA t0 a0) (sg t0 (val a0)):=⟨t0,a0,rfl,rfl,(capN_of c0).1⟩
  have n0:=(capN_of c0).2
  rw [←sg_abs t0 (val a0)]at n0
  have h1:IsN (.nat a1) (val a1):=⟨a1,rfl,rfl,(capN_of c1).1⟩
  have n1:=(capN_of c1).2
  simp only [limbsK_eq,decK_eq,itoaK_eq,ratK_eq,decTK_eq]
  refine ⟨fun ht=>?_,fun ht=>?_⟩
  ·cases ht
  ·exact reduce_c h0 h1 (blt_of h)
 ·cases h2
def pRPrint_o:List V→Bool
 | [.o (.agg [⟨.bool,t0⟩,⟨.nat,a0⟩,⟨.nat,b0⟩])]=>(capN a0 && capN b0) && true
 | _=>false
def pRPrint_r:List V→Option (List V0)
 | [.o (.agg [⟨.bool,t0⟩,⟨.nat,a0⟩,⟨.nat,b0⟩])]=>some [.c ⟨.str,ratK (rn (pz (sg t0 (val a0)) (val b0)) (pd (val b0))) (rd (pz (sg t0 (val a0)) (val b0)) (pd (val b0)))⟩]
 | _=>none
theorem pRPrint_p:Prim.OK 27 ⟨false,pRPrint_o,pRPrint_r⟩:=by
 intro args l h h2
 simp only [pRPrint_r]at h2
 split at h2
 ·rename_i t0 a0 b0
  cases h2
  simp only [pRPrint_o,Bool.and_eq_true]at h
  obtain ⟨c0,h⟩:=h
  have h0:IsR (ratA t0 a0 b0) (sg t0 (val a0)) (val b0):=⟨t0,a0,b0,rfl,rfl,rfl,(capN_of c0.1).1,(capN_of c0.2).1⟩
  have n0:=(capN_of c0.1).2
  rw [←sg_abs t0 (val a0)]at n0
  have m0:=(capN_of c0.2).2
  simp only [limbsK_eq,decK_eq,itoaK_eq,ratK_eq,decTK_eq]
  refine ⟨fun ht=>?_,fun ht=>?_⟩
  ·cases ht
  ·exact rprint_c h0 (by omega)
 ·cases h2
def pDPrint_o:List V→Bool
 | [.o (.agg [⟨.bool,t0⟩,⟨.nat,a0⟩,⟨.int .i64,p0⟩])]=>capN a0 && capP p0
 | _=>false
def pDPrint_r:List V→Option (List V0)
 | [.o (.agg [⟨.bool,t0⟩,⟨.nat,a0⟩,⟨.int .i64,p0⟩])]=>some [.c ⟨.str,decTK (sg t0 (val a0)) p0.toNat⟩,.c ⟨.int .i64,0⟩]
 | _=>none
theorem pDPrint_p:Prim.OK 99 ⟨false,pDPrint_o,pDPrint_r⟩:=by
 intro args l h h2
 simp only [pDPrint_r]at h2
 split at h2
 ·rename_i t0 a0 p0
  cases h2
  simp only [pDPrint_o,Bool.and_eq_true]at h
  obtain ⟨c0,h⟩:=h
  have h0:IsI (intA t0 a0) (sg t0 (val a0)):=⟨t0,a0,rfl,rfl,(capN_of c0).1⟩
  have n0:=(capN_of c0).2
  rw [←sg_abs t0 (val a0)]at n0
  simp only [limbsK_eq,decK_eq,itoaK_eq,ratK_eq,decTK_eq]
  refine ⟨fun ht=>?_,fun ht=>?_⟩
  ·cases ht
  ·obtain ⟨k,rfl,hk⟩:=capP_of h;exact dprint_c h0 k hk
 ·cases h2
def pDRound_o:List V→Bool
 | [.o (.agg [⟨.bool,t0⟩,⟨.nat,a0⟩,⟨.nat,b0⟩]),.o (.c ⟨.int .i64,z1⟩),.o (.c ⟨.int .i64,z2⟩)]=>(capN a0 && capN b0) && capI z1 && capI z2 && (capP z1 && (decide (1≤z2) && decide (z2≤7)))
 | _=>false
def pDRound_r:List V→Option (List V0)
 | [.o (.agg [⟨.bool,t0⟩,⟨.nat,a0⟩,⟨.nat,b0⟩]),.o (.c ⟨.int .i64,z1⟩),.o (.c ⟨.int .i64,z2⟩)]=>some [.agg [⟨.bool,decide (rndU (rn (pz (sg t0 (val a0)) (val b0)) (pd (val b0))) (rd (pz (sg t0 (val a0)) (val b0)) (pd (val b0))) z1.toNat z2<0)⟩,⟨.nat,limbsK (rndU (rn (pz (sg t0 (val a0)) (val b0)) (pd (val b0))) (rd (pz (sg t0 (val a0)) (val b0)) (pd (val b0))) z1.toNat z2).natAbs⟩,⟨.int .i64,z1⟩],.c ⟨.int .i64,0⟩]
 | _=>none
theorem pDRound_p:Prim.OK 98 ⟨false,pDRound_o,pDRound_r⟩:=by
 intro args l h h2
 simp only [pDRound_r]at h2
 split at h2
 ·rename_i t0 a0 b0 z1 z2
  cases h2
  simp only [pDRound_o,Bool.and_eq_true]at h
  obtain ⟨⟨⟨c0,c1⟩,c2⟩,h⟩:=h
  have h0:IsR (ratA t0 a0 b0) (sg t0 (val a0)) (val b0):=⟨t0,a0,b0,rfl,rfl,rfl,(capN_of c0.1).1,(capN_of c0.2).1⟩
  have n0:=(capN_of c0.1).2
  rw [←sg_abs t0 (val a0)]at n0
  have m0:=(capN_of c0.2).2
  have h1:=capI_of c1
  have h2:=capI_of c2
  simp only [limbsK_eq,decK_eq,itoaK_eq,ratK_eq,decTK_eq]
  refine ⟨fun ht=>?_,fun ht=>?_⟩
  ·cases ht
  ·obtain ⟨k,rfl,hk⟩:=capP_of h.1;exact dround_c h0 k z2 hk (of_decide_eq_true h.2.1) (of_decide_eq_true h.2.2) (by omega) (by omega)
 ·cases h2
end Go.Proofs.YtcggnmddcbhchaaGreatDoor
