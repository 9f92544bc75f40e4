import Derived.Test.YtcaahphghaddgaaGreatDoorJXG
import Derived.Test.YtcaahphghaddgaaGreatDoorJWa
/- Text XK. -/
set_option linter.unusedSimpArgs false
set_option linter.unusedVariables false
namespace Go.Proofs.YtcaahphghaddgaaGreatDoor
open Go.RowKit Lim
def limbsF:Nat→Nat→List Nat
 | 0,_=>[]
 | k+1,n=>bif Nat.beq n 0 then [] else (n % 4294967296) :: limbsF k (n / 4294967296)
def limbsK (n:Nat):List Nat:=limbsF (Nat.log2 n / 32+1) n
theorem limbsF_eq:∀(k n:Nat),n<pw k→limbsF k n=limbs n
 | 0,n,h=>by
  have:n=0:=by simpa [pw]using h
  subst this;rw [limbs_zero];rfl
 | k+1,n,h=>by
  simp only [limbsF]
  cases hb:Nat.beq n 0 with
  | true=>have:=Nat.eq_of_beq_eq_true hb;subst this;rw [limbs_zero];rfl
  | false =>
   have hn:n≠0:=fun e=>by subst e;cases hb
   rw [cond_false,limbs_pos hn,limbsF_eq k (n / 4294967296) (by unfold pw at h ⊢;rw [Nat.pow_succ]at h;omega)]
theorem lt_log (n:Nat):n<pw (Nat.log2 n / 32+1):=by
 have h1:n<2 ^ (Nat.log2 n+1):=Nat.lt_log2_self
 have h2:pw (Nat.log2 n / 32+1)=2 ^ (32*(Nat.log2 n / 32+1)):=by unfold pw;rw [Nat.pow_mul]
 rw [h2]
 exact Nat.lt_of_lt_of_le h1 (Nat.pow_le_pow_right (by decide) (by omega))
theorem limbsK_eq (n:Nat):limbsK n=limbs n:=limbsF_eq _ _ (lt_log n)
theorem nlen_log (n:Nat):nlen n≤Nat.log2 n / 32+1:=nlen_le (lt_log n)
def decF:Nat→Nat→List UInt8
 | 0,_=>[]
 | k+1,u=>bif Nat.blt u 10 then [UInt8.ofNat (48+u)] else decF k (u / 10) ++ [UInt8.ofNat (48+u % 10)]
def decK (u:Nat):List UInt8:=decF (Nat.log2 u+1) u
theorem decF_eq:∀(k n:Nat),n<2 ^ k→0<k→decF k n=Lib.decDigits n
 | 0,_,_,h=>by cases h
 | k+1,n,h,_=>by
  simp only [decF]
  cases hb:Nat.blt n 10 with
  | true =>
   have hlt:n<10:=blt_of hb
   rw [Lib.decDigits,dif_pos hlt];rfl
  | false =>
   have hlt:¬n<10:=fun hh=>by
    have:Nat.blt n 10=true:=Nat.ble_eq_true_of_le hh
    rw [hb]at this;cases this
   have hk:0<k:=by cases k with|zero=>simp at h;omega|succ=>omega
   rw [cond_false,Lib.decDigits,dif_neg hlt,decF_eq k (n / 10) (by rw [Nat.pow_succ]at h;omega) hk]
theorem decK_eq (n:Nat):decK n=Lib.decDigits n:=decF_eq _ _ Nat.lt_log2_self (Nat.succ_pos _)
def itoaK (z:Int):List UInt8:=bif decide (z<0) then 45 :: decK z.natAbs else decK z.toNat
theorem itoaK_eq (z:Int):itoaK z=Lib.itoa z:=by
 unfold itoaK Lib.itoa
 simp only [decK_eq]
 by_cases h:z<0 <;> simp [h]
def ratK (z:Int) (d:Nat):List UInt8:=bif Nat.beq d 1 then itoaK z else itoaK z ++ [47] ++ decK d
theorem ratK_eq (z:Int) (d:Nat):ratK z d=ratTx z d:=by
 unfold ratK ratTx
 simp only [itoaK_eq,decK_eq]
 by_cases h:d=1
 ·subst h;rfl
 ·have:Nat.beq d 1=false:=by rw [beq_iff];simpa using h
  rw [this,if_neg h];rfl
def dec1K (n p:Nat):List UInt8:=bif Nat.ble (decK n).length p then List.replicate (p+1-(decK n).length) 48 ++ decK n else decK n
def dec2K (n p:Nat):List UInt8:=bif Nat.blt 0 p then (dec1K n p).take ((dec1K n p).length-p) ++ [46] ++ (dec1K n p).drop ((dec1K n p).length-p) else dec1K n p
def decTK (z:Int) (p:Nat):List UInt8:=bif decide (z<0) then 45 :: dec2K z.natAbs p else dec2K z.natAbs p
theorem dec1K_eq (n p:Nat):dec1K n p=decT1 n p:=by
 unfold dec1K decT1
 simp only [decK_eq]
 cases h:Nat.ble (Lib.decDigits n).length p with
 | true=>rw [cond_true,if_pos (ble_of h)]
 | false=>rw [cond_false,if_neg (fun hh=>by rw [Nat.ble_eq_true_of_le hh]at h;cases h)]
theorem dec2K_eq (n p:Nat):dec2K n p=decT2 n p:=by
 unfold dec2K decT2
 simp only [dec1K_eq]
 cases h:Nat.blt 0 p with
 | true=>rw [cond_true,if_pos (blt_of h)]
 | false=>rw [cond_false,if_neg (fun hh=>by have:Nat.blt 0 p=true:=Nat.ble_eq_true_of_le hh;rw [this]at h;cases h)]
theorem decTK_eq (z:Int) (p:Nat):decTK z p=decTx z p:=by
 unfold decTK decTx
 simp only [dec2K_eq]
 by_cases h:z<0 <;> simp [h]
def capN (l:List Nat):Bool:=Nat.blt l.length 1099511627776 && Nat.blt (Nat.log2 (val l)) 1099511627776
theorem capN_of {l:List Nat} (h:capN l=true):l.length<1099511627776∧nlen (val l)≤34359738369:=by
 obtain ⟨h1,h2⟩:=band_of h
 have h2:=blt_of h2
 have:=nlen_log (val l)
 exact ⟨blt_of h1,by omega⟩
def capU (z:Int):Bool:=decide (0≤z) && decide (z<18446744073709551616)
theorem capU_of {z:Int} (h:capU z=true):∃k:Nat,z=(k:Int)∧k<18446744073709551616:=by
 obtain ⟨h1,h2⟩:=band_of h
 have h1:=of_decide_eq_true h1
 have h2:=of_decide_eq_true h2
 exact ⟨z.toNat,by omega,by omega⟩
structure Prim where
 t:Bool
 ok:List V→Bool
 res:List V→Option (List V0)
def Prim.ask (p:Prim):Ask1:=fun args g=>bif args.all V.plain && p.ok args then (p.res args).bind (decR g) else none
def Prim.OK (f:FuncId) (p:Prim):Prop:=∀args l,p.ok args=true→p.res args=some l→(p.t=true→AT f (args.map V.av) (packA (l.map V0.av)))∧(p.t=false→AC f (args.map V.av) (packA (l.map V0.av)))
theorem Prim.OK.ac {f:FuncId} {p:Prim} (h:p.OK f) {args:List V} {g:Sig} {x:denL g.ts} (hx:p.ask args g=some x):(p.t=true∧AT f (args.map V.av) (resO g x))∨(p.t=false∧AC f (args.map V.av) (resO g x)):=by
 obtain ⟨h1,hx⟩:=bif_of hx
 obtain ⟨_,h1⟩:=band_of h1
 obtain ⟨l,h2,h3⟩:=bind_of hx
 rw [decR_some h3]
 obtain ⟨q1,q2⟩:=h args l h1 h2
 cases ht:p.t with
 | true=>exact .inl ⟨rfl,q1 ht⟩
 | false=>exact .inr ⟨rfl,q2 ht⟩
theorem Prim.ask_plain {p:Prim} {args:List V} {g:Sig} {x:denL g.ts} (hx:p.ask args g=some x):args.all V.plain=true:=(band_of (bif_of hx).1).1
def pNOf_o:List V→Bool
 | [.o (.c ⟨.int .u64,z0⟩)]=>true && capU z0
 | _=>false
def pNOf_r:List V→Option (List V0)
 | [.o (.c ⟨.int .u64,z0⟩)]=>some [.c ⟨.nat,limbsK (z0.toNat)⟩]
 | _=>none
theorem pNOf_p:Prim.OK 136 ⟨false,pNOf_o,pNOf_r⟩:=by
 intro args l h h2
 simp only [pNOf_r]at h2
 split at h2
 ·rename_i z0
  cases h2
  simp only [pNOf_o,Bool.and_eq_true]at h
  obtain ⟨c0,h⟩:=h
  simp only [limbsK_eq,decK_eq,itoaK_eq,ratK_eq,decTK_eq]
  refine ⟨fun ht=>?_,fun ht=>?_⟩
  ·cases ht
  ·obtain ⟨k,rfl,hk⟩:=capU_of h;exact nof_c k hk
 ·cases h2
def pNCmp_o:List V→Bool
 | [.o (.c ⟨.nat,a0⟩),.o (.c ⟨.nat,a1⟩)]=>capN a0 && capN a1 && true
 | _=>false
def pNAdd_o:List V→Bool
 | [.o (.c ⟨.nat,a0⟩),.o (.c ⟨.nat,a1⟩)]=>capN a0 && capN a1 && true
 | _=>false
def pNAdd_r:List V→Option (List V0)
 | [.o (.c ⟨.nat,a0⟩),.o (.c ⟨.nat,a1⟩)]=>some [.c ⟨.nat,limbsK (val a0+val a1)⟩]
 | _=>none
theorem pNAdd_p:Prim.OK 137 ⟨false,pNAdd_o,pNAdd_r⟩:=by
 intro args l h h2
 simp only [pNAdd_r]at h2
 split at h2
 ·rename_i a0 a1
  cases h2
  simp only [pNAdd_o,Bool.and_eq_true]at h
  obtain ⟨⟨c0,c1⟩,h⟩:=h
  have h0:IsN (.nat a0) (val a0):=⟨a0,rfl,rfl,(capN_of c0).1⟩
  have n0:=(capN_of c0).2
  have h1:IsN (.nat a1) (val a1):=⟨a1,rfl,rfl,(capN_of c1).1⟩
  have n1:=(capN_of c1).2
  simp only [limbsK_eq,decK_eq,itoaK_eq,ratK_eq,decTK_eq]
  refine ⟨fun ht=>?_,fun ht=>?_⟩
  ·cases ht
  ·exact nadd_c h0 h1
 ·cases h2
def pNMul_o:List V→Bool
 | [.o (.c ⟨.nat,a0⟩),.o (.c ⟨.nat,a1⟩)]=>capN a0 && capN a1 && true
 | _=>false
def pNMul_r:List V→Option (List V0)
 | [.o (.c ⟨.nat,a0⟩),.o (.c ⟨.nat,a1⟩)]=>some [.c ⟨.nat,limbsK (val a0*val a1)⟩]
 | _=>none
theorem pNMul_p:Prim.OK 138 ⟨false,pNMul_o,pNMul_r⟩:=by
 intro args l h h2
 simp only [pNMul_r]at h2
 split at h2
 ·rename_i a0 a1
  cases h2
  simp only [pNMul_o,Bool.and_eq_true]at h
  obtain ⟨⟨c0,c1⟩,h⟩:=h
  have h0:IsN (.nat a0) (val a0):=⟨a0,rfl,rfl,(capN_of c0).1⟩
  have n0:=(capN_of c0).2
  have h1:IsN (.nat a1) (val a1):=⟨a1,rfl,rfl,(capN_of c1).1⟩
  have n1:=(capN_of c1).2
  simp only [limbsK_eq,decK_eq,itoaK_eq,ratK_eq,decTK_eq]
  refine ⟨fun ht=>?_,fun ht=>?_⟩
  ·cases ht
  ·exact nmul_c h0 h1
 ·cases h2
end Go.Proofs.YtcaahphghaddgaaGreatDoor
