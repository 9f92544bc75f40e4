import Derived.Test.YtcaahphghaddgaaGreatDoorGXG
import Derived.Test.YtcaahphghaddgaaGreatDoorGWa
/- Text XK. -/
set_option linter.unusedSimpArgs false
set_option linter.unusedVariables false
namespace Go.Proofs.YtcaahphghaddgaaGreatDoor
open Go.RowKit Lim
def limbsF:Nat→Nat→List Nat
 | 0,_=>[]
 | k+1,n=>bif Nat.beq n 0 then [] else (n % 4294967296) :: limbsF k (n / 4294967296)
def limbsK (n:Nat):List Nat:=limbsF (Nat.log2 n / 32+1) n
theorem limbsF_eq:∀(k n:Nat),n<pw k→limbsF k n=limbs n
 | 0,n,h=>by
  have:n=0:=by simpa [pw]using h
  subst this;rw [limbs_zero];rfl
 | k+1,n,h=>by
  simp only [limbsF]
  cases hb:Nat.beq n 0 with
  | true=>have:=Nat.eq_of_beq_eq_true hb;subst this;rw [limbs_zero];rfl
  | false =>
   have hn:n≠0:=fun e=>by subst e;cases hb
   rw [cond_false,limbs_pos hn,limbsF_eq k (n / 4294967296) (by unfold pw at h ⊢;rw [Nat.pow_succ]at h;omega)]
theorem lt_log (n:Nat):n<pw (Nat.log2 n / 32+1):=by
 have h1:n<2 ^ (Nat.log2 n+1):=Nat.lt_log2_self
 have h2:pw (Nat.log2 n / 32+1)=2 ^ (32*(Nat.log2 n / 32+1)):=by unfold pw;rw [Nat.pow_mul]
 rw [h2]
 exact Nat.lt_of_lt_of_le h1 (Nat.pow_le_pow_right (by decide) (by omega))
theorem limbsK_eq (n:Nat):limbsK n=limbs n:=limbsF_eq _ _ (lt_log n)
def decF:Nat→Nat→List UInt8
 | 0,_=>[]
 | k+1,u=>bif Nat.blt u 10 then [UInt8.ofNat (48+u)] else decF k (u / 10) ++ [UInt8.ofNat (48+u % 10)]
def decK (u:Nat):List UInt8:=decF (Nat.log2 u+1) u
theorem decF_eq:∀(k n:Nat),n<2 ^ k→0<k→decF k n=Lib.decDigits n
 | 0,_,_,h=>by cases h
 | k+1,n,h,_=>by
  simp only [decF]
  cases hb:Nat.blt n 10 with
  | true =>
   have hlt:n<10:=blt_of hb
   rw [Lib.decDigits,dif_pos hlt];rfl
  | false =>
   have hlt:¬n<10:=fun hh=>by
    have:Nat.blt n 10=true:=Nat.ble_eq_true_of_le hh
    rw [hb]at this;cases this
   have hk:0<k:=by cases k with|zero=>simp at h;omega|succ=>omega
   rw [cond_false,Lib.decDigits,dif_neg hlt,decF_eq k (n / 10) (by rw [Nat.pow_succ]at h;omega) hk]
theorem decK_eq (n:Nat):decK n=Lib.decDigits n:=decF_eq _ _ Nat.lt_log2_self (Nat.succ_pos _)
structure Prim where
 t:Bool
 ok:List V→Bool
 res:List V→Option (List V0)
def Prim.ask (p:Prim):Ask1:=fun args g=>bif args.all V.plain && p.ok args then (p.res args).bind (decR g) else none
def Prim.OK (f:FuncId) (p:Prim):Prop:=∀args l,p.ok args=true→p.res args=some l→(p.t=true→AT f (args.map V.av) (packA (l.map V0.av)))∧(p.t=false→AC f (args.map V.av) (packA (l.map V0.av)))
theorem Prim.OK.ac {f:FuncId} {p:Prim} (h:p.OK f) {args:List V} {g:Sig} {x:denL g.ts} (hx:p.ask args g=some x):(p.t=true∧AT f (args.map V.av) (resO g x))∨(p.t=false∧AC f (args.map V.av) (resO g x)):=by
 obtain ⟨h1,hx⟩:=bif_of hx
 obtain ⟨_,h1⟩:=band_of h1
 obtain ⟨l,h2,h3⟩:=bind_of hx
 rw [decR_some h3]
 obtain ⟨q1,q2⟩:=h args l h1 h2
 cases ht:p.t with
 | true=>exact .inl ⟨rfl,q1 ht⟩
 | false=>exact .inr ⟨rfl,q2 ht⟩
theorem Prim.ask_plain {p:Prim} {args:List V} {g:Sig} {x:denL g.ts} (hx:p.ask args g=some x):args.all V.plain=true:=(band_of (bif_of hx).1).1
end Go.Proofs.YtcaahphghaddgaaGreatDoor
