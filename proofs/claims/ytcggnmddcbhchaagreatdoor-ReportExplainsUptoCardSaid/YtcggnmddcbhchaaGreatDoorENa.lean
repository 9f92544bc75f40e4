import Derived.Test.YtcggnmddcbhchaaGreatDoorRows
import Derived.WalkKit
import Derived.WalkSpells
import Derived.Below
import Derived.Laws.OwnMore
import Derived.Deep.AppendLies
import Derived.Deep.Draws
import Derived.Lib.Hide
import Derived.Deep.OwnRows
import Derived.Laws.Rows
import Derived.LoopTactic
import Derived.Outline
import Derived.Deep.QuietTactic
import Derived.BigQuiet
import Derived.OwnWalk
/- Text Na. -/
set_option linter.unusedSimpArgs false
set_option linter.unusedVariables false
namespace Go.Proofs.YtcggnmddcbhchaaGreatDoor.Lim
def pw (k:Nat):Nat:=4294967296 ^ k
theorem pw_zero:pw 0=1:=rfl
theorem pw_succ (k:Nat):pw (k+1)=4294967296*pw k:=by unfold pw;rw [Nat.pow_succ];omega
theorem pw_add (a b:Nat):pw (a+b)=pw a*pw b:=by unfold pw;rw [Nat.pow_add]
theorem pw_pos (k:Nat):0<pw k:=Nat.pos_of_ne_zero (by unfold pw;simp [Nat.pow_eq_zero])
theorem pw_mono {a b:Nat} (h:a≤b):pw a≤pw b:=Nat.pow_le_pow_right (by omega) h
def val:List Nat→Nat
 | []=>0
 | x :: xs=>x+4294967296*val xs
def Dig (l:List Nat):Prop:=∀x∈l,x<4294967296
theorem val_nil:val []=0:=rfl
theorem val_cons (x:Nat) (xs:List Nat):val (x :: xs)=x+4294967296*val xs:=rfl
theorem val_append (l m:List Nat):val (l ++ m)=val l+pw l.length*val m:=by
 induction l with
 | nil=>simp [val,pw]
 | cons x xs ih=>rw [List.cons_append,val_cons,val_cons,ih,List.length_cons,pw_succ];grind
theorem dig_nil:Dig []:=by intro x hx;cases hx
theorem dig_cons {x:Nat} {xs:List Nat}:Dig (x :: xs) ↔ x<4294967296∧Dig xs:=by simp [Dig]
theorem dig_append {l m:List Nat}:Dig (l ++ m) ↔ Dig l∧Dig m:=by
 unfold Dig
 constructor
 ·intro h;exact ⟨fun x hx=>h x (by simp [hx]),fun x hx=>h x (by simp [hx])⟩
 ·rintro ⟨h1,h2⟩ x hx
  rcases List.mem_append.1 hx with h|h
  ·exact h1 x h
  ·exact h2 x h
theorem dig_take {l:List Nat} (h:Dig l) (k:Nat):Dig (l.take k):=fun x hx=>h x (List.mem_of_mem_take hx)
theorem dig_drop {l:List Nat} (h:Dig l) (k:Nat):Dig (l.drop k):=fun x hx=>h x (List.mem_of_mem_drop hx)
theorem dig_get {l:List Nat} (h:Dig l) {k:Nat} (hk:k<l.length):l[k]<4294967296:=h _ (List.getElem_mem hk)
theorem dig_set {l:List Nat} (h:Dig l) (k:Nat) {x:Nat} (hx:x<4294967296):Dig (l.set k x):=by
 intro y hy
 rcases List.mem_or_eq_of_mem_set hy with h1|h1
 ·exact h y h1
 ·omega
theorem dig_replicate (n:Nat):Dig (List.replicate n 0):=by
 intro x hx
 rw [List.mem_replicate]at hx
 omega
theorem val_lt {l:List Nat} (h:Dig l):val l<pw l.length:=by
 induction l with
 | nil=>simp [val,pw]
 | cons x xs ih =>
  have h1:=dig_cons.1 h
  have:=ih h1.2
  rw [val_cons,List.length_cons,pw_succ]
  omega
theorem val_replicate (n:Nat):val (List.replicate n 0)=0:=by
 induction n with
 | zero=>rfl
 | succ n ih=>rw [List.replicate_succ,val_cons,ih]
theorem val_take_drop (l:List Nat) (k:Nat) (hk:k≤l.length):val l=val (l.take k)+pw k*val (l.drop k):=by
 have h:=val_append (l.take k) (l.drop k)
 rw [List.take_append_drop,List.length_take,Nat.min_eq_left hk]at h
 exact h
theorem val_take_succ (l:List Nat) (k:Nat) (hk:k<l.length):val (l.take (k+1))=val (l.take k)+pw k*l[k]:=by
 rw [List.take_succ_eq_append_getElem hk,val_append,List.length_take,Nat.min_eq_left (by omega),val_cons,val_nil];grind
theorem val_take_succ' (l:List Nat) (k:Nat):val (l.take (k+1))=val (l.take k)+pw k*l.getD k 0:=by
 rcases Nat.lt_or_ge k l.length with h|h
 ·rw [val_take_succ l k h,List.getD_eq_getElem?_getD,List.getElem?_eq_getElem h];rfl
 ·rw [List.take_of_length_le (by omega),List.take_of_length_le h,List.getD_eq_getElem?_getD,List.getElem?_eq_none h];simp
theorem dig_getD {l:List Nat} (h:Dig l) (k:Nat):l.getD k 0<4294967296:=by
 rcases Nat.lt_or_ge k l.length with g|g
 ·rw [List.getD_eq_getElem?_getD,List.getElem?_eq_getElem g];exact h _ (List.getElem_mem g)
 ·rw [List.getD_eq_getElem?_getD,List.getElem?_eq_none g];simp
theorem getD_of {l:List Nat} {k x:Nat} (h:k<l.length) (hx:l[k]=x):l.getD k 0=x:=by
 rw [List.getD_eq_getElem?_getD,List.getElem?_eq_getElem h,hx];rfl
theorem getD_out {l:List Nat} {k:Nat} (h:l.length≤k):l.getD k 0=0:=by
 rw [List.getD_eq_getElem?_getD,List.getElem?_eq_none h];rfl
theorem set_here (s:List Nat) (m x:Nat):(s ++ List.replicate (m+1) 0).set s.length x=(s ++ [x]) ++ List.replicate m 0:=by
 rw [List.set_append_right _ _ (Nat.le_refl _),Nat.sub_self,List.replicate_succ,List.set_cons_zero,List.append_assoc];rfl
theorem mid_get {pre q p post:List Nat} {i:Nat} (hq:q.length=i) (hi:i<p.length):(pre ++ (q ++ p.drop i) ++ post)[pre.length+i]? = some p[i]:=by
 rw [List.append_assoc,List.getElem?_append_right (by omega),Nat.add_sub_cancel_left,List.append_assoc,List.getElem?_append_right (by omega),hq,Nat.sub_self,List.drop_eq_getElem_cons hi]
 rfl
theorem mid_set {pre q p post:List Nat} {i:Nat} (hq:q.length=i) (hi:i<p.length) (x:Nat):(pre ++ (q ++ p.drop i) ++ post).set (pre.length+i) x=pre ++ ((q ++ [x]) ++ p.drop (i+1)) ++ post:=by
 rw [List.append_assoc,List.set_append_right _ _ (by omega),Nat.add_sub_cancel_left,List.append_assoc,List.set_append_right _ _ (by omega),hq,Nat.sub_self,List.drop_eq_getElem_cons hi,List.cons_append,List.set_cons_zero]
 simp
theorem val_snoc (s:List Nat) (x:Nat):val (s ++ [x])=val s+pw s.length*x:=by rw [val_append,val_cons,val_nil];simp
theorem dig_snoc {s:List Nat} {x:Nat} (h:Dig s) (hx:x<4294967296):Dig (s ++ [x]):=dig_append.2 ⟨h,dig_cons.2 ⟨hx,dig_nil⟩⟩
theorem val_drop_cons (l:List Nat) (k:Nat) (hk:k<l.length):val (l.drop k)=l[k]+4294967296*val (l.drop (k+1)):=by
 rw [List.drop_eq_getElem_cons hk,val_cons]
theorem val_set (l:List Nat) (k x:Nat) (hk:k<l.length):val (l.set k x)+pw k*l[k]=val l+pw k*x:=by
 induction l generalizing k with
 | nil=>simp at hk
 | cons y ys ih =>
  cases k with
  | zero=>simp [val_cons,pw_zero];omega
  | succ k =>
   have:=ih k (by simpa using hk)
   rw [List.set_cons_succ,val_cons,val_cons,List.getElem_cons_succ,pw_succ]
   grind
def Nrm (l:List Nat):Prop:=∀h:0<l.length,l[l.length-1]'(by omega)≠0
theorem nrm_nil:Nrm []:=by intro h;simp at h
theorem nrm_low {l:List Nat} (h:Nrm l) (hl:0<l.length):pw (l.length-1)≤val l:=by
 have h1:=val_take_drop l (l.length-1) (by omega)
 have h2:=val_drop_cons l (l.length-1) (by omega)
 have h3:=h hl
 have h4:1≤val (l.drop (l.length-1)):=by omega
 have:=Nat.mul_le_mul_left (pw (l.length-1)) h4
 omega
theorem nrm_zero {l:List Nat} (h:Nrm l) (hv:val l=0):l=[]:=by
 rcases Nat.eq_zero_or_pos l.length with h0|h0
 ·exact List.eq_nil_of_length_eq_zero h0
 ·have:=nrm_low h h0
  have:=pw_pos (l.length-1)
  omega
def limbs (n:Nat):List Nat:=if h:n=0 then [] else (n % 4294967296) :: limbs (n / 4294967296)
 termination_by n
 decreasing_by omega
theorem limbs_zero:limbs 0=[]:=by unfold limbs;simp
theorem limbs_pos {n:Nat} (h:n≠0):limbs n=(n % 4294967296) :: limbs (n / 4294967296):=by rw [limbs,dif_neg h]
theorem val_limbs (n:Nat):val (limbs n)=n:=by
 induction n using Nat.strongRecOn with
 | ind n ih =>
  by_cases h:n=0
  ·subst h;rw [limbs_zero];rfl
  ·rw [limbs_pos h,val_cons,ih _ (by omega)];omega
theorem dig_limbs (n:Nat):Dig (limbs n):=by
 induction n using Nat.strongRecOn with
 | ind n ih =>
  by_cases h:n=0
  ·subst h;rw [limbs_zero];exact dig_nil
  ·rw [limbs_pos h];exact dig_cons.2 ⟨by omega,ih _ (by omega)⟩
theorem limbs_eq_nil {n:Nat}:limbs n=[] ↔ n=0:=by
 constructor
 ·intro h;have:=val_limbs n;rw [h]at this;exact this.symm
 ·intro h;subst h;exact limbs_zero
theorem limbs_of {l:List Nat} (hd:Dig l) (hn:Nrm l):limbs (val l)=l:=by
 induction l with
 | nil=>exact limbs_zero
 | cons x xs ih =>
  have h1:=dig_cons.1 hd
  have hn':Nrm xs:=by
   intro h
   have:=hn (by simp)
   have e:(x :: xs)[(x :: xs).length-1]'(by simp)=xs[xs.length-1]'(by omega):=by
    rw [List.getElem_cons]
    simp only [List.length_cons,Nat.add_sub_cancel]
    rw [dif_neg (by omega)]
   rw [e]at this
   exact this
  have hne:val (x :: xs)≠0:=by
   intro h0
   have:=nrm_zero hn h0
   cases this
  rw [limbs_pos hne,val_cons]
  have e1:(x+4294967296*val xs) % 4294967296=x:=by omega
  have e2:(x+4294967296*val xs) / 4294967296=val xs:=by omega
  rw [e1,e2,ih h1.2 hn']
theorem nrm_limbs (n:Nat):Nrm (limbs n):=by
 induction n using Nat.strongRecOn with
 | ind n ih =>
  by_cases h:n=0
  ·subst h;rw [limbs_zero];exact nrm_nil
  ·intro hl
   have e:=limbs_pos h
   by_cases h2:n / 4294967296=0
   ·have e2:limbs n=[n % 4294967296]:=by rw [e,h2,limbs_zero]
    simp only [e2]
    simp
    omega
   ·have hp:0<(limbs (n / 4294967296)).length:=by
     rcases Nat.eq_zero_or_pos (limbs (n / 4294967296)).length with h0|h0
     ·exact absurd (limbs_eq_nil.1 (List.eq_nil_of_length_eq_zero h0)) h2
     ·exact h0
    have:=ih (n / 4294967296) (by omega) hp
    simp only [e,List.length_cons,Nat.add_sub_cancel]
    rw [List.getElem_cons,dif_neg (by omega)]
    exact this
def nlen (n:Nat):Nat:=(limbs n).length
theorem lt_nlen (n:Nat):n<pw (nlen n):=by
 have:=val_lt (dig_limbs n);rw [val_limbs]at this;exact this
theorem nlen_le {n k:Nat} (h:n<pw k):nlen n≤k:=by
 rcases Nat.lt_or_ge k (nlen n)with h1|h1
 ·have h2:=nrm_low (nrm_limbs n) (by unfold nlen at h1;omega)
  rw [val_limbs]at h2
  have:=pw_mono (a:=k) (b:=(limbs n).length-1) (by unfold nlen at h1;omega)
  omega
 ·exact h1
theorem nlen_mono {a b:Nat} (h:a≤b):nlen a≤nlen b:=nlen_le (Nat.lt_of_le_of_lt h (lt_nlen b))
theorem nlen_val {l:List Nat} (h:Dig l):nlen (val l)≤l.length:=nlen_le (val_lt h)
theorem nlen_mul (a b:Nat):nlen (a*b)≤nlen a+nlen b:=by
 apply nlen_le
 rw [pw_add]
 exact Nat.mul_lt_mul'' (lt_nlen a) (lt_nlen b)
theorem nlen_add (a b:Nat):nlen (a+b)≤max (nlen a) (nlen b)+1:=by
 apply nlen_le
 have h1:=lt_nlen a
 have h2:=lt_nlen b
 have h3:=pw_mono (Nat.le_max_left (nlen a) (nlen b))
 have h4:=pw_mono (Nat.le_max_right (nlen a) (nlen b))
 rw [pw_succ]
 omega
theorem nlen_zero:nlen 0=0:=by unfold nlen;rw [limbs_zero];rfl
theorem nlen_eq_zero {n:Nat}:nlen n=0 ↔ n=0:=by
 unfold nlen
 rw [List.length_eq_zero_iff,limbs_eq_nil]
theorem limbs_take {l:List Nat} {k:Nat} (hd:Dig l) (hk:k≤l.length) (hz:val (l.drop k)=0) (hn:∀h:0<k,l[k-1]'(by omega)≠0):limbs (val l)=l.take k:=by
 have h1:=val_take_drop l k hk
 rw [hz]at h1
 have h2:val l=val (l.take k):=by omega
 rw [h2]
 refine limbs_of (dig_take hd k) ?_
 intro h
 have hl:(l.take k).length=k:=by rw [List.length_take];omega
 have h3:=hn (by omega)
 have e:(l.take k)[(l.take k).length-1]'(by omega)=l[k-1]'(by omega):=by
  rw [List.getElem_take]
  congr 1
  omega
 rw [e]
 exact h3
theorem limbs_prefix {l:List Nat} (hd:Dig l):limbs (val l)=l.take (limbs (val l)).length:=by
 induction l with
 | nil=>rw [val_nil,limbs_zero];rfl
 | cons x xs ih =>
  have h1:=dig_cons.1 hd
  by_cases h0:val (x :: xs)=0
  ·rw [h0,limbs_zero];rfl
  ·rw [limbs_pos h0,val_cons]
   have e1:(x+4294967296*val xs) % 4294967296=x:=by omega
   have e2:(x+4294967296*val xs) / 4294967296=val xs:=by omega
   rw [e1,e2,List.length_cons,List.take_succ_cons,←ih h1.2]
theorem lt_of_length {a b:List Nat} (ha:Dig a) (hb:Nrm b) (h:a.length<b.length):val a<val b:=by
 have h1:=val_lt ha
 have h2:=nrm_low hb (by omega)
 have h3:=pw_mono (a:=a.length) (b:=b.length-1) (by omega)
 omega
theorem lt_of_limb {a b:List Nat} (ha:Dig a) {k:Nat} (hk:k<a.length) (hl:a.length=b.length) (he:a.drop (k+1)=b.drop (k+1))
  (h:a[k]<b[k]'(by omega)):val a<val b:=by
 have h1:=val_take_drop a k (by omega)
 have h2:=val_take_drop b k (by omega)
 have h3:=val_drop_cons a k hk
 have h4:=val_drop_cons b k (by omega)
 rw [he]at h3
 have h5:val (a.drop k)+1≤val (b.drop k):=by omega
 have h6:=val_lt (dig_take ha k)
 rw [List.length_take,Nat.min_eq_left (by omega)]at h6
 have h7:=Nat.mul_le_mul_left (pw k) h5
 rw [Nat.mul_add]at h7
 omega
theorem drop_eq_of {a b:List Nat} {k:Nat} (hk:k<a.length) (hl:a.length=b.length) (he:a.drop (k+1)=b.drop (k+1)) (h:a[k]=b[k]'(by omega)):a.drop k=b.drop k:=by
 rw [List.drop_eq_getElem_cons hk,List.drop_eq_getElem_cons (show k<b.length by omega),he,h]
def cmpI (a b:Nat):Int:=if a<b then -1 else if b<a then 1 else 0
theorem cmpI_lt {a b:Nat} (h:a<b):cmpI a b = -1:=if_pos h
theorem cmpI_gt {a b:Nat} (h:b<a):cmpI a b=1:=by unfold cmpI;rw [if_neg (by omega),if_pos h]
theorem cmpI_bd (a b:Nat):-1≤cmpI a b∧cmpI a b≤1:=by unfold cmpI;split <;> (try split) <;> omega
theorem cmpI_eq (a:Nat):cmpI a a=0:=by unfold cmpI;simp
end Go.Proofs.YtcggnmddcbhchaaGreatDoor.Lim
namespace Go.Proofs.YtcggnmddcbhchaaGreatDoor.Lim
theorem add_step {v c p x y a b t:Nat} (h:v+c*p=x+y) (ht:t=a+c+b) :
  (v+p*(t % 4294967296))+t / 4294967296*(4294967296*p)=(x+p*a)+(y+p*b):=by
 have h1:t=t % 4294967296+4294967296*(t / 4294967296):=by omega
 generalize t % 4294967296=m at *
 generalize t / 4294967296=d at *
 subst h1
 have:p*(m+4294967296*d)=p*(a+c+b):=by rw [ht]
 grind
theorem sub_step {v c p x y a b m c':Nat} (h:v+y=x+c*p) (ht:m+c+b=a+4294967296*c') :
  (v+p*m)+(y+p*b)=(x+p*a)+c'*(4294967296*p):=by
 have:p*(m+c+b)=p*(a+4294967296*c'):=by rw [ht]
 grind
theorem mul_step {v v' c p old x y t:Nat} (hs:v'+p*old=v+p*(t % 4294967296)) (ht:t=x*y+old+c) :
  v'+t / 4294967296*(4294967296*p)=v+c*p+x*(p*y):=by
 have h1:t=t % 4294967296+4294967296*(t / 4294967296):=by omega
 generalize t % 4294967296=m at *
 generalize t / 4294967296=d at *
 subst h1
 have:p*(m+4294967296*d)=p*(x*y+old+c):=by rw [ht]
 grind
theorem div_step {q d r a x v t:Nat} (h:q*d+r=v) (ht:t=r*4294967296+x) (ha:a=x+4294967296*v) :
  (t / d+4294967296*q)*d+t % d=a:=by
 have h1:t=t % d+d*(t / d):=by rw [Nat.add_comm];exact (Nat.div_add_mod t d).symm
 generalize t % d=m at *
 generalize t / d=e at *
 grind
structure Top (U V u0 u1 u2 v1 v2 P U0 V0:Nat):Prop where
 hU:U=((u0*4294967296+u1)*4294967296+u2)*P+U0
 hV:V=(v1*4294967296+v2)*P+V0
 hU0:U0<P
 hV0:V0<P
 bu0:u0<4294967296
 bu1:u1<4294967296
 bu2:u2<4294967296
 bv1:v1<4294967296
 bv2:v2<4294967296
 norm:2147483648≤v1
 lt:U<V*4294967296
theorem Top.u0_le {U V u0 u1 u2 v1 v2 P U0 V0:Nat} (h:Top U V u0 u1 u2 v1 v2 P U0 V0):u0≤v1:=by
 rcases Nat.lt_or_ge v1 u0 with h1|h1
 ·exfalso
  have e1:=h.hU
  have e2:=h.hV
  have h2:=h.lt
  have h3:=h.hV0
  have h4:=h.bv2
  have a1:V<(v1*4294967296+v2+1)*P:=by rw [e2];grind
  have a2:(v1*4294967296+v2+1)*P≤(u0*4294967296)*P:=Nat.mul_le_mul_right P (by omega)
  have a3:(u0*4294967296)*P*4294967296≤U:=by
   rw [e1]
   have:u0*4294967296*P*4294967296=(u0*4294967296*4294967296)*P:=by grind
   rw [this]
   have:(u0*4294967296*4294967296)*P≤((u0*4294967296+u1)*4294967296+u2)*P:=Nat.mul_le_mul_right P (Nat.le_trans (Nat.mul_le_mul_right _ (Nat.le_add_right _ _)) (Nat.le_add_right _ _))
   exact Nat.le_trans this (Nat.le_add_right _ _)
  omega
 ·exact h1
theorem Top.too_great {U V u0 u1 u2 v1 v2 P U0 V0 q r:Nat} (h:Top U V u0 u1 u2 v1 v2 P U0 V0) (hq:q*v1+r=u0*4294967296+u1)
  (ht:r*4294967296+u2<q*v2):U<q*V:=by
 have e1:=h.hU
 have e2:=h.hV
 have h1:=h.hU0
 have a1:(u0*4294967296+u1)*4294967296+u2+1≤q*(v1*4294967296+v2):=by
  rw [←hq];grind
 have a2:=Nat.mul_le_mul_right P a1
 have a3:q*(v1*4294967296+v2)*P≤q*V:=by rw [e2];grind
 have a4:U<((u0*4294967296+u1)*4294967296+u2+1)*P:=by rw [e1];grind
 omega
theorem Top.near {U V u0 u1 u2 v1 v2 P U0 V0 q r:Nat} (h:Top U V u0 u1 u2 v1 v2 P U0 V0) (hq:q*v1+r=u0*4294967296+u1)
  (hb:q<4294967296) (ht:q*v2≤r*4294967296+u2):q*V≤U+V:=by
 have e1:=h.hU
 have e2:=h.hV
 have h1:=h.hV0
 have h2:=h.norm
 have a1:q*(v1*4294967296+v2)≤(u0*4294967296+u1)*4294967296+u2:=by rw [←hq];grind
 have a2:=Nat.mul_le_mul_right P a1
 have a3:q*V0≤q*P:=Nat.mul_le_mul_left q (by omega)
 have a4:q*P≤4294967296*P:=Nat.mul_le_mul_right P (by omega)
 have a5:4294967296*P≤(v1*4294967296+v2)*P:=Nat.mul_le_mul_right P (by omega)
 have a6:q*V=q*(v1*4294967296+v2)*P+q*V0:=by rw [e2];grind
 omega
theorem Top.lt_base {U V u0 u1 u2 v1 v2 P U0 V0 q r:Nat} (h:Top U V u0 u1 u2 v1 v2 P U0 V0) (hq:q*v1+r=u0*4294967296+u1) (hr:4294967296≤r):q<4294967296:=by
 have h0:=h.u0_le
 have h1:=h.bu1
 have h2:=h.norm
 rcases Nat.lt_or_ge q 4294967296 with g|g
 ·exact g
 ·exfalso
  have a1:=Nat.mul_le_mul_right v1 g
  have a2:=Nat.mul_le_mul_right 4294967296 h0
  omega
theorem Top.not_small {U V u0 u1 u2 v1 v2 P U0 V0 q:Nat} (h:Top U V u0 u1 u2 v1 v2 P U0 V0) (hq:u0*4294967296+u1<(q+1)*v1):U<(q+1)*V:=by
 have e1:=h.hU
 have e2:=h.hV
 have h1:=h.hU0
 have h3:=h.bu2
 have a1:(u0*4294967296+u1)*4294967296+u2+1≤(q+1)*v1*4294967296:=by omega
 have a2:=Nat.mul_le_mul_right P a1
 have a3:(q+1)*v1*4294967296*P≤(q+1)*V:=by rw [e2];grind
 have a4:U<((u0*4294967296+u1)*4294967296+u2+1)*P:=by rw [e1];grind
 omega
def Near (U V q:Nat):Prop:=U<(q+1)*V∧q*V≤U+V∧q<4294967296
theorem Near.eq_or {U V q:Nat} (h:Near U V q):(q*V≤U∧U / V=q∧U % V=U-q*V)∨(U<q*V∧U / V+1=q∧U % V=U+V-q*V):=by
 obtain ⟨h1,h2,h3⟩:=h
 rcases Nat.lt_or_ge U (q*V)with g|g
 ·right
  have hq:0<q:=by
   rcases Nat.eq_zero_or_pos q with h0|h0
   ·subst h0;omega
   ·exact h0
  obtain ⟨k,rfl⟩:∃k,q=k+1:=⟨q-1,by omega⟩
  have a1:(k+1)*V=k*V+V:=by grind
  have hd:U / V=k:=by
   apply Nat.div_eq_of_lt_le
   ·omega
   ·exact g
  have hm:=Nat.div_add_mod U V
  rw [hd]at hm
  have:V*k=k*V:=Nat.mul_comm _ _
  exact ⟨g,by omega,by omega⟩
 ·left
  have hd:U / V=q:=by
   apply Nat.div_eq_of_lt_le
   ·exact g
   ·exact h1
  have hm:=Nat.div_add_mod U V
  rw [hd]at hm
  have:V*q=q*V:=Nat.mul_comm _ _
  exact ⟨g,hd,by omega⟩
theorem subtract_step {v u y q c b p x d m b' t:Nat} (h:v+q*y=u+(c+b)*p) (ht:t=q*d+c)
  (hm:m+t % 4294967296+b=x+4294967296*b') :
  (v+p*m)+q*(y+p*d)=(u+p*x)+(t / 4294967296+b')*(4294967296*p):=by
 have h1:t=t % 4294967296+4294967296*(t / 4294967296):=by omega
 generalize t % 4294967296=l at *
 generalize t / 4294967296=k at *
 subst h1
 have e1:p*(m+l+b)=p*(x+4294967296*b'):=by rw [hm]
 have e2:p*(l+4294967296*k)=p*(q*d+c):=by rw [ht]
 grind
end Go.Proofs.YtcggnmddcbhchaaGreatDoor.Lim
namespace Go.Proofs.YtcggnmddcbhchaaGreatDoor
open Go.RowKit Lim
theorem vint {k:IntKind} {a b:Int} (h:a=b):Value.int k a=Value.int k b:=by rw [h]
theorem ret_int {k:IntKind} {a b:Int} (h:a=b):Ending.returned (.int k a)=.returned (.int k b):=by rw [h]
def lenOf:Value→Nat|.slice _ n _=>n|_=>0
def Rd (w:World) (A:Option Addr) (l:List Nat):Prop :=
 Dig l∧(0<l.length→∃b off,A=some ⟨b,off,none⟩∧b<w.heap.size∧∀j (h:j<l.length),w.cell? ⟨b,off+j,none⟩=some (.int .u32 (l[j]:Nat)))
theorem Rd.nil (w:World) (A:Option Addr):Rd w A []:=⟨dig_nil,fun h=>absurd h (by simp)⟩
theorem Rd.keep {w w':World} {A:Option Addr} {l:List Nat} (h:Rd w A l) (hb:Below w.heap.size w w'):Rd w' A l :=
 ⟨h.1,fun hl=>by
  obtain ⟨b,off,e,hlt,hc⟩:=h.2 hl
  exact ⟨b,off,e,Nat.lt_of_lt_of_le hlt hb.size,fun j hj=>(hb.cell (p:=⟨b,off+j,none⟩) hlt).trans (hc j hj)⟩⟩
theorem Rd.take {w:World} {A:Option Addr} {l:List Nat} (h:Rd w A l) (k:Nat):Rd w A (l.take k) :=
 ⟨dig_take h.1 k,fun hl=>by
  have hl':(l.take k).length≤l.length:=by simp;omega
  obtain ⟨b,off,e,hlt,hc⟩:=h.2 (by omega)
  exact ⟨b,off,e,hlt,fun j hj=>by rw [List.getElem_take];exact hc j (by omega)⟩⟩
theorem Rd.at_ {w:World} {A:Option Addr} {l:List Nat} (h:Rd w A l) {k:Nat} (hk:k<l.length) :
  ∃b off,A=some ⟨b,off,none⟩∧b<w.heap.size∧w.cell? ⟨b,off+k,none⟩=some (.int .u32 (l[k]:Nat)):=by
 obtain ⟨b,off,e,hlt,hc⟩:=h.2 (by omega)
 exact ⟨b,off,e,hlt,hc k hk⟩
structure In (w:World) (A:Option Addr) (c:Nat) (l:List Nat) (n:Nat):Prop where
 rd:Rd w A l
 cap:l.length≤c
 lim:l.length<1099511627776
 val:val l=n
structure Raw (w:World) (A:Option Addr) (c:Nat) (l:List Nat) (n:Nat):Prop where
 rd:Rd w A l
 cap:l.length≤c
 lim:l.length≤4398046511104
 val:val l=n
structure Out (w:World) (A:Option Addr) (c:Nat) (n:Nat):Prop where
 rd:Rd w A (limbs n)
 cap:(limbs n).length≤c
theorem Out.toIn {w:World} {A:Option Addr} {c n:Nat} (h:Out w A c n) (hl:nlen n<1099511627776):In w A c (limbs n) n:=⟨h.rd,h.cap,hl,val_limbs n⟩
theorem In.keep {w w':World} {A:Option Addr} {c n:Nat} {l:List Nat} (h:In w A c l n) (hb:Below w.heap.size w w'):In w' A c l n:=⟨h.rd.keep hb,h.cap,h.lim,h.val⟩
theorem Out.keep {w w':World} {A:Option Addr} {c n:Nat} (h:Out w A c n) (hb:Below w.heap.size w w'):Out w' A c n:=⟨h.rd.keep hb,h.cap⟩
theorem In.toRaw {w:World} {A:Option Addr} {c n:Nat} {l:List Nat} (h:In w A c l n):Raw w A c l n:=⟨h.rd,h.cap,by have:=h.lim;omega,h.val⟩
theorem Raw.trim {w:World} {A:Option Addr} {c n:Nat} {l:List Nat} (h:Raw w A c l n):Out w A c n:=by
 obtain ⟨hr,hc,hl,rfl⟩:=h
 have e:=limbs_prefix hr.1
 have hle:(limbs (Lim.val l)).length≤l.length:=nlen_val hr.1
 exact ⟨by rw [e];exact hr.take _,by omega⟩
theorem In.trim {w:World} {A:Option Addr} {c n:Nat} {l:List Nat} (h:In w A c l n):Out w A c n:=h.toRaw.trim
theorem In.nlen {w:World} {A:Option Addr} {c n:Nat} {l:List Nat} (h:In w A c l n):nlen n<1099511627776:=by
 obtain ⟨hr,hc,hl,rfl⟩:=h
 have:=nlen_val hr.1
 omega
theorem In.zero (w:World):In w none 0 [] 0:=⟨Rd.nil _ _,by simp,by simp,rfl⟩
theorem Out.zero (w:World) (A:Option Addr) (c:Nat):Out w A c 0:=by
 refine ⟨?_,?_⟩
 ·rw [limbs_zero];exact Rd.nil _ _
 ·rw [limbs_zero];simp
def cells (l:List Nat):Array Value:=(l.map fun x=>Value.int .u32 ((x:Nat):Int)).toArray
theorem cells_get (l:List Nat) (i:Nat) (h:i<l.length):(cells l)[i]? = some (.int .u32 ((l[i]:Nat):Int)):=by
 unfold cells
 simp [h]
theorem cells_set (l:List Nat) (i x:Nat):(cells l).setIfInBounds i (.int .u32 ((x:Nat):Int))=cells (l.set i x):=by
 unfold cells
 simp [List.map_set]
theorem cells_made (n:Nat):madeCells #[.int .u32 0] n=cells (List.replicate n 0):=by
 apply Array.ext
 ·simp [cells,size_madeCells]
 ·intro i h1 h2
  simp [madeCells,cells,Nat.mod_one]
def Blk (w:World) (g:Nat) (l:List Nat):Prop:=w.heap[g]? = some (.cells (cells l) 133 (0,0))
theorem Blk.lt {w:World} {g:Nat} {l:List Nat} (h:Blk w g l):g<w.heap.size:=by
 rcases Nat.lt_or_ge g w.heap.size with hlt|hge
 ·exact hlt
 ·unfold Blk at h;rw [Array.getElem?_eq_none hge]at h;cases h
theorem Blk.cell {w:World} {g:Nat} {l:List Nat} (h:Blk w g l) {i:Nat} (hi:i<l.length):w.cell? ⟨g,i,none⟩=some (.int .u32 ((l[i]:Nat):Int)) :=
 (cell_of_row w g i _ _ (0,0) h).trans (cells_get l i hi)
theorem Blk.frozen {w:World} {g:Nat} {l:List Nat} (h:Blk w g l) (i:Nat):w.frozen? ⟨g,i,none⟩=false:=by
 unfold Blk at h
 simp [World.frozen?,h]
theorem Blk.new (w:World) (l:List Nat):Blk (w.alloc (.cells (cells l) 133)) w.heap.size l:=heap_alloc_new w _
theorem Blk.alloc {w:World} {g:Nat} {l:List Nat} (h:Blk w g l) (o:Obj):Blk (w.alloc o) g l:=(Below.heap_alloc w o g h.lt).trans h
theorem Blk.set {w:World} {g:Nat} {l:List Nat} (h:Blk w g l) (i x:Nat) {u:Int} (hu:u=((x:Nat):Int)):Blk (w.setCell ⟨g,i,none⟩ (.int .u32 u)) g (l.set i x):=by
 subst hu
 unfold Blk at h ⊢
 rw [←cells_set]
 simp [World.setCell,Array.getElem?_modify,h]
theorem Blk.far {w:World} {g:Nat} {l:List Nat} (h:Blk w g l) {p:Addr} (hp:g≠p.block) (u:Value):Blk (w.setCell p u) g l:=(Below.heap_setCell w p u g hp).trans h
theorem Blk.rd {w:World} {g:Nat} {l:List Nat} (h:Blk w g l) (hd:Dig l):Rd w (some ⟨g,0,none⟩) l :=
 ⟨hd,fun _=>⟨g,0,rfl,h.lt,fun j hj=>by rw [Nat.zero_add];exact h.cell hj⟩⟩
theorem add_addr (b off j:Nat):(⟨b,off,none⟩:Addr).add j=⟨b,off+j,none⟩:=by unfold Addr.add;split <;> simp_all
theorem Rd.of_own {w:World} {base g n cap:Nat} {e:TypeId} {l:List Nat} (h:w.ownsRow base e 1 (.slice (some ⟨g,0,none⟩) n cap) n (cells l).toList) (hd:Dig l) (hg:g<w.heap.size) :
  Rd w (some ⟨g,0,none⟩) l∧l.length≤cap:=by
 refine ⟨⟨hd,fun _=>⟨g,0,rfl,hg,fun j hj=>?_⟩⟩,?_⟩
 ·have:=h.cells (g:=g) rfl j (.int .u32 ((l[j]:Nat):Int)) (by rw [Array.getElem?_toList];exact cells_get l j hj)
  rw [add_addr]at this
  exact this
 ·have h1:=h.1
  simp [cells]at h1
  rcases h.2 with ⟨h2,_⟩|⟨g',cap',cur,hv,_,_,hnc,_⟩
  ·cases h2
  ·injection hv with _ _ hc
   omega
theorem made (n:Nat) (hn:n≤4398046511104):∀W:World,(Instr.makeSlice 23 (.int .i64 (n:Int)) (.int .i64 (n:Int))).run Tryz.prog W =
  .ok (.slice (some ⟨W.heap.size,0,none⟩) n n) (W.alloc (.cells (cells (List.replicate n 0)) 133)):=fun W=>by
 rw [←cells_made]
 exact run_make_row' (P:=Tryz.prog) 23 133 (.int .u32 0) 4 Tryz.underlying23 (by kernel_rfl) rfl .i64 .i64 n (by omega) (by omega) W
structure Only (g:Nat) (w w':World):Prop where
 os:w'.os=w.os
 tape:w'.tape=w.tape
 output:w'.output=w.output
 size:w'.heap.size=w.heap.size
 block:∀k,k≠g→w'.heap[k]? = w.heap[k]?
theorem Only.refl (g:Nat) (w:World):Only g w w:=⟨rfl,rfl,rfl,rfl,fun _ _=>rfl⟩
theorem Only.trans {g:Nat} {a b c:World} (h:Only g a b) (k:Only g b c):Only g a c :=
 ⟨k.os.trans h.os,k.tape.trans h.tape,k.output.trans h.output,k.size.trans h.size,fun i hi=>(k.block i hi).trans (h.block i hi)⟩
theorem Only.setCell {g:Nat} {a w:World} (h:Only g a w) (i:Nat) (u:Value):Only g a (w.setCell ⟨g,i,none⟩ u) :=
 h.trans ⟨rfl,rfl,rfl,by simp [World.setCell],fun k hk=>Below.heap_setCell w ⟨g,i,none⟩ u k hk⟩
theorem Only.below {g B:Nat} {w w':World} (h:Only g w w') (hB:B≤g):Below B w w':=⟨h.os,h.tape,h.output,by rw [h.size];exact Nat.le_refl _,fun k hk=>h.block k (by omega)⟩
theorem Only.ofDrewN {g:Nat} {w w':World} {n:Nat} (h:Only g (w.drewN n) w'):Only g w w':=⟨h.os,h.tape,h.output,h.size,h.block⟩
theorem Rd.only {g b off:Nat} {w w':World} {l:List Nat} (h:Rd w (some ⟨b,off,none⟩) l) (ho:Only g w w') (hne:b≠g):Rd w' (some ⟨b,off,none⟩) l :=
 ⟨h.1,fun hl=>by
  obtain ⟨b',off',e,hlt,hc⟩:=h.2 hl
  injection e with e
  injection e with e1 e2
  subst e1 e2
  exact ⟨b,off,rfl,by rw [ho.size];exact hlt,fun j hj=>(World.cell?_of_block (w:=w) (a:=⟨b,off+j,none⟩) (ho.block b hne)).trans (hc j hj)⟩⟩
theorem Blk.only {g k:Nat} {w w':World} {l:List Nat} (h:Blk w k l) (ho:Only g w w') (hne:k≠g):Blk w' k l:=(ho.block k hne).trans h
theorem below_drewN {B:Nat} {a w:World} (h:Below B a w) (n:Nat):Below B a (w.drewN n):=⟨h.os,h.tape,h.output,h.size,h.block⟩
end Go.Proofs.YtcggnmddcbhchaaGreatDoor
namespace Go.Proofs.YtcggnmddcbhchaaGreatDoor
open Go.RowKit Lim
set_option maxHeartbeats 400000 in
theorem trim_any (A:Option Addr) (c:Nat) (l:List Nat) (w:World) (h:Rd w A l) (hc:l.length≤c) (hb:l.length≤4398046511104) :
  Calls Tryz.prog 124 #[.slice A l.length c] w fun e w'=>e=.returned (.slice A (limbs (val l)).length c)∧w=w':=by
 go_enter Tryz.func124,Tryz.ntmps124
 go_wp2
 go_loop [0] (fun v=>∃k:Nat,k≤l.length∧val (l.drop k)=0∧v=.slice A k c) (fun v=>lenOf v)
 case atStart=>exact ⟨l.length,Nat.le_refl _,by simp [val],rfl⟩
 case round =>
  obtain ⟨k,hk,hz,rfl⟩:=hrel
  rcases Nat.eq_zero_or_pos k with h0|h0
  ·subst h0
   have hz':=Lib.hid hz;clear hz
   go_wp2
   go_ret
   exact ⟨by rw [limbs_take h.1 hk hz'.out (fun h=>absurd h (by omega))];rfl,rfl⟩
  ·obtain ⟨m,rfl⟩:∃m,k=m+1:=⟨k-1,by omega⟩
   obtain ⟨b,off,rfl,hlt,hcell⟩:=h.at_ (show m<l.length by omega)
   have hz':=Lib.hid hz;clear hz
   obtain ⟨x,hx⟩:∃x,l[m]=x:=⟨_,rfl⟩
   rw [hx]at hcell
   have hx':=Lib.hid hx;clear hx
   by_cases hx0:x=0
   ·subst hx0
    go_wp2
    go_round
    case rel=>exact ⟨m,by omega,by rw [val_drop_cons l m (by omega),hx'.out,hz'.out],rfl⟩
    case measure=>simp [lenOf]
   ·have hne:((x:Int) == 0)=false:=by simp;omega
    go_wp2
    go_ret
    exact ⟨by rw [limbs_take h.1 hk hz'.out (fun h=>by simpa [hx'.out]using hx0)];simp;omega,rfl⟩
theorem trim_raw (A:Option Addr) (c:Nat) (l:List Nat) (n:Nat) (w:World) (h:Raw w A c l n) (a:List Nat) (ha:limbs n=a) :
  Calls Tryz.prog 124 #[.slice A l.length c] w fun e w'=>e=.returned (.slice A a.length c)∧w=w':=by
 obtain ⟨hr,hc,hl,rfl⟩:=h
 subst ha
 exact trim_any A c l w hr hc hl
theorem trim_in (A:Option Addr) (c:Nat) (l:List Nat) (n:Nat) (w:World) (h:In w A c l n) (a:List Nat) (ha:limbs n=a) :
  Calls Tryz.prog 124 #[.slice A l.length c] w fun e w'=>e=.returned (.slice A a.length c)∧w=w' :=
 trim_raw A c l n w h.toRaw a ha
end Go.Proofs.YtcggnmddcbhchaaGreatDoor
namespace Go.Proofs.YtcggnmddcbhchaaGreatDoor
open Go.RowKit Lim
set_option maxHeartbeats 400000 in
theorem cmp_any (A1 A2:Option Addr) (c1 c2 n1 n2:Nat) (l1 l2:List Nat) (w:World) (h1:In w A1 c1 l1 n1) (h2:In w A2 c2 l2 n2) :
  Calls Tryz.prog 62 #[.slice A1 l1.length c1,.slice A2 l2.length c2] w fun e w'=>e=.returned (.int .i64 (cmpI n1 n2))∧∃m,w'=w.drewN m:=by
 obtain ⟨a,ha⟩:∃a,limbs n1=a:=⟨_,rfl⟩
 obtain ⟨b,hb⟩:∃b,limbs n2=b:=⟨_,rfl⟩
 have r1:=h1.trim.rd
 have r2:=h2.trim.rd
 have k1:a.length<1099511627776:=by rw [←ha];exact h1.nlen
 have k2:b.length<1099511627776:=by rw [←hb];exact h2.nlen
 rw [ha]at r1
 rw [hb]at r2
 have N1:Nrm a:=by rw [←ha];exact nrm_limbs n1
 have N2:Nrm b:=by rw [←hb];exact nrm_limbs n2
 have V1:val a=n1:=by rw [←ha];exact val_limbs n1
 have V2:val b=n2:=by rw [←hb];exact val_limbs n2
 have V1':=Lib.hid V1;clear V1
 have V2':=Lib.hid V2;clear V2
 have ha':=Lib.hid ha;clear ha
 have hb':=Lib.hid hb;clear hb
 by_cases hlt:a.length<b.length
 ·have hf:cmpI n1 n2 = -1:=cmpI_lt (by rw [←V1'.out,←V2'.out];exact lt_of_length r1.1 N2 hlt)
  have hf':=Lib.hid hf;clear hf
  go_enter Tryz.func62,Tryz.ntmps62
  go_wp2_with (go_at_call 124;(first|(with_reducible refine (trim_in _ _ _ _ _ h1 a ha'.out).mono ?_)|(with_reducible refine (trim_in _ _ _ _ _ h2 b hb'.out).mono ?_));rintro e w' ⟨rfl,rfl⟩)
  go_ret
  exact ⟨by rw [hf'.out];rfl,0,rfl⟩
 by_cases hgt:b.length<a.length
 ·have hf:cmpI n1 n2=1:=cmpI_gt (by rw [←V1'.out,←V2'.out];exact lt_of_length r2.1 N1 hgt)
  have hf':=Lib.hid hf;clear hf
  go_enter Tryz.func62,Tryz.ntmps62
  go_wp2_with (go_at_call 124;(first|(with_reducible refine (trim_in _ _ _ _ _ h1 a ha'.out).mono ?_)|(with_reducible refine (trim_in _ _ _ _ _ h2 b hb'.out).mono ?_));rintro e w' ⟨rfl,rfl⟩)
  go_ret
  exact ⟨by rw [hf'.out];rfl,0,rfl⟩
 ·have hL:=Lib.hid (show a.length=b.length by omega)
  go_enter Tryz.func62,Tryz.ntmps62
  go_wp2_with (go_at_call 124;(first|(with_reducible refine (trim_in _ _ _ _ _ h1 a ha'.out).mono ?_)|(with_reducible refine (trim_in _ _ _ _ _ h2 b hb'.out).mono ?_));rintro e w' ⟨rfl,rfl⟩)
  go_loopw [5] (fun i wr=>∃k m:Nat,k≤a.length∧i=.int .i64 ((k:Int)-1)∧a.drop k=b.drop k∧wr=w.drewN m) (fun i _=>(intOf i+1).toNat)
  case atStart=>exact ⟨a.length,0,Nat.le_refl _,rfl,by simp [hL.out],rfl⟩
  case round =>
   obtain ⟨k,m,hk,rfl,he,rfl⟩:=hrel
   have he':=Lib.hid he;clear he
   rcases Nat.eq_zero_or_pos k with h0|h0
   ·subst h0
    have hf:cmpI n1 n2=0:=by
     have:a=b:=by simpa using he'.out
     rw [←V1'.out,←V2'.out,this];exact cmpI_eq _
    have hf':=Lib.hid hf;clear hf
    go_wp2
    go_ret
    exact ⟨by rw [hf'.out];rfl,m,rfl⟩
   ·obtain ⟨j,rfl⟩:∃j,k=j+1:=⟨k-1,by omega⟩
    rw [show (((j+1:Nat):Int)-1)=(j:Int)from by omega]
    have ja:j<a.length:=by omega
    have jb:j<b.length:=by omega
    obtain ⟨b1,o1,rfl,hlt1,hc1⟩:=r1.at_ ja
    obtain ⟨b2,o2,rfl,hlt2,hc2⟩:=r2.at_ jb
    obtain ⟨x,hx⟩:∃x,a[j]=x:=⟨_,rfl⟩
    obtain ⟨y,hy⟩:∃y,b[j]=y:=⟨_,rfl⟩
    rw [hx]at hc1
    rw [hy]at hc2
    have hx':=Lib.hid hx;clear hx
    have hy':=Lib.hid hy;clear hy
    have i1:(0:Int)≤(j:Int):=by omega
    have i2:(j:Int)<(a.length:Int):=by omega
    have i3:(j:Int)<(b.length:Int):=by omega
    rcases Nat.lt_trichotomy x y with hxy|hxy|hxy
    ·have hf:cmpI n1 n2 = -1:=cmpI_lt (by rw [←V1'.out,←V2'.out];exact lt_of_limb r1.1 ja hL.out he'.out (by rw [hx'.out,hy'.out];exact hxy))
     have hf':=Lib.hid hf;clear hf
     go_wp2
     go_quiet (fail)
     go_wp2
     go_ret
     exact ⟨by rw [hf'.out];rfl,by simp only [World.drewN_drewN];exact ⟨_,rfl⟩⟩
    ·have he2:=Lib.hid (drop_eq_of ja hL.out he'.out (by rw [hx'.out,hy'.out];exact hxy))
     subst hxy
     have hn:¬(x:Int)<x:=by omega
     go_wp2
     go_quiet (fail)
     go_wp2
     go_quiet (fail)
     go_wp2
     go_roundw
     case rel=>exact ⟨j,_,by omega,rfl,he2.out,rfl⟩
     case measure=>simp [intOf]
    ·have hf:cmpI n1 n2=1:=cmpI_gt (by rw [←V1'.out,←V2'.out];exact lt_of_limb r2.1 jb hL.out.symm he'.out.symm (by rw [hx'.out,hy'.out];exact hxy))
     have hf':=Lib.hid hf;clear hf
     go_wp2
     go_quiet (fail)
     go_wp2
     go_quiet (fail)
     go_wp2
     go_ret
     exact ⟨by rw [hf'.out];rfl,by simp only [World.drewN_drewN];exact ⟨_,rfl⟩⟩
end Go.Proofs.YtcggnmddcbhchaaGreatDoor
namespace Go.Proofs.YtcggnmddcbhchaaGreatDoor
open Go.RowKit Lim
theorem info_u32:(Tryz.prog.info? 133).map (fun i=>(i.zero,i.size,i.bytes))=some (some (.int .u32 0),1,4):=by kernel_rfl
set_option maxHeartbeats 400000 in
theorem of_any (n:Nat) (hn:n<18446744073709551616) (w:World) :
  Calls Tryz.prog 63 #[.int .u64 n] w fun e w'=>∃A c,e=.returned (.slice A (limbs n).length c)∧Out w' A c n∧Below w.heap.size w w':=by
 have hin:In (w.alloc (.cells (cells [n % 4294967296,n / 4294967296]) 133)) (some ⟨w.heap.size,0,none⟩) 2 [n % 4294967296,n / 4294967296] n :=
  ⟨(Blk.new w _).rd (by rw [dig_cons,dig_cons];exact ⟨by omega,by omega,dig_nil⟩),by simp,by simp,by simp [val];omega⟩
 have ht:=trim_in _ _ _ _ _ hin _ rfl
 have e:cells [n % 4294967296,n / 4294967296]=#[.int .u32 ((n:Int) % 4294967296),.int .u32 ((n:Int) / 4294967296)]:=by simp [cells]
 rw [e]at ht hin
 have ht':=Lib.hid ht;clear ht
 go_enter Tryz.func63,Tryz.ntmps63
 go_wp2_with fail
 refine ht'.out.mono ?_
 rintro e w' ⟨rfl,rfl⟩
 go_wp2
 go_ret
 exact ⟨_,_,rfl,hin.trim,(Below.refl _ _).alloc (Nat.le_refl _) _⟩
theorem run_append_empty (ty:TypeId) (A:Option Addr) (c:Nat) (w:World):(Builtin.append_ #[23,23] ty #[.slice none 0 0,.slice A 0 c]).run Tryz.prog w=.ok (.slice none 0 0) w:=by
 obtain ⟨i0,hi0,hz0,hz1,hz2⟩:=info_parts info_u32
 cases A <;> simp [Builtin.append_,run_underlying Tryz.underlying23,sizeOf,typeInfo,hi0,Builtin.lenOf,Builtin.firstCells,loadCells,loadCellsFrom]
theorem wpList_append_empty {w:World} {ops:Array Oper} {rest:List Oper} {o:Oper} {a:Act} {Q:Exit→Act→World→Prop} (hgd:o.guard=none) (s x:Operand)
  (ho:o.op=.call { callee:=.builtin .append,args:=#[s,x],argTypes:=#[23,23] })
  (A:Option Addr) (c:Nat) (hs:a.eval s=.slice none 0 0) (hx:a.eval x=.slice A 0 c)
  (h:wpList Tryz.prog ops Q rest (a.put o.dst (.slice none 0 0)) w):wpList Tryz.prog ops Q (o :: rest) a w:=by
 refine wpList_plain hgd fun K hK=>?_
 have hrun:=run_append_empty o.type A c w
 unfold Oper.wp
 simp [execOp,ho,resolve,invoke,builtin,hs,hx,hrun,Result.andThen]
 exact hK _ _ h
set_option maxHeartbeats 400000 in
theorem norm_any (A:Option Addr) (c:Nat) (l:List Nat) (n:Nat) (w:World) (h:In w A c l n) :
  Calls Tryz.prog 96 #[.slice A l.length c] w fun e w'=>∃A c,e=.returned (.slice A (limbs n).length c)∧Out w' A c n∧Below w.heap.size w w':=by
 have ht:=h.trim
 have hl:=h.nlen
 rcases Nat.eq_zero_or_pos (limbs n).length with h0|h0
 ·have hn:limbs n=[]:=List.eq_nil_of_length_eq_zero h0
  have hn0:=limbs_eq_nil.1 hn
  have hn':=Lib.hid hn;clear hn h0
  go_enter Tryz.func96,Tryz.ntmps96
  go_wp2_with fail
  refine (trim_in _ _ _ _ _ h [] hn'.out).mono ?_
  rintro e w' ⟨rfl,rfl⟩
  go_wp2_with (at_builtin;refine wpList_append_empty rfl _ _ rfl A c rfl rfl ?_)
  go_ret
  exact ⟨none,0,by rw [hn'.out];rfl,by rw [hn0];exact Out.zero _ _ _,Below.refl _ _⟩
 ·obtain ⟨b,off,rfl,hlt,hc⟩:=ht.rd.2 h0
  obtain ⟨i0,hi0,hz0,hz1,hz2⟩:=info_parts info_u32
  have hl':(limbs n).length<1099511627776:=hl
  have g2:∀(j:Nat) (u:Value),(cells (limbs n)).toList[j]? = some u→w.cell? ((⟨b,off,none⟩:Addr).add j)=some u:=by
   intro j u hu
   have hj:j<(limbs n).length:=by
    have:=(List.getElem?_eq_some_iff.1 hu).1
    simpa [cells]using this
   rw [add_addr,hc j hj]
   rw [Array.getElem?_toList,cells_get _ _ hj]at hu
   exact hu
  have g3:∀(u:Value),u∈(cells (limbs n)).toList→u.oneCell'=true:=by
   intro u hu
   simp only [cells,List.mem_map]at hu
   obtain ⟨x,_,rfl⟩:=hu
   rfl
  have G2:=Lib.hid g2;clear g2
  have G3:=Lib.hid g3;clear g3
  have G4:=Lib.hid hc;clear hc
  go_enter Tryz.func96,Tryz.ntmps96
  go_wp2_with fail
  refine (trim_in _ _ _ _ _ h _ rfl).mono ?_
  rintro e w' ⟨rfl,rfl⟩
  go_wp2_with (at_builtin;refine wpList_append_lies _ rfl _ _ _ rfl w.heap.size 133 i0 _ 1 4 Tryz.underlying23 hi0 hz0 hz1 hz2 rfl (by omega) (.slice none 0 0) 0 [] rfl ⟨by simp,.inl ⟨rfl,rfl⟩⟩ ⟨b,off,none⟩ (limbs n).length c (cells (limbs n)).toList rfl ?h1 G2.out G3.out h0 ?h4 ?h5 (Nat.le_refl _) w.heap.size rfl ?_)
  case h1=>simp [cells]
  case h4=>simp only [maxLen];omega
  case h5=>omega
  intro g cap w1 hown hg _ hgl
  go_wp2
  go_ret
  have hb:Below w.heap.size w w1:=(Below.refl _ _).grown hg (Nat.le_refl _) (by simp [Value.ownBlock])
  obtain ⟨r1,r2⟩:=Rd.of_own hown (dig_limbs n) hgl
  exact ⟨_,_,rfl,⟨r1,r2⟩,hb⟩
end Go.Proofs.YtcggnmddcbhchaaGreatDoor
namespace Go.Proofs.YtcggnmddcbhchaaGreatDoor
open Go.RowKit Lim
def AddRel (w wr:World) (g i cr:Nat) (a b:List Nat):Prop :=
 ∃s:List Nat,s.length=i∧Dig s∧Blk wr g (s ++ List.replicate (a.length+1-i) 0)∧val s+cr*pw i=val (a.take i)+val (b.take i)∧cr≤1∧Below w.heap.size w wr
theorem AddRel.cell {w wr:World} {g i cr:Nat} {a b:List Nat} (h:AddRel w wr g i cr a b) (hi:i≤a.length):wr.cell? ⟨g,i,none⟩=some (.int .u32 0)∧wr.frozen? ⟨g,i,none⟩=false:=by
 obtain ⟨s,rfl,hd,hb,_⟩:=h
 have h1:=hb.cell (i:=s.length) (by simp;omega)
 rw [List.getElem_append_right (Nat.le_refl _)]at h1
 simp at h1
 exact ⟨h1,hb.frozen _⟩
theorem AddRel.step {w wr:World} {g k c:Nat} {a b:List Nat} (h:AddRel w wr g k c a b) (ha:Dig a) (hb:Dig b) (hg:w.heap.size≤g) (hk:k<a.length) {x y:Nat} (hx:a.getD k 0=x) (hy:b.getD k 0=y) {u:Int} (hu:u=(((x+c+y) % 4294967296:Nat):Int)) :
  AddRel w (wr.setCell ⟨g,k,none⟩ (.int .u32 u)) g (k+1) ((x+c+y) / 4294967296) a b:=by
 obtain ⟨s,rfl,hd,hbl,hv,hc,hbe⟩:=h
 have hx':=dig_getD ha s.length
 have hy':=dig_getD hb s.length
 refine ⟨s ++ [(x+c+y) % 4294967296],by simp,dig_snoc hd (by omega),?_,?_,by omega,hbe.setCell hg _⟩
 ·have:=hbl.set s.length _ hu
  rw [show a.length+1-s.length=(a.length+1-(s.length+1))+1 from by omega,set_here]at this
  exact this
 ·rw [val_snoc,val_take_succ',val_take_succ',pw_succ,hx,hy]
  exact add_step hv rfl
theorem AddRel.last {w wr:World} {g c n1 n2:Nat} {a b:List Nat} (h:AddRel w wr g a.length c a b) (hl:b.length≤a.length) (hg:w.heap.size≤g) (hS:val a+val b=n1+n2) (hL:a.length<1099511627776) {u:Int} (hu:u=(c:Int)) :
  ∃l,Raw (wr.setCell ⟨g,a.length,none⟩ (.int .u32 u)) (some ⟨g,0,none⟩) (a.length+1) l (n1+n2)∧l.length=a.length+1∧Below w.heap.size w (wr.setCell ⟨g,a.length,none⟩ (.int .u32 u)):=by
 obtain ⟨s,hs,hd,hbl,hv,hc,hbe⟩:=h
 have h1:=hbl.set a.length c hu
 rw [show a.length+1-a.length=0+1 from by omega,←hs,set_here,hs]at h1
 simp only [List.replicate_zero,List.append_nil]at h1
 refine ⟨s ++ [c],⟨h1.rd (dig_snoc hd (by omega)),by simp [hs],by simp [hs];omega,?_⟩,by simp [hs],hbe.setCell hg _⟩
 rw [List.take_of_length_le (Nat.le_refl _),List.take_of_length_le hl]at hv
 rw [val_snoc,hs,←hS,←hv,Nat.mul_comm]
set_option maxHeartbeats 1000000 in
theorem add_any (A1 A2:Option Addr) (c1 c2 n1 n2:Nat) (l1 l2:List Nat) (w:World) (h1:In w A1 c1 l1 n1) (h2:In w A2 c2 l2 n2) :
  Calls Tryz.prog 202 #[.slice A1 l1.length c1,.slice A2 l2.length c2] w fun e w'=>∃A c,e=.returned (.slice A (limbs (n1+n2)).length c)∧Out w' A c (n1+n2)∧Below w.heap.size w w':=by
 obtain ⟨a1,ha1⟩:∃a,limbs n1=a:=⟨_,rfl⟩
 obtain ⟨a2,ha2⟩:∃b,limbs n2=b:=⟨_,rfl⟩
 have q1:Rd w A1 a1:=by rw [←ha1];exact h1.trim.rd
 have q2:Rd w A2 a2:=by rw [←ha2];exact h2.trim.rd
 have m1:a1.length<1099511627776:=by rw [←ha1];exact h1.nlen
 have m2:a2.length<1099511627776:=by rw [←ha2];exact h2.nlen
 have S:val a1+val a2=n1+n2:=by rw [←ha1,←ha2,val_limbs,val_limbs]
 have ha1':=Lib.hid ha1;clear ha1
 have ha2':=Lib.hid ha2;clear ha2
 rcases Nat.lt_or_ge a1.length a2.length with hlt|hge
 case' inl =>
  have hn:(a1.length:Int)<(a2.length:Int):=by omega
  rw [Nat.add_comm]at S
  obtain ⟨a,b,XA,XB,r1,r2,k1,S',hge,ea,eb⟩:∃(a b:List Nat) (XA XB:Option Addr),Rd w XA a∧Rd w XB b∧a.length<1099511627776∧Hid (val a+val b=n1+n2)∧b.length≤a.length∧(a=a2∧XA=A2)∧(b=a1∧XB=A1):=⟨a2,a1,A2,A1,q2,q1,m2,S,by omega,⟨rfl,rfl⟩,⟨rfl,rfl⟩⟩
 case' inr =>
  have hn:¬(a1.length:Int)<(a2.length:Int):=by omega
  obtain ⟨a,b,XA,XB,r1,r2,k1,S',hge,ea,eb⟩:∃(a b:List Nat) (XA XB:Option Addr),Rd w XA a∧Rd w XB b∧a.length<1099511627776∧Hid (val a+val b=n1+n2)∧b.length≤a.length∧(a=a1∧XA=A1)∧(b=a2∧XB=A2):=⟨a1,a2,A1,A2,q1,q2,m1,S,by omega,⟨rfl,rfl⟩,⟨rfl,rfl⟩⟩
 all_goals
  obtain ⟨rfl,rfl⟩:=ea
  obtain ⟨rfl,rfl⟩:=eb
  clear S
  have hmk:=made (a.length+1) (by omega)
  rw [show ((a.length+1:Nat):Int)=(a.length:Int)+1 from by omega]at hmk
  go_enter Tryz.func202,Tryz.ntmps202
  go_wp2_with (go_at_call 124;(first|(with_reducible refine (trim_in _ _ _ _ _ h1 _ ha1'.out).mono ?_)|(with_reducible refine (trim_in _ _ _ _ _ h2 _ ha2'.out).mono ?_));rintro e w' ⟨rfl,rfl⟩)
  go_loopw [6,26] (fun cr i wr=>∃k c:Nat,k≤a.length∧i=.int .i64 (k:Int)∧cr=.int .u64 (c:Int)∧AddRel w wr w.heap.size k c a b) (fun _ i _=>a.length-(intOf i).toNat)
  case atStart =>
   exact ⟨0,0,by omega,rfl,rfl,[],rfl,dig_nil,Blk.new w _,by simp [val],by omega,(Below.refl _ _).alloc (Nat.le_refl _) _⟩
  case round =>
   obtain ⟨k,c,hk,rfl,rfl,hrel⟩:=hrel
   obtain ⟨hst,hfz⟩:=hrel.cell hk
   have hbe:Below w.heap.size w wr:=by obtain ⟨_,_,_,_,_,_,h⟩:=hrel;exact h
   have hc1:c≤1:=by obtain ⟨_,_,_,_,_,h,_⟩:=hrel;exact h
   by_cases hlt:k<a.length
   ·obtain ⟨b1,o1,rfl,hlt1,hcx⟩:=(r1.keep hbe).at_ hlt
    obtain ⟨x,hx⟩:∃x,a[k]=x:=⟨_,rfl⟩
    rw [hx]at hcx
    have hX:=Lib.hid (getD_of hlt hx)
    have hxb:x<4294967296:=by rw [←hx];exact dig_get r1.1 hlt
    clear hx
    by_cases hltb:k<b.length
    ·obtain ⟨b2,o2,rfl,hlt2,hcy⟩:=(r2.keep hbe).at_ hltb
     obtain ⟨y,hy⟩:∃y,b[k]=y:=⟨_,rfl⟩
     rw [hy]at hcy
     have hY:=Lib.hid (getD_of hltb hy)
     have hyb:y<4294967296:=by rw [←hy];exact dig_get r2.1 hltb
     clear hy
     go_wp2
     go_roundw
     case rel=>exact ⟨k+1,(x+c+y) / 4294967296,by omega,by go_num,vint (by omega),hrel.step r1.1 r2.1 (Nat.le_refl _) hlt hX.out hY.out (by omega)⟩
     case measure=>simp [intOf];omega
    ·have hY:=Lib.hid (getD_out (l:=b) (k:=k) (by omega))
     go_wp2
     go_roundw
     case rel=>exact ⟨k+1,(x+c+0) / 4294967296,by omega,by go_num,vint (by omega),hrel.step r1.1 r2.1 (Nat.le_refl _) hlt hX.out hY.out (by omega)⟩
     case measure=>simp [intOf];omega
   ·obtain rfl:k=a.length:=by omega
    obtain ⟨l,hin,hll,hbl⟩:=hrel.last (u:=(c:Int)) hge (Nat.le_refl _) S'.out k1 rfl
    have hL:=Lib.hid hll;clear hll
    go_wp2_with fail
    have ht:=trim_raw _ _ _ _ _ hin _ rfl
    rw [hL.out]at ht
    refine ht.mono ?_
    clear ht
    rintro e w' ⟨rfl,rfl⟩
    go_wp2
    go_ret
    exact ⟨_,_,rfl,hin.trim,hbl⟩
end Go.Proofs.YtcggnmddcbhchaaGreatDoor
namespace Go.Proofs.YtcggnmddcbhchaaGreatDoor
open Go.RowKit Lim
def SubRel (w wr:World) (g i cr:Nat) (a b:List Nat):Prop :=
 ∃s:List Nat,s.length=i∧Dig s∧Blk wr g (s ++ List.replicate (a.length-i) 0)∧val s+val (b.take i)=val (a.take i)+cr*pw i∧cr≤1∧Below w.heap.size w wr
theorem SubRel.cell {w wr:World} {g i cr:Nat} {a b:List Nat} (h:SubRel w wr g i cr a b) (hi:i<a.length):wr.cell? ⟨g,i,none⟩=some (.int .u32 0)∧wr.frozen? ⟨g,i,none⟩=false:=by
 obtain ⟨s,rfl,hd,hb,_⟩:=h
 have h1:=hb.cell (i:=s.length) (by simp;omega)
 rw [List.getElem_append_right (Nat.le_refl _)]at h1
 simp at h1
 exact ⟨h1,hb.frozen _⟩
def bor (x y:Nat):Nat:=if x<y then 1 else 0
theorem bor_eq (x y:Nat) (hx:x<4294967296) (hy:y≤4294967296):((x:Int)-(y:Int)) % 18446744073709551616 / 9223372036854775808=(bor x y:Nat):=by
 unfold bor;split <;> omega
theorem wrap_two (x y c:Nat):IntKind.u64.wrap (IntKind.u64.wrap ((x:Int)-c)-y)=((x:Int)-(y+c:Nat)) % 18446744073709551616:=by rw [IntKind.wrap_u64,IntKind.wrap_u64];omega
theorem wrap_one (x c:Nat):IntKind.u64.wrap ((x:Int)-c)=((x:Int)-(0+c:Nat)) % 18446744073709551616:=by rw [IntKind.wrap_u64];omega
theorem SubRel.step {w wr:World} {g k c:Nat} {a b:List Nat} (h:SubRel w wr g k c a b) (ha:Dig a) (hb:Dig b) (hg:w.heap.size≤g) (hk:k<a.length) {x y:Nat} (hx:a.getD k 0=x) (hy:b.getD k 0=y) {u:Int} (hu:u=((x:Int)-(y+c:Nat)) % 4294967296) :
  SubRel w (wr.setCell ⟨g,k,none⟩ (.int .u32 u)) g (k+1) (bor x (y+c)) a b:=by
 obtain ⟨s,rfl,hd,hbl,hv,hc,hbe⟩:=h
 have hx':=dig_getD ha s.length
 have hy':=dig_getD hb s.length
 rw [hx]at hx'
 rw [hy]at hy'
 have hu':u=(((x+4294967296-(y+c)) % 4294967296:Nat):Int):=by omega
 have hm:(x+4294967296-(y+c)) % 4294967296+c+y=x+4294967296*bor x (y+c):=by unfold bor;split <;> omega
 generalize (x+4294967296-(y+c)) % 4294967296=m at *
 have hml:m<4294967296:=by unfold bor at hm;split at hm <;> omega
 refine ⟨s ++ [m],by simp,dig_snoc hd hml,?_,?_,by unfold bor;split <;> omega,hbe.setCell hg _⟩
 ·have:=hbl.set s.length _ hu'
  rw [show a.length-s.length=(a.length-(s.length+1))+1 from by omega,set_here]at this
  exact this
 ·rw [val_snoc,val_take_succ',val_take_succ',pw_succ,hx,hy]
  exact sub_step hv hm
theorem SubRel.last {w wr:World} {g c:Nat} {a b:List Nat} (h:SubRel w wr g a.length c a b) (hl:b.length≤a.length) (hle:val b≤val a) (hL:a.length<1099511627776) :
  ∃l,Raw wr (some ⟨g,0,none⟩) a.length l (val a-val b)∧l.length=a.length∧Below w.heap.size w wr:=by
 obtain ⟨s,hs,hd,hbl,hv,hc,hbe⟩:=h
 rw [Nat.sub_self,List.replicate_zero,List.append_nil]at hbl
 rw [List.take_of_length_le (Nat.le_refl _),List.take_of_length_le hl]at hv
 have h1:=val_lt hd
 rw [hs]at h1
 have hc0:c=0:=by
  rcases Nat.eq_zero_or_pos c with h0|h0
  ·exact h0
  ·obtain rfl:c=1:=by omega
   omega
 subst hc0
 exact ⟨s,⟨hbl.rd hd,by omega,by omega,by omega⟩,hs,hbe⟩
set_option maxHeartbeats 1000000 in
theorem sub_no (A1 A2:Option Addr) (c1 c2 n1 n2:Nat) (l1 l2:List Nat) (w:World) (h1:In w A1 c1 l1 n1) (h2:In w A2 c2 l2 n2) (hlt:n1<n2) :
  Calls Tryz.prog 203 #[.slice A1 l1.length c1,.slice A2 l2.length c2] w fun e w'=>e=.returned (.tuple #[.slice none 0 0,.bool false])∧Below w.heap.size w w':=by
 have hc:=cmpI_lt hlt
 have i1:=h1.trim.toIn h1.nlen
 have i2:=h2.trim.toIn h2.nlen
 go_enter Tryz.func203,Tryz.ntmps203
 go_wp2_with (first|(go_at_call 124;(first|(with_reducible refine (trim_in _ _ _ _ _ h1 _ rfl).mono ?_)|(with_reducible refine (trim_in _ _ _ _ _ h2 _ rfl).mono ?_));rintro e w' ⟨rfl,rfl⟩)|(go_at_call 62;(with_reducible refine (cmp_any _ _ _ _ _ _ _ _ _ i1 i2).mono ?_);rintro e w' ⟨rfl,m,rfl⟩))
 go_ret2
 exact ⟨rfl,below_drewN (Below.refl _ _) _⟩
set_option maxHeartbeats 1000000 in
theorem sub_yes (A1 A2:Option Addr) (c1 c2 n1 n2:Nat) (l1 l2:List Nat) (w:World) (h1:In w A1 c1 l1 n1) (h2:In w A2 c2 l2 n2) (hle:n2≤n1) :
  Calls Tryz.prog 203 #[.slice A1 l1.length c1,.slice A2 l2.length c2] w fun e w'=>∃A c,e=.returned (.tuple #[.slice A (limbs (n1-n2)).length c,.bool true])∧Out w' A c (n1-n2)∧Below w.heap.size w w':=by
 have hcm:¬cmpI n1 n2<0:=by unfold cmpI;rw [if_neg (by omega)];split <;> omega
 have i1:=h1.trim.toIn h1.nlen
 have i2:=h2.trim.toIn h2.nlen
 have hge:(limbs n2).length≤(limbs n1).length:=nlen_mono hle
 obtain ⟨a,ha⟩:∃a,limbs n1=a:=⟨_,rfl⟩
 obtain ⟨b,hb⟩:∃b,limbs n2=b:=⟨_,rfl⟩
 rw [ha]at i1 hge
 rw [hb]at i2 hge
 have r1:=i1.rd
 have r2:=i2.rd
 have k1:=i1.lim
 have V1':=Lib.hid i1.val
 have V2':=Lib.hid i2.val
 have ha':=Lib.hid ha;clear ha
 have hb':=Lib.hid hb;clear hb
 have hmk:=made a.length (by omega)
 go_enter Tryz.func203,Tryz.ntmps203
 go_wp2_with (first|(go_at_call 124;(first|(with_reducible refine (trim_in _ _ _ _ _ h1 _ ha'.out).mono ?_)|(with_reducible refine (trim_in _ _ _ _ _ h2 _ hb'.out).mono ?_));rintro e w' ⟨rfl,rfl⟩)|(go_at_call 62;(with_reducible refine (cmp_any _ _ _ _ _ _ _ _ _ i1 i2).mono ?_);rintro e w' ⟨rfl,m,rfl⟩))
 go_loopw [7,23] (fun cr i wr=>∃k c:Nat,k≤a.length∧i=.int .i64 (k:Int)∧cr=.int .u64 (c:Int)∧SubRel w wr w.heap.size k c a b) (fun _ i _=>a.length-(intOf i).toNat)
 case atStart =>
  exact ⟨0,0,by omega,rfl,rfl,[],rfl,dig_nil,Blk.new (w.drewN m) _,by simp [val],by omega,(below_drewN (Below.refl _ _) _).alloc (Nat.le_refl _) _⟩
 case round =>
  obtain ⟨k,c,hk,rfl,rfl,hrel⟩:=hrel
  have hbe:Below w.heap.size w wr:=by obtain ⟨_,_,_,_,_,_,h⟩:=hrel;exact h
  have hc1:c≤1:=by obtain ⟨_,_,_,_,_,h,_⟩:=hrel;exact h
  by_cases hlt:k<a.length
  ·obtain ⟨hst,hfz⟩:=hrel.cell hlt
   obtain ⟨b1,o1,rfl,hlt1,hcx⟩:=(r1.keep hbe).at_ hlt
   obtain ⟨x,hx⟩:∃x,a[k]=x:=⟨_,rfl⟩
   rw [hx]at hcx
   have hX:=Lib.hid (getD_of hlt hx)
   have hxb:x<4294967296:=by rw [←hx];exact dig_get r1.1 hlt
   clear hx
   by_cases hltb:k<b.length
   ·obtain ⟨b2,o2,rfl,hlt2,hcy⟩:=(r2.keep hbe).at_ hltb
    obtain ⟨y,hy⟩:∃y,b[k]=y:=⟨_,rfl⟩
    rw [hy]at hcy
    have hY:=Lib.hid (getD_of hltb hy)
    have hyb:y<4294967296:=by rw [←hy];exact dig_get r2.1 hltb
    clear hy
    go_wp2
    go_roundw
    case rel=>exact ⟨k+1,bor x (y+c),by omega,by go_num,vint (by rw [wrap_two];exact bor_eq x (y+c) hxb (by omega)),hrel.step r1.1 r2.1 (Nat.le_refl _) hlt hX.out hY.out (by rw [wrap_two];omega)⟩
    case measure=>simp [intOf];omega
   ·have hY:=Lib.hid (getD_out (l:=b) (k:=k) (by omega))
    go_wp2
    go_roundw
    case rel=>exact ⟨k+1,bor x (0+c),by omega,by go_num,vint (by rw [wrap_one];exact bor_eq x (0+c) hxb (by omega)),hrel.step r1.1 r2.1 (Nat.le_refl _) hlt hX.out hY.out (by rw [wrap_one];omega)⟩
    case measure=>simp [intOf];omega
  ·obtain rfl:k=a.length:=by omega
   obtain ⟨l,hin,hll,hbl⟩:=hrel.last hge (by rw [V1'.out,V2'.out];exact hle) k1
   rw [V1'.out,V2'.out]at hin
   have hL:=Lib.hid hll;clear hll
   go_wp2_with fail
   have ht:=trim_raw _ _ _ _ _ hin _ rfl
   rw [hL.out]at ht
   refine ht.mono ?_
   clear ht
   rintro e w' ⟨rfl,rfl⟩
   go_wp2
   go_ret2
   exact ⟨_,_,rfl,hin.trim,hbl⟩
end Go.Proofs.YtcggnmddcbhchaaGreatDoor
namespace Go.Proofs.YtcggnmddcbhchaaGreatDoor
open Go.RowKit Lim
def MulRel (w wr:World) (g i:Nat) (a b:List Nat):Prop :=
 ∃p:List Nat,p.length=i+b.length∧Dig p∧Blk wr g (p ++ List.replicate (a.length-i) 0)∧val p=val (a.take i)*val b∧Below w.heap.size w wr
def MulIn (w wr:World) (g i j c x z:Nat) (a b:List Nat):Prop :=
 ∃q:List Nat,q.length=i+b.length∧Dig q∧Blk wr g (q ++ List.replicate z 0)∧val q+c*pw (i+j)=val (a.take i)*val b+x*(pw i*val (b.take j))∧c<4294967296∧Below w.heap.size w wr
theorem MulRel.start {w wr:World} {g i:Nat} {a b:List Nat} (h:MulRel w wr g i a b) (x:Nat):MulIn w wr g i 0 0 x (a.length-i) a b:=by
 obtain ⟨p,hl,hd,hb,hv,hbe⟩:=h
 exact ⟨p,hl,hd,hb,by simp [val,hv],by omega,hbe⟩
theorem MulIn.cell {w wr:World} {g i j c x z:Nat} {a b:List Nat} (h:MulIn w wr g i j c x z a b) (hj:j<b.length):∃o,wr.cell? ⟨g,i+j,none⟩=some (.int .u32 ((o:Nat):Int))∧wr.frozen? ⟨g,i+j,none⟩=false∧o<4294967296 ∧
  ∀y t:Nat,b.getD j 0=y→x<4294967296→y<4294967296→t=x*y+o+c→w.heap.size≤g→∀u:Int,u=((t % 4294967296:Nat):Int) →
   MulIn w (wr.setCell ⟨g,i+j,none⟩ (.int .u32 u)) g i (j+1) (t / 4294967296) x z a b:=by
 obtain ⟨q,hl,hd,hb,hv,hc,hbe⟩:=h
 have hi:i+j<q.length:=by omega
 refine ⟨q[i+j],?_,hb.frozen _,dig_get hd hi,?_⟩
 ·have:=hb.cell (i:=i+j) (by simp;omega)
  rw [List.getElem_append_left hi]at this
  exact this
 ·intro y t hy hx hyb ht hg u hu
  have ho:=dig_get hd hi
  have hset:=val_set q (i+j) (t % 4294967296) hi
  have hm:x*y≤4294967295*4294967295:=Nat.mul_le_mul (by omega) (by omega)
  refine ⟨q.set (i+j) (t % 4294967296),by simp [hl],dig_set hd _ (by omega),?_,?_,by omega,hbe.setCell hg _⟩
  ·have:=hb.set (i+j) _ hu
   rw [List.set_append_left _ _ hi]at this
   exact this
  ·have h1:=mul_step hset ht
   rw [←Nat.add_assoc,pw_succ,h1,hv,val_take_succ',hy,pw_add]
   grind
theorem MulIn.last {w wr:World} {g i c x z:Nat} {a b:List Nat} (h:MulIn w wr g i b.length c x (z+1) a b) (hx:a.getD i 0=x) (hz:a.length-(i+1)=z) (hg:w.heap.size≤g) {u:Int} (hu:u=(c:Int)) :
  wr.cell? ⟨g,i+b.length,none⟩=some (.int .u32 0)∧wr.frozen? ⟨g,i+b.length,none⟩=false∧MulRel w (wr.setCell ⟨g,i+b.length,none⟩ (.int .u32 u)) g (i+1) a b:=by
 obtain ⟨q,hl,hd,hb,hv,hc,hbe⟩:=h
 refine ⟨?_,hb.frozen _,q ++ [c],by simp [hl];omega,dig_snoc hd hc,?_,?_,hbe.setCell hg _⟩
 ·have:=hb.cell (i:=i+b.length) (by simp;omega)
  rw [List.getElem_append_right (by omega)]at this
  simpa using this
 ·have:=hb.set (i+b.length) _ hu
  rw [←hl,set_here]at this
  rw [hz,←hl]
  exact this
 ·rw [List.take_of_length_le (Nat.le_refl _)]at hv
  rw [val_snoc,hl,val_take_succ',hx,Nat.mul_comm (pw _) c,hv]
  grind
theorem MulRel.last {w wr:World} {g:Nat} {a b:List Nat} (h:MulRel w wr g a.length a b) (hL:a.length+b.length≤4398046511104) :
  ∃l,Raw wr (some ⟨g,0,none⟩) (a.length+b.length) l (val a*val b)∧l.length=a.length+b.length∧Below w.heap.size w wr:=by
 obtain ⟨p,hl,hd,hb,hv,hbe⟩:=h
 rw [Nat.sub_self,List.replicate_zero,List.append_nil]at hb
 rw [List.take_of_length_le (Nat.le_refl _)]at hv
 exact ⟨p,⟨hb.rd hd,by omega,by omega,hv⟩,hl,hbe⟩
set_option maxHeartbeats 1000000 in
theorem mul_any (A1 A2:Option Addr) (c1 c2 n1 n2:Nat) (l1 l2:List Nat) (w:World) (h1:In w A1 c1 l1 n1) (h2:In w A2 c2 l2 n2) :
  Calls Tryz.prog 95 #[.slice A1 l1.length c1,.slice A2 l2.length c2] w fun e w'=>∃A c,e=.returned (.slice A (limbs (n1*n2)).length c)∧Out w' A c (n1*n2)∧Below w.heap.size w w':=by
 have i1:=h1.trim.toIn h1.nlen
 have i2:=h2.trim.toIn h2.nlen
 obtain ⟨a,ha⟩:∃a,limbs n1=a:=⟨_,rfl⟩
 obtain ⟨b,hb⟩:∃b,limbs n2=b:=⟨_,rfl⟩
 rw [ha]at i1
 rw [hb]at i2
 have r1:=i1.rd
 have r2:=i2.rd
 have k1:=i1.lim
 have k2:=i2.lim
 have V1':=Lib.hid i1.val
 have V2':=Lib.hid i2.val
 have ha':=Lib.hid ha;clear ha
 have hb':=Lib.hid hb;clear hb
 have hmk:=made (a.length+b.length) (by omega)
 rw [show ((a.length+b.length:Nat):Int)=(a.length:Int)+(b.length:Int)from by omega]at hmk
 go_enter Tryz.func95,Tryz.ntmps95
 go_wp2_with (go_at_call 124;(first|(with_reducible refine (trim_in _ _ _ _ _ h1 _ ha'.out).mono ?_)|(with_reducible refine (trim_in _ _ _ _ _ h2 _ hb'.out).mono ?_));rintro e w' ⟨rfl,rfl⟩)
 go_loopw [24] (fun i wr=>∃k:Nat,k≤a.length∧i=.int .i64 (k:Int)∧MulRel w wr w.heap.size k a b) (fun i _=>a.length-(intOf i).toNat)
 case atStart =>
  exact ⟨0,by omega,rfl,List.replicate b.length 0,by simp,dig_replicate _,by rw [List.replicate_append_replicate,Nat.sub_zero,Nat.add_comm];exact Blk.new w _,by rw [val_replicate];simp [val],(Below.refl _ _).alloc (Nat.le_refl _) _⟩
 case round =>
  obtain ⟨k,hk,rfl,hout⟩:=hrel
  obtain ⟨wo,rfl⟩:∃wo:World,wo=wr:=⟨_,rfl⟩
  by_cases hlt:k<a.length
  ·have hbe:Below w.heap.size w wo:=by obtain ⟨_,_,_,_,_,h⟩:=hout;exact h
   obtain ⟨b1,o1,rfl,hlt1,hcx⟩:=(r1.keep hbe).at_ hlt
   obtain ⟨x,hx⟩:∃x,a[k]=x:=⟨_,rfl⟩
   rw [hx]at hcx
   have hX:=Lib.hid (getD_of hlt hx)
   have hxb:x<4294967296:=by rw [←hx];exact dig_get r1.1 hlt
   clear hx
   go_wp2
   go_loopw [8,31] (fun cr j wr=>∃m c:Nat,m≤b.length∧j=.int .i64 (m:Int)∧cr=.int .u64 (c:Int)∧MulIn w wr w.heap.size k m c x (a.length-k) a b) (fun _ j _=>b.length-(intOf j).toNat)
   case atStart=>exact ⟨0,0,by omega,rfl,rfl,hout.start x⟩
   case round =>
    obtain ⟨m,c,hm,rfl,rfl,hrin⟩:=hrel
    have hbi:Below w.heap.size w wr:=by obtain ⟨_,_,_,_,_,_,h⟩:=hrin;exact h
    have hcb:c<4294967296:=by obtain ⟨_,_,_,_,_,h,_⟩:=hrin;exact h
    by_cases hltb:m<b.length
    ·obtain ⟨b2,o2,rfl,hlt2,hcy⟩:=(r2.keep hbi).at_ hltb
     obtain ⟨y,hy⟩:∃y,b[m]=y:=⟨_,rfl⟩
     rw [hy]at hcy
     have hY:=Lib.hid (getD_of hltb hy)
     have hyb:y<4294967296:=by rw [←hy];exact dig_get r2.1 hltb
     clear hy
     obtain ⟨o,hoc,hof,hob,hstep⟩:=hrin.cell hltb
     have hst:=Lib.hid (hstep y _ hY.out hxb hyb rfl (Nat.le_refl _))
     clear hstep
     have hmul:x*y≤18446744065119617025:=Nat.mul_le_mul (show x≤4294967295 by omega) (show y≤4294967295 by omega)
     have hmi:(x:Int)*(y:Int)≤18446744065119617025:=by rw [←Int.natCast_mul];omega
     have hm0:0≤(x:Int)*(y:Int):=by rw [←Int.natCast_mul];omega
     go_wp2
     go_roundw
     case rel=>exact ⟨m+1,(x*y+o+c) / 4294967296,by omega,by go_num,vint (by rw [←Int.natCast_mul];omega),hst.out _ (by rw [←Int.natCast_mul];omega)⟩
     case measure=>simp [intOf];omega
    ·obtain rfl:m=b.length:=by omega
     obtain ⟨hoc,hof,hst⟩:=MulIn.last (z:=a.length-(k+1)) (by rw [show a.length-(k+1)+1=a.length-k from by omega];exact hrin) hX.out rfl (Nat.le_refl _) (u:=(c:Int)) rfl
     go_wp2
     go_roundw
     case rel=>exact ⟨k+1,by omega,by go_num,hst⟩
     case measure=>simp [intOf];omega
  ·obtain rfl:k=a.length:=by omega
   obtain ⟨l,hin,hll,hbl⟩:=hout.last (by omega)
   rw [V1'.out,V2'.out]at hin
   have hL:=Lib.hid hll;clear hll
   go_wp2_with fail
   have ht:=trim_raw _ _ _ _ _ hin _ rfl
   rw [hL.out]at ht
   refine ht.mono ?_
   clear ht
   rintro e w' ⟨rfl,rfl⟩
   go_wp2
   go_ret
   exact ⟨_,_,rfl,hin.trim,hbl⟩
end Go.Proofs.YtcggnmddcbhchaaGreatDoor
namespace Go.Proofs.YtcggnmddcbhchaaGreatDoor
open Go.RowKit Lim
def DlRel (w wr:World) (g k r d:Nat) (a:List Nat):Prop :=
 ∃q:List Nat,q.length=a.length-k∧Dig q∧Blk wr g (List.replicate k 0 ++ q)∧val q*d+r=val (a.drop k)∧r<d∧Below w.heap.size w wr
theorem DlRel.step {w wr:World} {g k r d:Nat} {a:List Nat} (h:DlRel w wr g (k+1) r d a) (hk:k<a.length) (hg:w.heap.size≤g) (hd:d<4294967296) {x t:Nat} (hx:a.getD k 0=x) (hxb:x<4294967296) (ht:t=r*4294967296+x) :
  wr.cell? ⟨g,k,none⟩=some (.int .u32 0)∧wr.frozen? ⟨g,k,none⟩=false∧t / d<4294967296∧t<18446744073709551616∧0<d ∧
  ∀u:Int,u=((t / d:Nat):Int)→DlRel w (wr.setCell ⟨g,k,none⟩ (.int .u32 u)) g k (t % d) d a:=by
 obtain ⟨q,hl,hdq,hb,hv,hr,hbe⟩:=h
 have hd0:0<d:=by omega
 have htd:t / d<4294967296:=by
  rw [Nat.div_lt_iff_lt_mul hd0]
  have:=Nat.mul_le_mul_right 4294967296 (show r+1≤d by omega)
  rw [Nat.mul_comm 4294967296 d]
  omega
 have e0:List.replicate (k+1) 0 ++ q=List.replicate k 0 ++ 0 :: q:=by
  rw [List.replicate_succ',List.append_assoc];rfl
 rw [e0]at hb
 refine ⟨?_,hb.frozen _,htd,by omega,hd0,fun u hu=>?_⟩
 ·have:=hb.cell (i:=k) (by simp)
  simpa [List.getElem_append_right]using this
 ·refine ⟨(t / d) :: q,by simp;omega,dig_cons.2 ⟨htd,hdq⟩,?_,?_,Nat.mod_lt _ hd0,hbe.setCell hg _⟩
  ·have:=hb.set k _ hu
   rw [List.set_append_right _ _ (by simp)]at this
   simpa using this
  ·have h1:=val_drop_cons a k hk
   rw [val_cons]
   refine div_step hv ht ?_
   rw [h1,←getD_of hk rfl,hx]
theorem DlRel.last {w wr:World} {g r d:Nat} {a:List Nat} (h:DlRel w wr g 0 r d a) (hL:a.length≤4398046511104) :
  r=val a % d∧∃l,Raw wr (some ⟨g,0,none⟩) a.length l (val a / d)∧l.length=a.length∧Below w.heap.size w wr:=by
 obtain ⟨q,hl,hdq,hb,hv,hr,hbe⟩:=h
 rw [List.drop_zero]at hv
 simp only [List.replicate_zero,List.nil_append]at hb
 have h1:val a / d=val q:=by
  rw [←hv,Nat.add_comm,Nat.mul_comm,Nat.add_mul_div_left _ _ (by omega),Nat.div_eq_of_lt hr];omega
 have h2:val a % d=r:=by
  rw [←hv,Nat.add_comm,Nat.mul_comm,Nat.add_mul_mod_self_left,Nat.mod_eq_of_lt hr]
 exact ⟨h2.symm,q,⟨hb.rd hdq,by omega,by omega,h1.symm⟩,by omega,hbe⟩
theorem or_shift (r x:Nat) (hx:x<4294967296) (hr:r<4294967296):bits .or .u64 ((r:Int)*4294967296) (x:Int)=((r*4294967296+x:Nat):Int):=by
 have h:=u64_or_nat (r*4294967296) x (by omega) (by omega)
 rw [show ((r*4294967296:Nat):Int)=(r:Int)*4294967296 from by omega]at h
 rw [h]
 have h2:=Nat.two_pow_add_eq_or_of_lt (show x<2 ^ 32 by omega) r
 rw [Nat.mul_comm r 4294967296]
 exact congrArg Int.ofNat h2.symm
set_option maxHeartbeats 1000000 in
theorem divLimb_any (A1:Option Addr) (c1 n1 d:Nat) (a:List Nat) (w:World) (h1:In w A1 c1 a n1) (hd:0<d) (hdb:d<4294967296) :
  Calls Tryz.prog 125 #[.slice A1 a.length c1,.int .u32 (d:Int)] w fun e w'=>∃A c r,e=.returned (.tuple #[.slice A (limbs (n1 / d)).length c,.int .u32 ((r:Nat):Int)])∧Hid (r=n1 % d)∧Out w' A c (n1 / d)∧Below w.heap.size w w':=by
 have r1:=h1.rd
 have k1:=h1.lim
 have V1':=Lib.hid h1.val
 have hmk:=made a.length (by omega)
 go_enter Tryz.func125,Tryz.ntmps125
 go_wp2_with fail
 go_loopw [7,8] (fun r i wr=>∃k c:Nat,k≤a.length∧i=.int .i64 ((k:Int)-1)∧r=.int .u64 (c:Int)∧DlRel w wr w.heap.size k c d a) (fun _ i _=>(intOf i+1).toNat)
 case atStart =>
  exact ⟨a.length,0,by omega,rfl,rfl,[],by simp,dig_nil,by rw [List.append_nil];exact Blk.new w _,by simp [val],hd,(Below.refl _ _).alloc (Nat.le_refl _) _⟩
 case round =>
  obtain ⟨k,r,hk,rfl,rfl,hrel⟩:=hrel
  have hbe:Below w.heap.size w wr:=by obtain ⟨_,_,_,_,_,_,h⟩:=hrel;exact h
  have hrd:r<d:=by obtain ⟨_,_,_,_,_,h,_⟩:=hrel;exact h
  rcases Nat.eq_zero_or_pos k with h0|h0
  ·subst h0
   obtain ⟨hr,l,hin,hll,hbl⟩:=hrel.last (by omega)
   rw [V1'.out]at hin hr
   have hL:=Lib.hid hll;clear hll
   have hR:=Lib.hid hr;clear hr
   go_wp2_with fail
   have ht:=trim_raw _ _ _ _ _ hin _ rfl
   rw [hL.out]at ht
   refine ht.mono ?_
   clear ht
   rintro e w' ⟨rfl,rfl⟩
   go_wp2
   go_ret2
   exact ⟨_,_,r,rfl,hR,hin.trim,hbl⟩
  ·obtain ⟨j,rfl⟩:∃j,k=j+1:=⟨k-1,by omega⟩
   rw [show (((j+1:Nat):Int)-1)=(j:Int)from by omega]
   have ja:j<a.length:=by omega
   obtain ⟨b1,o1,rfl,hlt1,hcx⟩:=(r1.keep hbe).at_ ja
   obtain ⟨x,hx⟩:∃x,a[j]=x:=⟨_,rfl⟩
   rw [hx]at hcx
   have hX:=Lib.hid (getD_of ja hx)
   have hxb:x<4294967296:=by rw [←hx];exact dig_get r1.1 ja
   clear hx
   have hor:=or_shift r x hxb (by omega)
   obtain ⟨t,ht⟩:∃t,t=r*4294967296+x:=⟨_,rfl⟩
   rw [←ht]at hor
   obtain ⟨hoc,hof,htd,htb,hd0,hst⟩:=hrel.step ja (Nat.le_refl _) hdb hX.out hxb ht
   have hT:=Lib.hid ht;clear ht
   have hST:=Lib.hid hst;clear hst
   go_wp2
   go_roundw
   case rel=>exact ⟨j,t % d,by omega,rfl,vint (by rw [Int.natCast_emod]),hST.out _ (by rw [←Int.natCast_ediv,IntKind.wrap_u64];clear hST;generalize t / d=z at *;omega)⟩
   case measure=>simp [intOf]
end Go.Proofs.YtcggnmddcbhchaaGreatDoor
namespace Go.Proofs.YtcggnmddcbhchaaGreatDoor
open Go.RowKit Lim
def ShlRel (w wr:World) (g i sh:Nat) (a:List Nat):Prop :=
 ∃(s:List Nat) (c:Nat),s.length=i∧Dig s∧Blk wr g (s ++ c :: List.replicate (a.length-i) 0)∧val s+pw i*c=val (a.take i)*2 ^ sh∧c<2 ^ sh∧Below w.heap.size w wr
theorem two_pow_split (sh:Nat) (hs:sh<32):2 ^ sh*2 ^ (32-sh)=4294967296:=by
 rw [←Nat.pow_add,show sh+(32-sh)=32 from by omega]
theorem two_pow_le (sh:Nat) (hs:sh<32):2 ^ sh≤2147483648:=Nat.pow_le_pow_right (show 0<2 by omega) (show sh≤31 by omega)
theorem mod_shift (x sh:Nat) (hs:sh<32):x*2 ^ sh % 4294967296=2 ^ sh*(x % 2 ^ (32-sh)):=by
 rw [←two_pow_split sh hs,Nat.mul_comm x,Nat.mul_mod_mul_left]
theorem shl_facts (x sh c:Nat) (hs:sh<32) (hx:x<4294967296) (hc:c<2 ^ sh) :
  x*2 ^ sh<18446744073709551616∧x*2 ^ sh / 4294967296<2 ^ sh∧c+x*2 ^ sh % 4294967296<4294967296∧c ||| x*2 ^ sh % 4294967296=c+x*2 ^ sh % 4294967296:=by
 have h1:=two_pow_le sh hs
 have hp:=Nat.two_pow_pos sh
 have h2:x*2 ^ sh<4294967296*2 ^ sh:=Nat.mul_lt_mul_of_pos_right hx hp
 refine ⟨by omega,?_,?_,?_⟩
 ·rw [Nat.div_lt_iff_lt_mul (by omega),Nat.mul_comm (2 ^ sh)];exact h2
 ·rw [mod_shift x sh hs]
  have h3:x % 2 ^ (32-sh)+1≤2 ^ (32-sh):=Nat.mod_lt _ (Nat.two_pow_pos _)
  have h4:=Nat.mul_le_mul_left (2 ^ sh) h3
  rw [two_pow_split sh hs,Nat.mul_add,Nat.mul_one]at h4
  omega
 ·rw [mod_shift x sh hs,Nat.or_comm,←Nat.two_pow_add_eq_or_of_lt hc,Nat.add_comm]
theorem or_u32 (a b z:Nat) (ha:a<4294967296) (hb:b<4294967296) (h:a ||| b=z):bits .or .u32 (a:Int) (b:Int)=(z:Int):=by
 rw [u32_or_nat a b ha hb,h]
theorem ShlRel.step {w wr:World} {g k sh:Nat} {a s:List Nat} {c x T:Nat} (hsl:s.length=k) (hds:Dig s) (hbk:Blk wr g (s ++ c :: List.replicate (a.length-k) 0)) (hv:val s+pw k*c=val (a.take k)*2 ^ sh) (hbe:Below w.heap.size w wr)
  (hk:k<a.length) (hg:w.heap.size≤g) (hx:a.getD k 0=x) (hT:T=x*2 ^ sh) (h1:T / 4294967296<2 ^ sh) (h2:c+T % 4294967296<4294967296) {u v:Int} (hu:u=((c+T % 4294967296:Nat):Int)) (hw:v=((T / 4294967296:Nat):Int)) :
  ShlRel w ((wr.setCell ⟨g,k,none⟩ (.int .u32 u)).setCell ⟨g,k+1,none⟩ (.int .u32 v)) g (k+1) sh a:=by
 refine ⟨s ++ [c+T % 4294967296],T / 4294967296,by simp [hsl],dig_snoc hds h2,?_,?_,h1,(hbe.setCell hg _).setCell hg _⟩
 ·have:=(hbk.set k _ hu).set (k+1) _ hw
  rw [show a.length-k=(a.length-(k+1))+1 from by omega,←hsl,List.set_append_right _ _ (Nat.le_refl _),Nat.sub_self,List.set_cons_zero,List.set_append_right _ _ (by omega),show s.length+1-s.length=1 from by omega,List.set_cons_succ,List.replicate_succ,List.set_cons_zero]at this
  rw [←hsl,List.append_assoc]
  exact this
 ·rw [val_snoc,hsl,pw_succ,val_take_succ',hx]
  have e:T=T % 4294967296+4294967296*(T / 4294967296):=by omega
  generalize T % 4294967296=m at *
  generalize T / 4294967296=d at *
  have e2:pw k*(m+4294967296*d)=pw k*(x*2 ^ sh):=by rw [←e,hT]
  grind
set_option maxHeartbeats 1000000 in
theorem shiftLeft_any (A1:Option Addr) (c1 n1 sh:Nat) (a:List Nat) (w:World) (h1:In w A1 c1 a n1) (hs:sh<32) :
  Calls Tryz.prog 230 #[.slice A1 a.length c1,.int .i64 (sh:Int)] w fun e w'=>e=.returned (.slice (some ⟨w.heap.size,0,none⟩) (a.length+1) (a.length+1)) ∧
   ∃l,l.length=a.length+1∧Dig l∧Blk w' w.heap.size l∧val l=n1*2 ^ sh∧Below w.heap.size w w':=by
 have r1:=h1.rd
 have k1:=h1.lim
 have V1':=Lib.hid h1.val
 have hmk:=made (a.length+1) (by omega)
 rw [show ((a.length+1:Nat):Int)=(a.length:Int)+1 from by omega]at hmk
 go_enter Tryz.func230,Tryz.ntmps230
 go_wp2_with fail
 go_loopw [15] (fun i wr=>∃k:Nat,k≤a.length∧i=.int .i64 (k:Int)∧ShlRel w wr w.heap.size k sh a) (fun i _=>a.length-(intOf i).toNat)
 case atStart =>
  exact ⟨0,by omega,rfl,[],0,rfl,dig_nil,by simpa [List.replicate_succ]using Blk.new w (List.replicate (a.length+1) 0),by simp [val],Nat.two_pow_pos sh,(Below.refl _ _).alloc (Nat.le_refl _) _⟩
 case round =>
  obtain ⟨k,hk,rfl,hrel⟩:=hrel
  by_cases hlt:k<a.length
  ·obtain ⟨s,c,hsl,hds,hbk,hv,hc,hbe⟩:=hrel
   obtain ⟨b1,o1,rfl,hlt1,hcx⟩:=(r1.keep hbe).at_ hlt
   obtain ⟨x,hx⟩:∃x,a[k]=x:=⟨_,rfl⟩
   rw [hx]at hcx
   have hX:=Lib.hid (getD_of hlt hx)
   have hxb:x<4294967296:=by rw [←hx];exact dig_get r1.1 hlt
   clear hx
   have hst0:wr.cell? ⟨w.heap.size,k,none⟩=some (.int .u32 (c:Int)):=by
    have:=hbk.cell (i:=k) (by simp;omega)
    rw [List.getElem_append_right (by omega)]at this
    simpa [hsl]using this
   have hf0:=hbk.frozen k
   have hst1:wr.cell? ⟨w.heap.size,k+1,none⟩=some (.int .u32 0):=by
    have:=hbk.cell (i:=k+1) (by simp;omega)
    rw [List.getElem_append_right (by omega)]at this
    simpa [hsl,show k+1-k=1 from by omega]using this
   have hf1:=hbk.frozen (k+1)
   obtain ⟨T,hT⟩:∃T,T=x*2 ^ sh:=⟨_,rfl⟩
   obtain ⟨t1,t2,t3,t4⟩:=shl_facts x sh c hs hxb hc
   rw [←hT]at t1 t2 t3 t4
   have hw:IntKind.u64.wrap ((x:Int)*2 ^ sh)=(T:Int):=by
    have e:((x:Int)*2 ^ sh)=((x*2 ^ sh:Nat):Int):=by simp
    rw [e,←hT,IntKind.wrap_u64];omega
   have hor:=or_u32 c (T % 4294967296) _ (by omega) (by omega) t4
   rw [show ((T % 4294967296:Nat):Int)=(T:Int) % 4294967296 from by omega]at hor
   have hst:=Lib.hid (fun (u v:Int)=>ShlRel.step hsl hds hbk hv hbe hlt (Nat.le_refl _) hX.out hT t2 t3 (u:=u) (v:=v))
   have t2':T / 4294967296<4294967296:=by omega
   clear t4 t2 hT hsl hv hbk hc
   go_wp2
   go_roundw
   case rel=>exact ⟨k+1,by omega,by go_num,hst.out _ _ (by omega) (by omega)⟩
   case measure=>simp [intOf];omega
  ·obtain rfl:k=a.length:=by omega
   obtain ⟨s,c,hsl,hds,hbk,hv,hc,hbe⟩:=hrel
   rw [Nat.sub_self,List.replicate_zero]at hbk
   have hp:=two_pow_le sh hs
   have hfin:∃l,l.length=a.length+1∧Dig l∧Blk wr w.heap.size l∧val l=n1*2 ^ sh∧Below w.heap.size w wr :=
    ⟨s ++ [c],by simp [hsl],dig_snoc hds (by omega),hbk,by rw [val_snoc,hsl,hv,List.take_of_length_le (Nat.le_refl _),V1'.out],hbe⟩
   have hFin:=Lib.hid hfin
   clear hfin hsl hv hc hp
   go_wp2
   go_ret
   exact ⟨rfl,hFin.out⟩
def shrL (sh:Nat):List Nat→List Nat
 | []=>[]
 | x :: xs=>((x+4294967296*xs.getD 0 0) / 2 ^ sh % 4294967296) :: shrL sh xs
theorem shrL_length (sh:Nat) (l:List Nat):(shrL sh l).length=l.length:=by
 induction l with
 | nil=>rfl
 | cons x xs ih=>simp [shrL,ih]
theorem shrL_dig (sh:Nat) (l:List Nat):Dig (shrL sh l):=by
 induction l with
 | nil=>exact dig_nil
 | cons x xs ih=>exact dig_cons.2 ⟨Nat.mod_lt _ (by omega),ih⟩
theorem shrL_get (sh:Nat) (l:List Nat) (k:Nat) (hk:k<l.length):(shrL sh l)[k]'(by rw [shrL_length];exact hk)=(l[k]+4294967296*l.getD (k+1) 0) / 2 ^ sh % 4294967296:=by
 induction l generalizing k with
 | nil=>simp at hk
 | cons x xs ih =>
  cases k with
  | zero=>simp [shrL]
  | succ k =>
   simp only [shrL,List.getElem_cons_succ]
   rw [ih k (by simpa using hk)]
   simp
theorem val_head (l:List Nat) (h:Dig l):val l % 4294967296=l.getD 0 0:=by
 cases l with
 | nil=>rfl
 | cons x xs =>
  have:=(dig_cons.1 h).1
  rw [val_cons]
  simp
  omega
theorem shr_one (x y sh:Nat) (hs:sh<32) (hx:x<4294967296):(x+4294967296*y) / 2 ^ sh=(x+4294967296*(y % 4294967296)) / 2 ^ sh % 4294967296+4294967296*(y / 2 ^ sh):=by
 have hp:=Nat.two_pow_pos sh
 have hP:=two_pow_split sh hs
 have hm:y % 4294967296 % 2 ^ sh=y % 2 ^ sh:=by rw [←hP,Nat.mod_mul_right_mod]
 have key:∀z:Nat,(x+4294967296*z) / 2 ^ sh=(x+4294967296*(z % 2 ^ sh)) / 2 ^ sh+4294967296*(z / 2 ^ sh):=by
  intro z
  have e:x+4294967296*z=(x+4294967296*(z % 2 ^ sh))+2 ^ sh*(4294967296*(z / 2 ^ sh)):=by
   have:=Nat.div_add_mod z (2 ^ sh)
   generalize z % 2 ^ sh=r at *
   generalize z / 2 ^ sh=q at *
   generalize 2 ^ sh=p at *
   subst this
   grind
  rw [e,Nat.add_mul_div_left _ _ hp]
 have hlt:(x+4294967296*(y % 2 ^ sh)) / 2 ^ sh<4294967296:=by
  rw [Nat.div_lt_iff_lt_mul hp]
  have:=Nat.mod_lt y hp
  have:=Nat.mul_le_mul_left 4294967296 (show y % 2 ^ sh+1≤2 ^ sh by omega)
  omega
 rw [key y,key (y % 4294967296),hm,Nat.add_mul_mod_self_left,Nat.mod_eq_of_lt hlt]
theorem val_shrL (sh:Nat) (hs:sh<32) (l:List Nat) (h:Dig l):val (shrL sh l)=val l / 2 ^ sh:=by
 induction l with
 | nil=>simp [shrL,val]
 | cons x xs ih =>
  have h1:=dig_cons.1 h
  rw [shrL,val_cons,val_cons,ih h1.2,shr_one x (val xs) sh hs h1.1,val_head xs h1.2]
theorem take_zeros_set (s:List Nat) (n i x:Nat) (hi:i<s.length) (hx:s[i]=x) (hn:n=s.length):(s.take i ++ List.replicate (n-i) 0).set i x=s.take (i+1) ++ List.replicate (n-(i+1)) 0:=by
 subst hn
 have hl:(s.take i).length=i:=by simp;omega
 have h:=set_here (s.take i) (s.length-(i+1)) x
 rw [hl,show s.length-(i+1)+1=s.length-i from by omega]at h
 rw [h,List.take_succ_eq_append_getElem hi,hx]
set_option maxHeartbeats 1000000 in
theorem shiftRight_any (A1:Option Addr) (c1 n1 sh:Nat) (a:List Nat) (w:World) (h1:Raw w A1 c1 a n1) (hs:sh<32) :
  Calls Tryz.prog 234 #[.slice A1 a.length c1,.int .i64 (sh:Int)] w fun e w'=>e=.returned (.slice (some ⟨w.heap.size,0,none⟩) a.length a.length) ∧
   ∃l,l.length=a.length∧Raw w' (some ⟨w.heap.size,0,none⟩) a.length l (n1 / 2 ^ sh)∧Below w.heap.size w w':=by
 have r1:=h1.rd
 have k1:=h1.lim
 have V1':=Lib.hid h1.val
 have hmk:=made a.length (by omega)
 have hsl:=shrL_length sh a
 have hSL:=Lib.hid hsl;clear hsl
 go_enter Tryz.func234,Tryz.ntmps234
 go_wp2_with fail
 go_loopw [14] (fun i wr=>∃k:Nat,k≤a.length∧i=.int .i64 (k:Int)∧Blk wr w.heap.size ((shrL sh a).take k ++ List.replicate (a.length-k) 0)∧Below w.heap.size w wr) (fun i _=>a.length-(intOf i).toNat)
 case atStart =>
  exact ⟨0,by omega,rfl,by simpa using Blk.new w (List.replicate a.length 0),(Below.refl _ _).alloc (Nat.le_refl _) _⟩
 case round =>
  obtain ⟨k,hk,rfl,hbk,hbe⟩:=hrel
  by_cases hlt:k<a.length
  ·obtain ⟨b1,o1,rfl,hlt1,hcx⟩:=(r1.keep hbe).at_ hlt
   obtain ⟨x,hx⟩:∃x,a[k]=x:=⟨_,rfl⟩
   rw [hx]at hcx
   have hxb:x<4294967296:=by rw [←hx];exact dig_get r1.1 hlt
   have hst0:wr.cell? ⟨w.heap.size,k,none⟩=some (.int .u32 0):=by
    have:=hbk.cell (i:=k) (by simp [hSL.out];omega)
    rw [List.getElem_append_right (by simp;omega)]at this
    simpa using this
   have hf0:=hbk.frozen k
   obtain ⟨y,hy⟩:∃y,a.getD (k+1) 0=y:=⟨_,rfl⟩
   have hyb:y<4294967296:=by rw [←hy];exact dig_getD r1.1 _
   obtain ⟨T,hT⟩:∃T,T=y*4294967296+x:=⟨_,rfl⟩
   have hst:=Lib.hid (fun (u:Int) (hu:u=((T / 2 ^ sh % 4294967296:Nat):Int))=>(take_zeros_set (shrL sh a) a.length k (T / 2 ^ sh % 4294967296) (by rw [hSL.out];exact hlt) (by rw [shrL_get sh a k hlt,hx,hy,hT,Nat.mul_comm,Nat.add_comm]) hSL.out.symm) ▸ hbk.set k _ hu)
   by_cases hlt2:k+1<a.length
   ·have hcy:=((r1.keep hbe).2 (by omega))
    obtain ⟨b2,o2,e2,_,hcc⟩:=hcy
    injection e2 with e2
    injection e2 with e3 e4
    subst e3 e4
    have hcy:=hcc (k+1) hlt2
    rw [show a[k+1]=y from by rw [←getD_of hlt2 rfl];exact hy]at hcy
    have hor:bits .or .u64 (x:Int) ((y:Int)*4294967296)=(T:Int):=by
     have h:=u64_or_nat x (y*4294967296) (by omega) (by omega)
     rw [show ((y*4294967296:Nat):Int)=(y:Int)*4294967296 from by omega]at h
     rw [h,Nat.or_comm,hT,Nat.mul_comm y,Nat.two_pow_add_eq_or_of_lt (show x<2 ^ 32 by omega) y]
    have hTb:T<18446744073709551616:=by omega
    clear hx hy hT hcc hbk
    go_wp2
    go_roundw
    case rel=>exact ⟨k+1,by omega,by go_num,hst.out _ (by simp),hbe.setCell (Nat.le_refl _) _⟩
    case measure=>simp [intOf];omega
   ·have hy0:y=0:=by rw [←hy];exact getD_out (by omega)
    have hTx:T=x:=by omega
    subst hTx
    clear hx hy hT hy0 hbk
    go_wp2
    go_roundw
    case rel=>exact ⟨k+1,by omega,by go_num,hst.out _ (by simp),hbe.setCell (Nat.le_refl _) _⟩
    case measure=>simp [intOf];omega
  ·obtain rfl:k=a.length:=by omega
   have hfin:∃l,l.length=a.length∧Raw wr (some ⟨w.heap.size,0,none⟩) a.length l (n1 / 2 ^ sh)∧Below w.heap.size w wr:=by
    rw [Nat.sub_self,List.replicate_zero,List.append_nil,List.take_of_length_le (by rw [hSL.out];exact Nat.le_refl _)]at hbk
    exact ⟨_,hSL.out,⟨hbk.rd (shrL_dig _ _),by rw [hSL.out];exact Nat.le_refl _,by rw [hSL.out];omega,by rw [val_shrL sh hs a r1.1,V1'.out]⟩,hbe⟩
   have hFin:=Lib.hid hfin
   clear hfin
   go_wp2
   go_ret
   exact ⟨rfl,hFin.out⟩
end Go.Proofs.YtcggnmddcbhchaaGreatDoor
namespace Go.Proofs.YtcggnmddcbhchaaGreatDoor
open Go.RowKit Lim
def EsRel (U V top v1 q r:Nat):Prop:=q*v1+r=top∧U<(q+1)*V∧r<4294967296
theorem EsRel.start {U V u0 u1 u2 v1 v2 P U0 V0:Nat} (h:Top U V u0 u1 u2 v1 v2 P U0 V0) {top:Nat} (ht:top=u0*4294967296+u1):EsRel U V top v1 (top / v1) (top % v1):=by
 have h1:=h.norm
 have h2:=h.bv1
 have e:=Nat.div_add_mod top v1
 have hm:=Nat.mod_lt top (show 0<v1 by omega)
 have hc:=Nat.mul_comm v1 (top / v1)
 refine ⟨by omega,h.not_small ?_,by omega⟩
 rw [←ht,Nat.add_mul,Nat.one_mul]
 omega
theorem EsRel.down {U V u0 u1 u2 v1 v2 P U0 V0 q r:Nat} (h:Top U V u0 u1 u2 v1 v2 P U0 V0) {top:Nat} (ht:top=u0*4294967296+u1) (hr:EsRel U V top v1 q r) (hc:4294967296≤q∨r*4294967296+u2<q*v2) :
  1≤q∧(r+v1<4294967296→EsRel U V top v1 (q-1) (r+v1))∧(4294967296≤r+v1→Near U V (q-1)):=by
 obtain ⟨e,h1,h2⟩:=hr
 have hlt:U<q*V:=by
  rcases hc with hc|hc
  ·have:=h.lt
   have:=Nat.mul_le_mul_right V hc
   rw [Nat.mul_comm V]at *
   omega
  ·exact h.too_great (by rw [e,ht]) hc
 have hq:1≤q:=by
  rcases Nat.eq_zero_or_pos q with h0|h0
  ·subst h0;omega
  ·exact h0
 obtain ⟨k,rfl⟩:∃k,q=k+1:=⟨q-1,by omega⟩
 rw [Nat.add_sub_cancel]
 have e2:k*v1+(r+v1)=top:=by rw [←e];grind
 refine ⟨by omega,fun hb=>⟨e2,hlt,hb⟩,fun hb=>?_⟩
 have hk:=h.lt_base (by rw [e2,ht]) hb
 refine ⟨hlt,h.near (by rw [e2,ht]) hk ?_,hk⟩
 have a1:k*v2≤4294967296*4294967296:=Nat.mul_le_mul (by omega) (by have:=h.bv2;omega)
 have a2:=Nat.mul_le_mul_right 4294967296 hb
 omega
theorem EsRel.stop {U V u0 u1 u2 v1 v2 P U0 V0 q r:Nat} (h:Top U V u0 u1 u2 v1 v2 P U0 V0) {top:Nat} (ht:top=u0*4294967296+u1) (hr:EsRel U V top v1 q r) (hq:q<4294967296) (hc:q*v2≤r*4294967296+u2):Near U V q :=
 ⟨hr.2.1,h.near (by rw [hr.1,ht]) hq hc,hq⟩
set_option maxHeartbeats 2000000 in
theorem estimate_any (g1 o1 c1 g2 o2 c2 m:Nat) (w:World) {U V u0 u1 u2 v1 v2 P U0 V0:Nat} (hT:Top U V u0 u1 u2 v1 v2 P U0 V0) (hm:m≤4398046511104)
  (k0:w.cell? ⟨g1,o1+(m+2),none⟩=some (.int .u32 (u0:Int))) (k1:w.cell? ⟨g1,o1+(m+1),none⟩=some (.int .u32 (u1:Int))) (k2:w.cell? ⟨g1,o1+m,none⟩=some (.int .u32 (u2:Int)))
  (j1:w.cell? ⟨g2,o2+(m+1),none⟩=some (.int .u32 (v1:Int))) (j2:w.cell? ⟨g2,o2+m,none⟩=some (.int .u32 (v2:Int))) :
  Calls Tryz.prog 231 #[.slice (some ⟨g1,o1,none⟩) (m+3) c1,.slice (some ⟨g2,o2,none⟩) (m+2) c2] w fun e w'=>∃q:Nat,e=.returned (.int .u64 (q:Int))∧Near U V q∧∃n,w'=w.drewN n:=by
 have b0:=hT.bu0
 have b1:=hT.bu1
 have b2:=hT.bu2
 have d1:=hT.bv1
 have d2:=hT.bv2
 have dn:=hT.norm
 obtain ⟨top,htop⟩:∃top,top=u0*4294967296+u1:=⟨_,rfl⟩
 have hor:=or_shift u0 u1 b1 b0
 rw [←htop]at hor
 have htb:top<18446744073709551616:=by omega
 have hs:=EsRel.start hT htop
 have hTop:=Lib.hid htop;clear htop
 go_enter Tryz.func231,Tryz.ntmps231
 go_wp2
 go_quiet (fail)
 go_wp2
 go_loopw [7,8] (fun dq dr wr=>∃q r n:Nat,q<18446744073709551616∧dq=.int .u64 (q:Int)∧dr=.int .u64 (r:Int)∧EsRel U V top v1 q r∧wr=w.drewN n) (fun dq _ _=>(intOf dq).toNat)
 case atStart =>
  have hq:top / v1≤top:=Nat.div_le_self _ _
  exact ⟨top / v1,top % v1,nq,by omega,vint (by rw [←Int.natCast_ediv,IntKind.wrap_u64];generalize top / v1=z at *;omega),vint (by rw [Int.natCast_emod]),hs,rfl⟩
 case round =>
  obtain ⟨q,r,n,hqb,rfl,rfl,hr,rfl⟩:=hrel
  have hrb:=hr.2.2
  obtain ⟨z,hz⟩:∃z,z=r*4294967296+u2:=⟨_,rfl⟩
  have hor2:=or_shift r u2 b2 hrb
  rw [←hz]at hor2
  have hzb:z<18446744073709551616:=by omega
  have hZ:=Lib.hid hz;clear hz
  have hR:=Lib.hid hr;clear hr
  have i0:(0:Int)≤(m:Int):=by omega
  have i1:(m:Int)+2-1=(m:Int)+1:=by omega
  have i2:(m:Int)+2-2=(m:Int):=by omega
  have i3:(m:Int)<(m:Int)+2:=by omega
  have i4:(m:Int)<(m:Int)+3:=by omega
  have i5:IntKind.i64.wrap ((m:Int)+2-2)=(m:Int):=by rw [IntKind.wrap_i64];omega
  by_cases hge:4294967296≤q
  ·obtain ⟨p1,p2,p3⟩:=EsRel.down hT hTop.out hR.out (.inl hge)
   have P2:=Lib.hid p2;clear p2
   have P3:=Lib.hid p3;clear p3
   have hg:((q:Int) / 4294967296 != 0)=true:=by rw [bne_iff_ne];omega
   by_cases hbr:r+v1<4294967296
   ·have hg2:(((r:Int)+(v1:Int)) / 4294967296 != 0)=false:=by simp;omega
    go_wp2
    go_quiet (fail)
    go_wp2
    go_roundw
    case rel=>exact ⟨q-1,r+v1,_,by omega,vint (by omega),vint (by omega),P2.out hbr,rfl⟩
    case measure=>simp [intOf];omega
   ·have hg2:(((r:Int)+(v1:Int)) / 4294967296 != 0)=true:=by rw [bne_iff_ne];omega
    go_wp2
    go_quiet (fail)
    go_wp2
    go_ret
    exact ⟨q-1,ret_int (by omega),P3.out (by omega),_,rfl⟩
  have hg:((q:Int) / 4294967296 != 0)=false:=by simp;omega
  have hmul:q*v2≤18446744065119617025:=Nat.mul_le_mul (show q≤4294967295 by omega) (show v2≤4294967295 by omega)
  have hmi:(q:Int)*(v2:Int)≤18446744065119617025:=by rw [←Int.natCast_mul];omega
  have hm0:0≤(q:Int)*(v2:Int):=by rw [←Int.natCast_mul];omega
  have hwm:IntKind.u64.wrap ((q:Int)*(v2:Int))=(q:Int)*(v2:Int):=by rw [IntKind.wrap_u64];omega
  by_cases hgt:z<q*v2
  ·obtain ⟨p1,p2,p3⟩:=EsRel.down hT hTop.out hR.out (.inr (by rw [←hZ.out];exact hgt))
   have P2:=Lib.hid p2;clear p2
   have P3:=Lib.hid p3;clear p3
   have hgi:(z:Int)<(q:Int)*(v2:Int):=by rw [←Int.natCast_mul];omega
   by_cases hbr:r+v1<4294967296
   ·have hg2:(((r:Int)+(v1:Int)) / 4294967296 != 0)=false:=by simp;omega
    go_wp2
    go_quiet (fail)
    go_wp2
    go_roundw
    case rel=>exact ⟨q-1,r+v1,_,by omega,vint (by omega),vint (by omega),P2.out hbr,rfl⟩
    case measure=>simp [intOf];omega
   ·have hg2:(((r:Int)+(v1:Int)) / 4294967296 != 0)=true:=by rw [bne_iff_ne];omega
    go_wp2
    go_quiet (fail)
    go_wp2
    go_ret
    exact ⟨q-1,ret_int (by omega),P3.out (by omega),_,rfl⟩
  ·have hn:=EsRel.stop hT hTop.out hR.out (by omega) (by rw [←hZ.out];omega)
   have hgi:decide ((z:Int)<(q:Int)*(v2:Int))=false:=by rw [←Int.natCast_mul];simp;omega
   go_wp2
   go_quiet (fail)
   go_wp2
   go_ret
   exact ⟨q,rfl,hn,by simp only [World.drewN_drewN];exact ⟨_,rfl⟩⟩
end Go.Proofs.YtcggnmddcbhchaaGreatDoor
namespace Go.Proofs.YtcggnmddcbhchaaGreatDoor
open Go.RowKit Lim
def Mid (w:World) (g:Nat) (pre q p post:List Nat) (i:Nat):Prop:=q.length=i∧Dig q∧Blk w g (pre ++ (q ++ p.drop i) ++ post)
theorem Mid.cell {w:World} {g i:Nat} {pre q p post:List Nat} (h:Mid w g pre q p post i) (hi:i<p.length):w.cell? ⟨g,pre.length+i,none⟩=some (.int .u32 ((p[i]:Nat):Int))∧w.frozen? ⟨g,pre.length+i,none⟩=false:=by
 obtain ⟨hq,hd,hb⟩:=h
 have h1:=mid_get (pre:=pre) (post:=post) hq hi
 obtain ⟨hl,he⟩:=List.getElem?_eq_some_iff.1 h1
 have h2:=hb.cell hl
 rw [he]at h2
 exact ⟨h2,hb.frozen _⟩
theorem Mid.set {w:World} {g i:Nat} {pre q p post:List Nat} (h:Mid w g pre q p post i) (hi:i<p.length) {x:Nat} (hx:x<4294967296) {u:Int} (hu:u=(x:Int)):Mid (w.setCell ⟨g,pre.length+i,none⟩ (.int .u32 u)) g pre (q ++ [x]) p post (i+1):=by
 obtain ⟨hq,hd,hb⟩:=h
 have h1:=hb.set (pre.length+i) x hu
 rw [mid_set hq hi]at h1
 exact ⟨by simp [hq],dig_snoc hd hx,h1⟩
def SbRel (w wr:World) (g:Nat) (pre p post v:List Nat) (dg i c b:Nat):Prop :=
 ∃q,Mid wr g pre q p post i∧val q+dg*val (v.take i)=val (p.take i)+(c+b)*pw i∧c<4294967296∧b≤1∧Only g w wr
theorem SbRel.step {w wr:World} {g dg k c b:Nat} {pre p post v:List Nat} (h:SbRel w wr g pre p post v dg k c b) (hk:k<p.length) {x d t:Nat} (hx:p.getD k 0=x) (hd:v.getD k 0=d) (hxb:x<4294967296) (ht:t=dg*d+c) (htb:t<18446744073709551616) {u:Int} (hu:u=((x:Int)-(t % 4294967296+b:Nat)) % 4294967296) :
  SbRel w (wr.setCell ⟨g,pre.length+k,none⟩ (.int .u32 u)) g pre p post v dg (k+1) (t / 4294967296) (bor x (t % 4294967296+b)):=by
 obtain ⟨q,hm,hv,hc,hb,ho⟩:=h
 have hu':u=(((x+4294967296-(t % 4294967296+b)) % 4294967296:Nat):Int):=by omega
 have hmm:(x+4294967296-(t % 4294967296+b)) % 4294967296+t % 4294967296+b=x+4294967296*bor x (t % 4294967296+b):=by unfold bor;split <;> omega
 refine ⟨_,hm.set hk (Nat.mod_lt _ (by omega)) hu',?_,by omega,by unfold bor;split <;> omega,ho.setCell _ _⟩
 rw [val_snoc,hm.1,val_take_succ',val_take_succ',hx,hd,pw_succ]
 exact subtract_step hv ht hmm
theorem SbRel.last {w wr:World} {g dg c b:Nat} {pre p post v:List Nat} (h:SbRel w wr g pre p post v dg v.length c b) (hl:p.length=v.length+1) {x:Nat} (hx:p.getD v.length 0=x) (hxb:x<4294967296) {u:Int} (hu:u=((x:Int)-(c+b:Nat)) % 4294967296) :
  ∃p',p'.length=p.length∧Dig p'∧Blk (wr.setCell ⟨g,pre.length+v.length,none⟩ (.int .u32 u)) g (pre ++ p' ++ post)∧val p'+dg*val v=val p+bor x (c+b)*pw p.length∧Only g w (wr.setCell ⟨g,pre.length+v.length,none⟩ (.int .u32 u)):=by
 obtain ⟨q,hm,hv,hc,hb,ho⟩:=h
 have hu':u=(((x+4294967296-(c+b)) % 4294967296:Nat):Int):=by omega
 have hmm:(x+4294967296-(c+b)) % 4294967296+(c+b)=x+4294967296*bor x (c+b):=by unfold bor;split <;> omega
 have h2:=hm.set (by omega) (Nat.mod_lt _ (by omega)) hu'
 generalize (x+4294967296-(c+b)) % 4294967296=m at *
 obtain ⟨h3,h4,h5⟩:=h2
 rw [←hl,List.drop_length,List.append_nil]at h5
 refine ⟨_,by rw [h3,hl],h4,h5,?_,ho.setCell _ _⟩
 rw [List.take_of_length_le (Nat.le_refl _)]at hv
 have e1:val p=val (p.take v.length)+pw v.length*x:=by
  have:=val_take_succ' p v.length
  rw [←hl,List.take_of_length_le (Nat.le_refl _),hx]at this
  exact this
 rw [val_snoc,hm.1,e1,hl,pw_succ]
 have:pw v.length*(m+(c+b))=pw v.length*(x+4294967296*bor x (c+b)):=by rw [hmm]
 grind
theorem bor_bne (x y:Nat):(((bor x y:Nat):Int) != 0)=decide (bor x y=1):=by unfold bor;split <;> rfl
theorem wrap_three (x t b:Nat):IntKind.u64.wrap (IntKind.u64.wrap ((x:Int)-(t:Int) % 4294967296)-b)=((x:Int)-(t % 4294967296+b:Nat)) % 18446744073709551616:=by rw [IntKind.wrap_u64,IntKind.wrap_u64];omega
theorem wrap_four (x c b:Nat):IntKind.u64.wrap (IntKind.u64.wrap ((x:Int)-(c:Int))-b)=((x:Int)-(c+b:Nat)) % 18446744073709551616:=by rw [IntKind.wrap_u64,IntKind.wrap_u64];omega
set_option maxHeartbeats 1000000 in
theorem subtract_core (g g2 o2 c1 c2 dg:Nat) (pre p post v:List Nat) (w:World) (hb:Blk w g (pre ++ p ++ post)) (hp:Dig p) (hl:p.length=v.length+1) (hne:g2≠g) (hv:Rd w (some ⟨g2,o2,none⟩) v) (hn:v.length≤4398046511104) (hdg:dg<4294967296) (hc1:v.length+1≤c1) :
  Calls Tryz.prog 232 #[.slice (some ⟨g,pre.length,none⟩) (v.length+1) c1,.slice (some ⟨g2,o2,none⟩) v.length c2,.int .u64 (dg:Int)] w fun e w'=>∃nb:Nat,nb≤1∧e=.returned (.bool (decide (nb=1))) ∧
   ∃p',p'.length=p.length∧Dig p'∧Blk w' g (pre ++ p' ++ post)∧val p'+dg*val v=val p+nb*pw p.length∧Only g w w':=by
 have hD:=hv.1
 go_enter Tryz.func232,Tryz.ntmps232
 go_wp2
 go_loopw [7,8,16] (fun cc bb i wr=>∃k c b:Nat,k≤v.length∧i=.int .i64 (k:Int)∧cc=.int .u64 (c:Int)∧bb=.int .u64 (b:Int)∧SbRel w wr g pre p post v dg k c b) (fun _ _ i _=>v.length-(intOf i).toNat)
 case atStart =>
  exact ⟨0,0,0,by omega,rfl,rfl,rfl,[],⟨rfl,dig_nil,by simpa using hb⟩,by simp [val],by omega,by omega,Only.refl _ _⟩
 case round =>
  obtain ⟨k,c,b,hk,rfl,rfl,rfl,hrel⟩:=hrel
  have hcb:c<4294967296:=by obtain ⟨_,_,_,h,_⟩:=hrel;exact h
  have hbb:b≤1:=by obtain ⟨_,_,_,_,h,_⟩:=hrel;exact h
  have ho:Only g w wr:=by obtain ⟨_,_,_,_,_,h⟩:=hrel;exact h
  have hkp:k<p.length:=by omega
  obtain ⟨x,hx⟩:∃x,p[k]=x:=⟨_,rfl⟩
  have hcx:wr.cell? ⟨g,pre.length+k,none⟩=some (.int .u32 (x:Int)):=by obtain ⟨q,hm,_⟩:=hrel;rw [←hx];exact (hm.cell hkp).1
  have hfx:wr.frozen? ⟨g,pre.length+k,none⟩=false:=by obtain ⟨q,hm,_⟩:=hrel;exact (hm.cell hkp).2
  have hX:=Lib.hid (getD_of hkp hx)
  have hxb:x<4294967296:=by rw [←hx];exact dig_get hp hkp
  clear hx
  by_cases hlt:k<v.length
  ·obtain ⟨b1,o1,e1,hlt1,hcy⟩:=(hv.only ho hne).at_ hlt
   injection e1 with e1
   injection e1 with e2 e3
   subst e2 e3
   obtain ⟨d,hd⟩:∃d,v[k]=d:=⟨_,rfl⟩
   rw [hd]at hcy
   have hY:=Lib.hid (getD_of hlt hd)
   have hdb:d<4294967296:=by rw [←hd];exact dig_get hD hlt
   clear hd
   have hmul:dg*d≤18446744065119617025:=Nat.mul_le_mul (show dg≤4294967295 by omega) (show d≤4294967295 by omega)
   obtain ⟨t,ht⟩:∃t,t=dg*d+c:=⟨_,rfl⟩
   have htb:t<18446744073709551616:=by omega
   have hmi:(dg:Int)*(d:Int)≤18446744065119617025:=by rw [←Int.natCast_mul];omega
   have hm0:0≤(dg:Int)*(d:Int):=by rw [←Int.natCast_mul];omega
   have htt:(dg:Int)*(d:Int)+(c:Int)=(t:Int):=by rw [←Int.natCast_mul];omega
   have hst:=Lib.hid (fun (u:Int)=>hrel.step hkp hX.out hY.out hxb ht htb (u:=u))
   clear ht
   go_wp2
   go_roundw
   case rel=>exact ⟨k+1,t / 4294967296,bor x (t % 4294967296+b),by omega,by go_num,vint (by omega),vint (by rw [wrap_three];exact bor_eq x _ hxb (by omega)),hst.out _ (by rw [wrap_three];omega)⟩
   case measure=>simp [intOf];omega
  ·obtain rfl:k=v.length:=by omega
   have hst:=Lib.hid (fun (u:Int)=>hrel.last hl hX.out hxb (u:=u))
   go_wp2
   go_ret
   refine ⟨bor x (c+b),by unfold bor;split <;> omega,?_,hst.out _ (by rw [wrap_four];omega)⟩
   rw [←bor_bne,←bor_eq x (c+b) hxb (by omega),←wrap_four]
   rfl
theorem subtract_no (g g2 o2 c1 c2 dg:Nat) (pre p post v:List Nat) (w:World) (hb:Blk w g (pre ++ p ++ post)) (hp:Dig p) (hl:p.length=v.length+1) (hne:g2≠g) (hv:Rd w (some ⟨g2,o2,none⟩) v) (hn:v.length≤4398046511104) (hdg:dg<4294967296) (hc1:v.length+1≤c1) (hle:dg*val v≤val p) :
  Calls Tryz.prog 232 #[.slice (some ⟨g,pre.length,none⟩) (v.length+1) c1,.slice (some ⟨g2,o2,none⟩) v.length c2,.int .u64 (dg:Int)] w fun e w'=>e=.returned (.bool false) ∧
   ∃p',p'.length=p.length∧Dig p'∧Blk w' g (pre ++ p' ++ post)∧val p'=val p-dg*val v∧Only g w w':=by
 refine (subtract_core g g2 o2 c1 c2 dg pre p post v w hb hp hl hne hv hn hdg hc1).mono ?_
 rintro e w' ⟨nb,hnb,rfl,p',h1,h2,h3,h4,h5⟩
 have hlt:=val_lt h2
 rw [h1]at hlt
 have h0:nb=0:=by
  rcases Nat.eq_zero_or_pos nb with h0|h0
  ·exact h0
  ·obtain rfl:nb=1:=by omega
   omega
 subst h0
 exact ⟨rfl,p',h1,h2,h3,by omega,h5⟩
theorem subtract_yes (g g2 o2 c1 c2 dg:Nat) (pre p post v:List Nat) (w:World) (hb:Blk w g (pre ++ p ++ post)) (hp:Dig p) (hl:p.length=v.length+1) (hne:g2≠g) (hv:Rd w (some ⟨g2,o2,none⟩) v) (hn:v.length≤4398046511104) (hdg:dg<4294967296) (hc1:v.length+1≤c1) (hlt:val p<dg*val v) :
  Calls Tryz.prog 232 #[.slice (some ⟨g,pre.length,none⟩) (v.length+1) c1,.slice (some ⟨g2,o2,none⟩) v.length c2,.int .u64 (dg:Int)] w fun e w'=>e=.returned (.bool true) ∧
   ∃p',p'.length=p.length∧Dig p'∧Blk w' g (pre ++ p' ++ post)∧val p'+dg*val v=val p+pw p.length∧Only g w w':=by
 refine (subtract_core g g2 o2 c1 c2 dg pre p post v w hb hp hl hne hv hn hdg hc1).mono ?_
 rintro e w' ⟨nb,hnb,rfl,p',h1,h2,h3,h4,h5⟩
 have h0:nb=1:=by
  rcases Nat.eq_zero_or_pos nb with h0|h0
  ·subst h0;omega
  ·omega
 subst h0
 exact ⟨rfl,p',h1,h2,h3,by omega,h5⟩
def AbRel (w wr:World) (g:Nat) (pre p post v:List Nat) (i c:Nat):Prop :=
 ∃q,Mid wr g pre q p post i∧val q+c*pw i=val (p.take i)+val (v.take i)∧c≤1∧Only g w wr
theorem AbRel.step {w wr:World} {g k c:Nat} {pre p post v:List Nat} (h:AbRel w wr g pre p post v k c) (hk:k<p.length) {x d:Nat} (hx:p.getD k 0=x) (hd:v.getD k 0=d) (hxb:x<4294967296) (hdb:d<4294967296) {u:Int} (hu:u=(((x+c+d) % 4294967296:Nat):Int)) :
  AbRel w (wr.setCell ⟨g,pre.length+k,none⟩ (.int .u32 u)) g pre p post v (k+1) ((x+c+d) / 4294967296):=by
 obtain ⟨q,hm,hv,hc,ho⟩:=h
 refine ⟨_,hm.set hk (Nat.mod_lt _ (by omega)) hu,?_,by omega,ho.setCell _ _⟩
 rw [val_snoc,hm.1,val_take_succ',val_take_succ',hx,hd,pw_succ]
 exact add_step hv rfl
theorem AbRel.last {w wr:World} {g c:Nat} {pre p post v:List Nat} (h:AbRel w wr g pre p post v v.length c) (hl:p.length=v.length+1) {x:Nat} (hx:p.getD v.length 0=x) {u:Int} (hu:u=(((x+c) % 4294967296:Nat):Int)) :
  ∃p',p'.length=p.length∧Dig p'∧Blk (wr.setCell ⟨g,pre.length+v.length,none⟩ (.int .u32 u)) g (pre ++ p' ++ post)∧(∃k,val p'+k*pw p.length=val p+val v)∧Only g w (wr.setCell ⟨g,pre.length+v.length,none⟩ (.int .u32 u)):=by
 obtain ⟨q,hm,hv,hc,ho⟩:=h
 obtain ⟨h3,h4,h5⟩:=hm.set (by omega) (Nat.mod_lt _ (by omega)) hu
 rw [←hl,List.drop_length,List.append_nil]at h5
 refine ⟨_,by rw [h3,hl],h4,h5,⟨(x+c) / 4294967296,?_⟩,ho.setCell _ _⟩
 rw [List.take_of_length_le (Nat.le_refl _)]at hv
 have e1:val p=val (p.take v.length)+pw v.length*x:=by
  have:=val_take_succ' p v.length
  rw [←hl,List.take_of_length_le (Nat.le_refl _),hx]at this
  exact this
 rw [val_snoc,hm.1,e1,hl,pw_succ]
 have:=add_step (a:=x) (b:=0) hv rfl
 simp only [Nat.add_zero,Nat.mul_zero]at this
 omega
set_option maxHeartbeats 1000000 in
theorem addBack_any (g g2 o2 c1 c2:Nat) (pre p post v:List Nat) (w:World) (hb:Blk w g (pre ++ p ++ post)) (hp:Dig p) (hl:p.length=v.length+1) (hne:g2≠g) (hv:Rd w (some ⟨g2,o2,none⟩) v) (hn:v.length≤4398046511104) (hc1:v.length+1≤c1) :
  Calls Tryz.prog 233 #[.slice (some ⟨g,pre.length,none⟩) (v.length+1) c1,.slice (some ⟨g2,o2,none⟩) v.length c2] w fun e w'=>e=.returned (.tuple #[]) ∧
   ∃p',p'.length=p.length∧Dig p'∧Blk w' g (pre ++ p' ++ post)∧(∃k,val p'+k*pw p.length=val p+val v)∧Only g w w':=by
 have hD:=hv.1
 go_enter Tryz.func233,Tryz.ntmps233
 go_wp2
 go_loopw [4,10] (fun cc i wr=>∃k c:Nat,k≤v.length∧i=.int .i64 (k:Int)∧cc=.int .u64 (c:Int)∧AbRel w wr g pre p post v k c) (fun _ i _=>v.length-(intOf i).toNat)
 case atStart =>
  exact ⟨0,0,by omega,rfl,rfl,[],⟨rfl,dig_nil,by simpa using hb⟩,by simp [val],by omega,Only.refl _ _⟩
 case round =>
  obtain ⟨k,c,hk,rfl,rfl,hrel⟩:=hrel
  have hcb:c≤1:=by obtain ⟨_,_,_,h,_⟩:=hrel;exact h
  have ho:Only g w wr:=by obtain ⟨_,_,_,_,h⟩:=hrel;exact h
  have hkp:k<p.length:=by omega
  obtain ⟨x,hx⟩:∃x,p[k]=x:=⟨_,rfl⟩
  have hcx:wr.cell? ⟨g,pre.length+k,none⟩=some (.int .u32 (x:Int)):=by obtain ⟨q,hm,_⟩:=hrel;rw [←hx];exact (hm.cell hkp).1
  have hfx:wr.frozen? ⟨g,pre.length+k,none⟩=false:=by obtain ⟨q,hm,_⟩:=hrel;exact (hm.cell hkp).2
  have hX:=Lib.hid (getD_of hkp hx)
  have hxb:x<4294967296:=by rw [←hx];exact dig_get hp hkp
  clear hx
  by_cases hlt:k<v.length
  ·obtain ⟨b1,o1,e1,hlt1,hcy⟩:=(hv.only ho hne).at_ hlt
   injection e1 with e1
   injection e1 with e2 e3
   subst e2 e3
   obtain ⟨d,hd⟩:∃d,v[k]=d:=⟨_,rfl⟩
   rw [hd]at hcy
   have hY:=Lib.hid (getD_of hlt hd)
   have hdb:d<4294967296:=by rw [←hd];exact dig_get hD hlt
   clear hd
   have hst:=Lib.hid (fun (u:Int)=>hrel.step hkp hX.out hY.out hxb hdb (u:=u))
   go_wp2
   go_roundw
   case rel=>exact ⟨k+1,(x+c+d) / 4294967296,by omega,by go_num,vint (by omega),hst.out _ (by omega)⟩
   case measure=>simp [intOf];omega
  ·obtain rfl:k=v.length:=by omega
   have hst:=Lib.hid (fun (u:Int)=>hrel.last hl hX.out (u:=u))
   go_wp2
   go_end0
   exact ⟨rfl,hst.out _ (by omega)⟩
end Go.Proofs.YtcggnmddcbhchaaGreatDoor
namespace Go.Proofs.YtcggnmddcbhchaaGreatDoor.Lim
theorem val_last {l:List Nat} {n:Nat} (hl:l.length=n+1):val l=val (l.take n)+pw n*l.getD n 0:=by
 have:=val_take_succ' l n
 rw [←hl,List.take_of_length_le (Nat.le_refl _)]at this
 exact this
theorem val_take_lt {l:List Nat} (hd:Dig l) {n:Nat} (hn:n≤l.length):val (l.take n)<pw n:=by
 have:=val_lt (dig_take hd n)
 rw [List.length_take,Nat.min_eq_left hn]at this
 exact this
theorem alg1 (a P x y z:Nat):a+P*x+(4294967296*P)*y+(4294967296*(4294967296*P))*z=((z*4294967296+y)*4294967296+x)*P+a:=by grind
theorem alg2 (a P x y:Nat):a+P*x+(4294967296*P)*y=(y*4294967296+x)*P+a:=by grind
theorem alg3 (b P s:Nat):b*P*s=b*s*P:=by grind
theorem alg4 (T P V p d q:Nat):T+P*p+V*(P*(d+4294967296*q))=T+P*(p+d*V)+V*((4294967296*P)*q):=by grind
theorem alg5 (a b c:Nat):a*b*c=a*c*b:=by grind
theorem alg6 (A B:Nat):A*B*2147483648=A*(2147483648*B):=by grind
theorem top_of {p v:List Nat} {m:Nat} (hp:Dig p) (hv:Dig v) (lp:p.length=m+3) (lv:v.length=m+2) (hn:2147483648≤v.getD (m+1) 0) (hlt:val p<val v*4294967296) :
  Top (val p) (val v) (p.getD (m+2) 0) (p.getD (m+1) 0) (p.getD m 0) (v.getD (m+1) 0) (v.getD m 0) (pw m) (val (p.take m)) (val (v.take m)):=by
 refine ⟨?_,?_,val_take_lt hp (by omega),val_take_lt hv (by omega),dig_getD hp _,dig_getD hp _,dig_getD hp _,dig_getD hv _,dig_getD hv _,hn,hlt⟩
 ·have h1:=val_last lp
  have h2:=val_take_succ' p (m+1)
  have h3:=val_take_succ' p m
  have e1:pw (m+1)=4294967296*pw m:=pw_succ m
  have e2:pw (m+2)=4294967296*(4294967296*pw m):=by rw [←e1];exact pw_succ (m+1)
  rw [h1,h2,h3,e1,e2]
  exact alg1 _ _ _ _ _
 ·have h1:=val_last lv
  have h2:=val_take_succ' v m
  rw [h1,h2,pw_succ]
  exact alg2 _ _ _ _
theorem norm_divisor {n2 b s m:Nat} {D:List Nat} (hD:Dig D) (lD:D.length=m+1+1) (hv:val D=n2*s) (h1:b*pw m≤n2) (h2:n2<(b+1)*pw m) (hs1:(b+1)*s≤4294967296) (hs2:2147483648≤b*s) (hs0:0<s) :
  val (D.take (m+1))=n2*s∧2147483648≤(D.take (m+1)).getD m 0:=by
 have hlt:val D<pw (m+1):=by
  rw [hv,pw_succ]
  have a1:n2*s<(b+1)*pw m*s:=Nat.mul_lt_mul_of_pos_right h2 hs0
  have a2:=alg3 (b+1) (pw m) s
  have a3:=Nat.mul_le_mul_right (pw m) hs1
  omega
 have e1:=val_last lD
 have hz:D.getD (m+1) 0=0:=by
  rcases Nat.eq_zero_or_pos (D.getD (m+1) 0)with h0|h0
  ·exact h0
  ·have:=Nat.mul_le_mul_left (pw (m+1)) h0
   omega
 have e2:val (D.take (m+1))=n2*s:=by rw [←hv,e1,hz];omega
 refine ⟨e2,?_⟩
 have lT:(D.take (m+1)).length=m+1:=by simp;omega
 have e3:=val_last lT
 have hlow:=val_take_lt (dig_take hD (m+1)) (n:=m) (by omega)
 have a1:b*s*pw m≤n2*s:=by
  have:=Nat.mul_le_mul_right s h1
  have e:=alg3 b (pw m) s
  omega
 have a2:=Nat.mul_le_mul_right (pw m) hs2
 rcases Nat.lt_or_ge ((D.take (m+1)).getD m 0) 2147483648 with h|h
 ·have:=Nat.mul_le_mul_left (pw m) (show (D.take (m+1)).getD m 0+1≤2147483648 by omega)
  rw [Nat.mul_add,Nat.mul_one,Nat.mul_comm (pw m) 2147483648]at this
  omega
 ·exact h
structure Dv (N V:Nat) (R q:List Nat) (k:Nat):Prop where
 dig:Dig R
 digq:Dig q
 top:val (R.drop k)<V
 eq:val R+V*(pw k*val q)=N
theorem Dv.part {N V:Nat} {R q:List Nat} {j n:Nat} (h:Dv N V R q (j+1)) (hV:V<pw n) (hl:j+n+1≤R.length) :
  val (R.drop (j+n+1))=0∧val ((R.drop j).take (n+1))=val (R.drop j)∧val ((R.drop j).take (n+1))<V*4294967296:=by
 have hz:val (R.drop (j+n+1))=0:=by
  have h1:=val_take_drop (R.drop (j+1)) n (by simp;omega)
  rw [List.drop_drop,show j+1+n=j+n+1 from by omega]at h1
  have h2:=h.top
  rcases Nat.eq_zero_or_pos (val (R.drop (j+n+1)))with h0|h0
  ·exact h0
  ·have:=Nat.mul_le_mul_left (pw n) h0
   omega
 have h3:=val_take_drop (R.drop j) (n+1) (by simp;omega)
 rw [List.drop_drop,show j+(n+1)=j+n+1 from by omega,hz]at h3
 have h4:=val_drop_cons R j (by omega)
 have h5:=dig_get h.dig (show j<R.length by omega)
 have h6:=h.top
 refine ⟨hz,by omega,?_⟩
 have h7:=Nat.mul_le_mul_left 4294967296 (show val (R.drop (j+1))+1≤V by omega)
 rw [Nat.mul_comm V]
 omega
theorem Dv.step {N V:Nat} {R q:List Nat} {j n:Nat} (h:Dv N V R q (j+1)) (hV:V<pw n) (hl:j+n+1≤R.length) {p':List Nat} {d:Nat} (hp:Dig p') (lp:p'.length=n+1) (hd:d<4294967296)
  (he:val p'+d*V=val ((R.drop j).take (n+1))) (hlt:val p'<V):Dv N V (R.take j ++ p' ++ R.drop (j+n+1)) (d :: q) j:=by
 obtain ⟨hz,h3,_⟩:=h.part hV hl
 have lt:(R.take j).length=j:=by simp;omega
 have hdrop:(R.take j ++ p' ++ R.drop (j+n+1)).drop j=p' ++ R.drop (j+n+1):=by
  rw [List.append_assoc,List.drop_append_of_le_length (by omega),List.drop_of_length_le (by omega),List.nil_append]
 refine ⟨dig_append.2 ⟨dig_append.2 ⟨dig_take h.dig _,hp⟩,dig_drop h.dig _⟩,dig_cons.2 ⟨hd,h.digq⟩,?_,?_⟩
 ·rw [hdrop,val_append,hz];simpa using hlt
 ·have e1:=val_take_drop R j (by omega)
  have e2:val (R.take j ++ p' ++ R.drop (j+n+1))=val (R.take j)+pw j*val p':=by
   rw [List.append_assoc,val_append,lt,val_append,hz];simp
  have e3:=h.eq
  rw [e2,val_cons,←e3,e1,←h3,←he,pw_succ]
  exact alg4 _ _ _ _ _ _
theorem Dv.last {n1 n2 s:Nat} {R q:List Nat} (h:Dv (n1*s) (n2*s) R q 0) (hs:0<s) {n:Nat} (hV:n2*s<pw n) (hl:n≤R.length):val q=n1 / n2∧val (R.take n) / s=n1 % n2:=by
 have h1:=h.top
 have h2:=h.eq
 rw [List.drop_zero]at h1
 rw [pw_zero,Nat.one_mul]at h2
 have hz:val (R.drop n)=0:=by
  have e:=val_take_drop R n hl
  rcases Nat.eq_zero_or_pos (val (R.drop n))with h0|h0
  ·exact h0
  ·have:=Nat.mul_le_mul_left (pw n) h0
   omega
 have e:=val_take_drop R n hl
 rw [hz]at e
 have e':val (R.take n)=val R:=by omega
 have hn2:0<n2:=by
  rcases Nat.eq_zero_or_pos n2 with h0|h0
  ·subst h0;omega
  ·exact h0
 have hle:n2*val q≤n1:=by
  rcases Nat.lt_or_ge n1 (n2*val q)with hlt|hge
  ·have:=Nat.mul_lt_mul_of_pos_right hlt hs
   have:=alg5 n2 (val q) s
   omega
  ·exact hge
 have hr:val R=(n1-n2*val q)*s:=by
  have:(n1-n2*val q)*s+n2*val q*s=n1*s:=by rw [←Nat.add_mul,Nat.sub_add_cancel hle]
  have:=alg5 n2 (val q) s
  omega
 have hlt:n1-n2*val q<n2:=by
  rw [hr]at h1
  exact Nat.lt_of_mul_lt_mul_right h1
 have hq:n1 / n2=val q:=by
  apply Nat.div_eq_of_lt_le
  ·rw [Nat.mul_comm];exact hle
  ·rw [Nat.add_mul,Nat.mul_comm];omega
 refine ⟨hq.symm,?_⟩
 rw [e',hr,Nat.mul_div_cancel _ hs]
 have:=Nat.div_add_mod n1 n2
 rw [hq]at this
 omega
theorem Dv.start {n1 n2 s:Nat} {R:List Nat} {la n k:Nat} (hd:Dig R) (hR:val R=n1*s) (h1:n1<pw la) (hs:s≤2147483648) (hk:la=k+n) (hV:2147483648*pw n≤n2*s) (hl:k≤R.length) (hs0:0<s):Dv (n1*s) (n2*s) R [] k:=by
 refine ⟨hd,dig_nil,?_,by rw [val_nil,hR];simp⟩
 have e:=val_take_drop R k hl
 subst hk
 have a1:n1*s<pw (k+n)*s:=Nat.mul_lt_mul_of_pos_right h1 hs0
 have a2:pw (k+n)*s≤pw (k+n)*2147483648:=Nat.mul_le_mul_left _ hs
 rw [pw_add]at a1 a2
 rw [alg6]at a2
 have a4:pw k*(2147483648*pw n)≤pw k*(n2*s):=Nat.mul_le_mul_left _ hV
 refine Nat.lt_of_mul_lt_mul_left (a:=pw k) ?_
 rw [hR]at e
 have a5:=Nat.le_trans (Nat.le_of_lt a1) (Nat.le_trans a2 a4)
 have a6:n1*s<pw k*(n2*s):=Nat.lt_of_lt_of_le a1 (Nat.le_trans a2 a4)
 refine Nat.lt_of_le_of_lt ?_ a6
 rw [e]
 exact Nat.le_add_left _ _
theorem back_eq {U V q a b k P:Nat} (h1:a+q*V=U+P) (h2:b+k*P=a+V) (hn:Near U V q) (hlt:U<q*V) (hb:b<P) (hV:V<P):b=U % V∧q-1=U / V:=by
 rcases hn.eq_or with ⟨h,_⟩|⟨_,hd,hm⟩
 ·omega
 ·refine ⟨?_,by rw [←hd,Nat.add_sub_cancel]⟩
  have hV0:0<V:=by
   rcases Nat.eq_zero_or_pos V with h0|h0
   ·subst h0;omega
   ·exact h0
  have hr:U % V<V:=Nat.mod_lt _ hV0
  have h3:b+k*P=U % V+P:=by
   have:=hn.2.1
   omega
  have h4:(b+P*k) % P=(U % V+P) % P:=by rw [Nat.mul_comm,h3]
  rw [Nat.add_mul_mod_self_left,Nat.mod_eq_of_lt hb,Nat.add_mod_right,Nat.mod_eq_of_lt (by omega)]at h4
  exact h4
theorem shift_facts {b L:Nat} (hb:0<b) (h1:2 ^ (L-1)≤b) (h2:b<2 ^ L) (hL:1≤L) (hL2:L≤32):(b+1)*2 ^ (32-L)≤4294967296∧2147483648≤b*2 ^ (32-L)∧2 ^ (32-L)≤2147483648:=by
 have hp:=Nat.two_pow_pos (32-L)
 refine ⟨?_,?_,?_⟩
 ·have:=Nat.mul_le_mul_right (2 ^ (32-L)) (show b+1≤2 ^ L by omega)
  rw [←Nat.pow_add,show L+(32-L)=32 from by omega]at this
  exact this
 ·have:=Nat.mul_le_mul_right (2 ^ (32-L)) h1
  rw [←Nat.pow_add,show L-1+(32-L)=31 from by omega]at this
  exact this
 ·exact Nat.pow_le_pow_right (show 0<2 by omega) (show 32-L≤31 by omega)
end Go.Proofs.YtcggnmddcbhchaaGreatDoor.Lim
