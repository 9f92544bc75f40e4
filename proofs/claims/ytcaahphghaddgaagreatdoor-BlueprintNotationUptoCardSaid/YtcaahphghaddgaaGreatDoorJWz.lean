import Derived.Test.YtcaahphghaddgaaGreatDoorRows
import Derived.WalkKit
import Derived.WalkSpells
import Derived.Below
import Derived.Laws.OwnMore
import Derived.Deep.AppendLies
import Derived.Deep.Draws
import Derived.Lib.Hide
import Derived.Deep.OwnRows
import Derived.Laws.Rows
import Derived.LoopTactic
import Derived.Outline
import Derived.Deep.QuietTactic
import Derived.BigQuiet
import Derived.OwnWalk
import Derived.Shelf.Strings.Builder1
import Derived.Shelf.Strings.Builder2
import Derived.Shelf.Strings.OnBuilder
import Derived.Shelf.Small.Bits
import Derived.Shelf.Small.Wraps
import Derived.Shelf.Strings.BuilderF
import Derived.Shelf.Strings.BuilderK
import Derived.Shelf.Strings.Builder2Cap
import Derived.Shelf.Strconv.Itoa0
import Derived.Shelf.Strconv.Itoa1
import Derived.Shelf.LaysM
import Derived.Shelf.Strconv.Itoa2
import Derived.Shelf.Strconv.Itoa3
import Derived.Shelf.Strings.Search1
import Derived.Shelf.Strings.Search2
import Derived.Shelf.Strings.Search3
import Derived.Shelf.Strings.Cut
import Derived.Shelf.Strings.Count
import Derived.Shelf.Strings.Shaped
import Derived.Shelf.Sort.Plain
import Derived.Shelf.Strings.Prefix
import Derived.Shelf.Strings.Split
import Derived.Shelf.Strings.SplitShaped
import Derived.Shelf.Unicode.DecodeSlow
import Derived.Shelf.Strings.BuilderCap
import Derived.Ground.Names2Prog
import Derived.Shelf.Slices.SearchI
import Derived.Shelf.Slices.In.SortNone
import Derived.Test.YtcaahphghaddgaaGreatDoorProg
import Derived.Deep.LoopGhost
import Derived.Deep.RegionHeld3
import Derived.Deep.DrawnRows
import Derived.RegionTactic
import Derived.Deep.DeepCutAuto
import Derived.Lib.ItoaNum
import Derived.Lib.Repeat
import Derived.Lib.LaidTab
import Derived.Lib.AppendIntMem
import Derived.Lib.ItoaMem
import Derived.Lib.Walk
import Derived.BigCall
import Derived.BigGuard
import Derived.Laws.Concat
/- Texts merged: Na Shelf Nb Nc Nd. -/
set_option linter.unusedSimpArgs false
set_option linter.unusedVariables false
namespace Go.Proofs.YtcaahphghaddgaaGreatDoor.Lim
def pw (k:Nat):Nat:=4294967296 ^ k
theorem pw_zero:pw 0=1:=rfl
theorem pw_succ (k:Nat):pw (k+1)=4294967296*pw k:=by unfold pw;rw [Nat.pow_succ];omega
theorem pw_add (a b:Nat):pw (a+b)=pw a*pw b:=by unfold pw;rw [Nat.pow_add]
theorem pw_pos (k:Nat):0<pw k:=Nat.pos_of_ne_zero (by unfold pw;simp [Nat.pow_eq_zero])
theorem pw_mono {a b:Nat} (h:a≤b):pw a≤pw b:=Nat.pow_le_pow_right (by omega) h
def val:List Nat→Nat
 | []=>0
 | x :: xs=>x+4294967296*val xs
def Dig (l:List Nat):Prop:=∀x∈l,x<4294967296
theorem val_nil:val []=0:=rfl
theorem val_cons (x:Nat) (xs:List Nat):val (x :: xs)=x+4294967296*val xs:=rfl
theorem val_append (l m:List Nat):val (l ++ m)=val l+pw l.length*val m:=by
 induction l with
 | nil=>simp [val,pw]
 | cons x xs ih=>rw [List.cons_append,val_cons,val_cons,ih,List.length_cons,pw_succ];grind
theorem dig_nil:Dig []:=by intro x hx;cases hx
theorem dig_cons {x:Nat} {xs:List Nat}:Dig (x :: xs) ↔ x<4294967296∧Dig xs:=by simp [Dig]
theorem dig_append {l m:List Nat}:Dig (l ++ m) ↔ Dig l∧Dig m:=by
 unfold Dig
 constructor
 ·intro h;exact ⟨fun x hx=>h x (by simp [hx]),fun x hx=>h x (by simp [hx])⟩
 ·rintro ⟨h1,h2⟩ x hx
  rcases List.mem_append.1 hx with h|h
  ·exact h1 x h
  ·exact h2 x h
theorem dig_take {l:List Nat} (h:Dig l) (k:Nat):Dig (l.take k):=fun x hx=>h x (List.mem_of_mem_take hx)
theorem dig_drop {l:List Nat} (h:Dig l) (k:Nat):Dig (l.drop k):=fun x hx=>h x (List.mem_of_mem_drop hx)
theorem dig_get {l:List Nat} (h:Dig l) {k:Nat} (hk:k<l.length):l[k]<4294967296:=h _ (List.getElem_mem hk)
theorem dig_set {l:List Nat} (h:Dig l) (k:Nat) {x:Nat} (hx:x<4294967296):Dig (l.set k x):=by
 intro y hy
 rcases List.mem_or_eq_of_mem_set hy with h1|h1
 ·exact h y h1
 ·omega
theorem dig_replicate (n:Nat):Dig (List.replicate n 0):=by
 intro x hx
 rw [List.mem_replicate]at hx
 omega
theorem val_lt {l:List Nat} (h:Dig l):val l<pw l.length:=by
 induction l with
 | nil=>simp [val,pw]
 | cons x xs ih =>
  have h1:=dig_cons.1 h
  have:=ih h1.2
  rw [val_cons,List.length_cons,pw_succ]
  omega
theorem val_replicate (n:Nat):val (List.replicate n 0)=0:=by
 induction n with
 | zero=>rfl
 | succ n ih=>rw [List.replicate_succ,val_cons,ih]
theorem val_take_drop (l:List Nat) (k:Nat) (hk:k≤l.length):val l=val (l.take k)+pw k*val (l.drop k):=by
 have h:=val_append (l.take k) (l.drop k)
 rw [List.take_append_drop,List.length_take,Nat.min_eq_left hk]at h
 exact h
theorem val_take_succ (l:List Nat) (k:Nat) (hk:k<l.length):val (l.take (k+1))=val (l.take k)+pw k*l[k]:=by
 rw [List.take_succ_eq_append_getElem hk,val_append,List.length_take,Nat.min_eq_left (by omega),val_cons,val_nil];grind
theorem val_take_succ' (l:List Nat) (k:Nat):val (l.take (k+1))=val (l.take k)+pw k*l.getD k 0:=by
 rcases Nat.lt_or_ge k l.length with h|h
 ·rw [val_take_succ l k h,List.getD_eq_getElem?_getD,List.getElem?_eq_getElem h];rfl
 ·rw [List.take_of_length_le (by omega),List.take_of_length_le h,List.getD_eq_getElem?_getD,List.getElem?_eq_none h];simp
theorem dig_getD {l:List Nat} (h:Dig l) (k:Nat):l.getD k 0<4294967296:=by
 rcases Nat.lt_or_ge k l.length with g|g
 ·rw [List.getD_eq_getElem?_getD,List.getElem?_eq_getElem g];exact h _ (List.getElem_mem g)
 ·rw [List.getD_eq_getElem?_getD,List.getElem?_eq_none g];simp
theorem getD_of {l:List Nat} {k x:Nat} (h:k<l.length) (hx:l[k]=x):l.getD k 0=x:=by
 rw [List.getD_eq_getElem?_getD,List.getElem?_eq_getElem h,hx];rfl
theorem getD_out {l:List Nat} {k:Nat} (h:l.length≤k):l.getD k 0=0:=by
 rw [List.getD_eq_getElem?_getD,List.getElem?_eq_none h];rfl
theorem set_here (s:List Nat) (m x:Nat):(s ++ List.replicate (m+1) 0).set s.length x=(s ++ [x]) ++ List.replicate m 0:=by
 rw [List.set_append_right _ _ (Nat.le_refl _),Nat.sub_self,List.replicate_succ,List.set_cons_zero,List.append_assoc];rfl
theorem val_snoc (s:List Nat) (x:Nat):val (s ++ [x])=val s+pw s.length*x:=by rw [val_append,val_cons,val_nil];simp
theorem dig_snoc {s:List Nat} {x:Nat} (h:Dig s) (hx:x<4294967296):Dig (s ++ [x]):=dig_append.2 ⟨h,dig_cons.2 ⟨hx,dig_nil⟩⟩
theorem val_drop_cons (l:List Nat) (k:Nat) (hk:k<l.length):val (l.drop k)=l[k]+4294967296*val (l.drop (k+1)):=by
 rw [List.drop_eq_getElem_cons hk,val_cons]
theorem val_set (l:List Nat) (k x:Nat) (hk:k<l.length):val (l.set k x)+pw k*l[k]=val l+pw k*x:=by
 induction l generalizing k with
 | nil=>simp at hk
 | cons y ys ih =>
  cases k with
  | zero=>simp [val_cons,pw_zero];omega
  | succ k =>
   have:=ih k (by simpa using hk)
   rw [List.set_cons_succ,val_cons,val_cons,List.getElem_cons_succ,pw_succ]
   grind
def Nrm (l:List Nat):Prop:=∀h:0<l.length,l[l.length-1]'(by omega)≠0
theorem nrm_nil:Nrm []:=by intro h;simp at h
theorem nrm_low {l:List Nat} (h:Nrm l) (hl:0<l.length):pw (l.length-1)≤val l:=by
 have h1:=val_take_drop l (l.length-1) (by omega)
 have h2:=val_drop_cons l (l.length-1) (by omega)
 have h3:=h hl
 have h4:1≤val (l.drop (l.length-1)):=by omega
 have:=Nat.mul_le_mul_left (pw (l.length-1)) h4
 omega
theorem nrm_zero {l:List Nat} (h:Nrm l) (hv:val l=0):l=[]:=by
 rcases Nat.eq_zero_or_pos l.length with h0|h0
 ·exact List.eq_nil_of_length_eq_zero h0
 ·have:=nrm_low h h0
  have:=pw_pos (l.length-1)
  omega
def limbs (n:Nat):List Nat:=if h:n=0 then [] else (n % 4294967296) :: limbs (n / 4294967296)
 termination_by n
 decreasing_by omega
theorem limbs_zero:limbs 0=[]:=by unfold limbs;simp
theorem limbs_pos {n:Nat} (h:n≠0):limbs n=(n % 4294967296) :: limbs (n / 4294967296):=by rw [limbs,dif_neg h]
theorem val_limbs (n:Nat):val (limbs n)=n:=by
 induction n using Nat.strongRecOn with
 | ind n ih =>
  by_cases h:n=0
  ·subst h;rw [limbs_zero];rfl
  ·rw [limbs_pos h,val_cons,ih _ (by omega)];omega
theorem limbs_eq_nil {n:Nat}:limbs n=[] ↔ n=0:=by
 constructor
 ·intro h;have:=val_limbs n;rw [h]at this;exact this.symm
 ·intro h;subst h;exact limbs_zero
theorem limbs_of {l:List Nat} (hd:Dig l) (hn:Nrm l):limbs (val l)=l:=by
 induction l with
 | nil=>exact limbs_zero
 | cons x xs ih =>
  have h1:=dig_cons.1 hd
  have hn':Nrm xs:=by
   intro h
   have:=hn (by simp)
   have e:(x :: xs)[(x :: xs).length-1]'(by simp)=xs[xs.length-1]'(by omega):=by
    rw [List.getElem_cons]
    simp only [List.length_cons,Nat.add_sub_cancel]
    rw [dif_neg (by omega)]
   rw [e]at this
   exact this
  have hne:val (x :: xs)≠0:=by
   intro h0
   have:=nrm_zero hn h0
   cases this
  rw [limbs_pos hne,val_cons]
  have e1:(x+4294967296*val xs) % 4294967296=x:=by omega
  have e2:(x+4294967296*val xs) / 4294967296=val xs:=by omega
  rw [e1,e2,ih h1.2 hn']
theorem nrm_limbs (n:Nat):Nrm (limbs n):=by
 induction n using Nat.strongRecOn with
 | ind n ih =>
  by_cases h:n=0
  ·subst h;rw [limbs_zero];exact nrm_nil
  ·intro hl
   have e:=limbs_pos h
   by_cases h2:n / 4294967296=0
   ·have e2:limbs n=[n % 4294967296]:=by rw [e,h2,limbs_zero]
    simp only [e2]
    simp
    omega
   ·have hp:0<(limbs (n / 4294967296)).length:=by
     rcases Nat.eq_zero_or_pos (limbs (n / 4294967296)).length with h0|h0
     ·exact absurd (limbs_eq_nil.1 (List.eq_nil_of_length_eq_zero h0)) h2
     ·exact h0
    have:=ih (n / 4294967296) (by omega) hp
    simp only [e,List.length_cons,Nat.add_sub_cancel]
    rw [List.getElem_cons,dif_neg (by omega)]
    exact this
def nlen (n:Nat):Nat:=(limbs n).length
theorem nlen_le {n k:Nat} (h:n<pw k):nlen n≤k:=by
 rcases Nat.lt_or_ge k (nlen n)with h1|h1
 ·have h2:=nrm_low (nrm_limbs n) (by unfold nlen at h1;omega)
  rw [val_limbs]at h2
  have:=pw_mono (a:=k) (b:=(limbs n).length-1) (by unfold nlen at h1;omega)
  omega
 ·exact h1
theorem nlen_val {l:List Nat} (h:Dig l):nlen (val l)≤l.length:=nlen_le (val_lt h)
def tl (l:List Nat):Nat:=nlen (val l)
theorem limbs_take {l:List Nat} {k:Nat} (hd:Dig l) (hk:k≤l.length) (hz:val (l.drop k)=0) (hn:∀h:0<k,l[k-1]'(by omega)≠0):limbs (val l)=l.take k:=by
 have h1:=val_take_drop l k hk
 rw [hz]at h1
 have h2:val l=val (l.take k):=by omega
 rw [h2]
 refine limbs_of (dig_take hd k) ?_
 intro h
 have hl:(l.take k).length=k:=by rw [List.length_take];omega
 have h3:=hn (by omega)
 have e:(l.take k)[(l.take k).length-1]'(by omega)=l[k-1]'(by omega):=by
  rw [List.getElem_take]
  congr 1
  omega
 rw [e]
 exact h3
theorem limbs_prefix {l:List Nat} (hd:Dig l):limbs (val l)=l.take (limbs (val l)).length:=by
 induction l with
 | nil=>rw [val_nil,limbs_zero];rfl
 | cons x xs ih =>
  have h1:=dig_cons.1 hd
  by_cases h0:val (x :: xs)=0
  ·rw [h0,limbs_zero];rfl
  ·rw [limbs_pos h0,val_cons]
   have e1:(x+4294967296*val xs) % 4294967296=x:=by omega
   have e2:(x+4294967296*val xs) / 4294967296=val xs:=by omega
   rw [e1,e2,List.length_cons,List.take_succ_cons,←ih h1.2]
end Go.Proofs.YtcaahphghaddgaaGreatDoor.Lim
namespace Go.Proofs.YtcaahphghaddgaaGreatDoor.Lim
theorem add_step {v c p x y a b t:Nat} (h:v+c*p=x+y) (ht:t=a+c+b) :
  (v+p*(t % 4294967296))+t / 4294967296*(4294967296*p)=(x+p*a)+(y+p*b):=by
 have h1:t=t % 4294967296+4294967296*(t / 4294967296):=by omega
 generalize t % 4294967296=m at *
 generalize t / 4294967296=d at *
 subst h1
 have:p*(m+4294967296*d)=p*(a+c+b):=by rw [ht]
 grind
theorem mul_step {v v' c p old x y t:Nat} (hs:v'+p*old=v+p*(t % 4294967296)) (ht:t=x*y+old+c) :
  v'+t / 4294967296*(4294967296*p)=v+c*p+x*(p*y):=by
 have h1:t=t % 4294967296+4294967296*(t / 4294967296):=by omega
 generalize t % 4294967296=m at *
 generalize t / 4294967296=d at *
 subst h1
 have:p*(m+4294967296*d)=p*(x*y+old+c):=by rw [ht]
 grind
structure Top (U V u0 u1 u2 v1 v2 P U0 V0:Nat):Prop where
 hU:U=((u0*4294967296+u1)*4294967296+u2)*P+U0
 hV:V=(v1*4294967296+v2)*P+V0
 hU0:U0<P
 hV0:V0<P
 bu0:u0<4294967296
 bu1:u1<4294967296
 bu2:u2<4294967296
 bv1:v1<4294967296
 bv2:v2<4294967296
 norm:2147483648≤v1
 lt:U<V*4294967296
end Go.Proofs.YtcaahphghaddgaaGreatDoor.Lim
namespace Go.Proofs.YtcaahphghaddgaaGreatDoor
open Go.RowKit Lim
theorem vint {k:IntKind} {a b:Int} (h:a=b):Value.int k a=Value.int k b:=by rw [h]
def lenOf:Value→Nat|.slice _ n _=>n|_=>0
def Rd (w:World) (A:Option Addr) (l:List Nat):Prop :=
 Dig l∧(0<l.length→∃b off,A=some ⟨b,off,none⟩∧b<w.heap.size∧∀j (h:j<l.length),w.cell? ⟨b,off+j,none⟩=some (.int .u32 (l[j]:Nat)))
theorem Rd.nil (w:World) (A:Option Addr):Rd w A []:=⟨dig_nil,fun h=>absurd h (by simp)⟩
theorem Rd.keep {w w':World} {A:Option Addr} {l:List Nat} (h:Rd w A l) (hb:Below w.heap.size w w'):Rd w' A l :=
 ⟨h.1,fun hl=>by
  obtain ⟨b,off,e,hlt,hc⟩:=h.2 hl
  exact ⟨b,off,e,Nat.lt_of_lt_of_le hlt hb.size,fun j hj=>(hb.cell (p:=⟨b,off+j,none⟩) hlt).trans (hc j hj)⟩⟩
theorem Rd.take {w:World} {A:Option Addr} {l:List Nat} (h:Rd w A l) (k:Nat):Rd w A (l.take k) :=
 ⟨dig_take h.1 k,fun hl=>by
  have hl':(l.take k).length≤l.length:=by simp;omega
  obtain ⟨b,off,e,hlt,hc⟩:=h.2 (by omega)
  exact ⟨b,off,e,hlt,fun j hj=>by rw [List.getElem_take];exact hc j (by omega)⟩⟩
theorem Rd.at_ {w:World} {A:Option Addr} {l:List Nat} (h:Rd w A l) {k:Nat} (hk:k<l.length) :
  ∃b off,A=some ⟨b,off,none⟩∧b<w.heap.size∧w.cell? ⟨b,off+k,none⟩=some (.int .u32 (l[k]:Nat)):=by
 obtain ⟨b,off,e,hlt,hc⟩:=h.2 (by omega)
 exact ⟨b,off,e,hlt,hc k hk⟩
structure In (w:World) (A:Option Addr) (c:Nat) (l:List Nat) (n:Nat):Prop where
 rd:Rd w A l
 cap:l.length≤c
 lim:l.length<1099511627776
 val:val l=n
structure Raw (w:World) (A:Option Addr) (c:Nat) (l:List Nat) (n:Nat):Prop where
 rd:Rd w A l
 cap:l.length≤c
 lim:l.length≤4398046511104
 val:val l=n
structure Out (w:World) (A:Option Addr) (c:Nat) (n:Nat):Prop where
 rd:Rd w A (limbs n)
 cap:(limbs n).length≤c
theorem Out.toIn {w:World} {A:Option Addr} {c n:Nat} (h:Out w A c n) (hl:nlen n<1099511627776):In w A c (limbs n) n:=⟨h.rd,h.cap,hl,val_limbs n⟩
theorem In.toRaw {w:World} {A:Option Addr} {c n:Nat} {l:List Nat} (h:In w A c l n):Raw w A c l n:=⟨h.rd,h.cap,by have:=h.lim;omega,h.val⟩
theorem Raw.trim {w:World} {A:Option Addr} {c n:Nat} {l:List Nat} (h:Raw w A c l n):Out w A c n:=by
 obtain ⟨hr,hc,hl,rfl⟩:=h
 have e:=limbs_prefix hr.1
 have hle:(limbs (Lim.val l)).length≤l.length:=nlen_val hr.1
 exact ⟨by rw [e];exact hr.take _,by omega⟩
theorem In.trim {w:World} {A:Option Addr} {c n:Nat} {l:List Nat} (h:In w A c l n):Out w A c n:=h.toRaw.trim
theorem In.nlen {w:World} {A:Option Addr} {c n:Nat} {l:List Nat} (h:In w A c l n):nlen n<1099511627776:=by
 obtain ⟨hr,hc,hl,rfl⟩:=h
 have:=nlen_val hr.1
 omega
def cells (l:List Nat):Array Value:=(l.map fun x=>Value.int .u32 ((x:Nat):Int)).toArray
theorem cells_get (l:List Nat) (i:Nat) (h:i<l.length):(cells l)[i]? = some (.int .u32 ((l[i]:Nat):Int)):=by
 unfold cells
 simp [h]
theorem cells_set (l:List Nat) (i x:Nat):(cells l).setIfInBounds i (.int .u32 ((x:Nat):Int))=cells (l.set i x):=by
 unfold cells
 simp [List.map_set]
theorem cells_made (n:Nat):madeCells #[.int .u32 0] n=cells (List.replicate n 0):=by
 apply Array.ext
 ·simp [cells,size_madeCells]
 ·intro i h1 h2
  simp [madeCells,cells,Nat.mod_one]
def Blk (w:World) (g:Nat) (l:List Nat):Prop:=w.heap[g]? = some (.cells (cells l) 53 (0,0))
theorem Blk.lt {w:World} {g:Nat} {l:List Nat} (h:Blk w g l):g<w.heap.size:=by
 rcases Nat.lt_or_ge g w.heap.size with hlt|hge
 ·exact hlt
 ·unfold Blk at h;rw [Array.getElem?_eq_none hge]at h;cases h
theorem Blk.cell {w:World} {g:Nat} {l:List Nat} (h:Blk w g l) {i:Nat} (hi:i<l.length):w.cell? ⟨g,i,none⟩=some (.int .u32 ((l[i]:Nat):Int)) :=
 (cell_of_row w g i _ _ (0,0) h).trans (cells_get l i hi)
theorem Blk.frozen {w:World} {g:Nat} {l:List Nat} (h:Blk w g l) (i:Nat):w.frozen? ⟨g,i,none⟩=false:=by
 unfold Blk at h
 simp [World.frozen?,h]
theorem Blk.new (w:World) (l:List Nat):Blk (w.alloc (.cells (cells l) 53)) w.heap.size l:=heap_alloc_new w _
theorem Blk.set {w:World} {g:Nat} {l:List Nat} (h:Blk w g l) (i x:Nat) {u:Int} (hu:u=((x:Nat):Int)):Blk (w.setCell ⟨g,i,none⟩ (.int .u32 u)) g (l.set i x):=by
 subst hu
 unfold Blk at h ⊢
 rw [←cells_set]
 simp [World.setCell,Array.getElem?_modify,h]
theorem Blk.rd {w:World} {g:Nat} {l:List Nat} (h:Blk w g l) (hd:Dig l):Rd w (some ⟨g,0,none⟩) l :=
 ⟨hd,fun _=>⟨g,0,rfl,h.lt,fun j hj=>by rw [Nat.zero_add];exact h.cell hj⟩⟩
theorem add_addr (b off j:Nat):(⟨b,off,none⟩:Addr).add j=⟨b,off+j,none⟩:=by unfold Addr.add;split <;> simp_all
theorem made (n:Nat) (hn:n≤4398046511104):∀W:World,(Instr.makeSlice 121 (.int .i64 (n:Int)) (.int .i64 (n:Int))).run Tryz.prog W =
  .ok (.slice (some ⟨W.heap.size,0,none⟩) n n) (W.alloc (.cells (cells (List.replicate n 0)) 53)):=fun W=>by
 rw [←cells_made]
 exact run_make_row' (P:=Tryz.prog) 121 53 (.int .u32 0) 4 Tryz.underlying121 (by kernel_rfl) rfl .i64 .i64 n (by omega) (by omega) W
structure Only (g:Nat) (w w':World):Prop where
 os:w'.os=w.os
 tape:w'.tape=w.tape
 output:w'.output=w.output
 size:w'.heap.size=w.heap.size
 block:∀k,k≠g→w'.heap[k]? = w.heap[k]?
theorem below_drewN {B:Nat} {a w:World} (h:Below B a w) (n:Nat):Below B a (w.drewN n):=⟨h.os,h.tape,h.output,h.size,h.block⟩
end Go.Proofs.YtcaahphghaddgaaGreatDoor
namespace Go.Proofs.YtcaahphghaddgaaGreatDoor
open Go.RowKit Lim
set_option maxHeartbeats 400000 in
theorem trim_any (A:Option Addr) (c:Nat) (l:List Nat) (w:World) (h:Rd w A l) (hc:l.length≤c) (hb:l.length≤4398046511104) :
  Calls Tryz.prog 154 #[.slice A l.length c] w fun e w'=>e=.returned (.slice A (limbs (val l)).length c)∧w=w':=by
 go_enter Tryz.func154,Tryz.ntmps154
 go_wp2
 go_loop [0] (fun v=>∃k:Nat,k≤l.length∧val (l.drop k)=0∧v=.slice A k c) (fun v=>lenOf v)
 case atStart=>exact ⟨l.length,Nat.le_refl _,by simp [val],rfl⟩
 case round =>
  obtain ⟨k,hk,hz,rfl⟩:=hrel
  rcases Nat.eq_zero_or_pos k with h0|h0
  ·subst h0
   have hz':=Lib.hid hz;clear hz
   go_wp2
   go_ret
   exact ⟨by rw [limbs_take h.1 hk hz'.out (fun h=>absurd h (by omega))];rfl,rfl⟩
  ·obtain ⟨m,rfl⟩:∃m,k=m+1:=⟨k-1,by omega⟩
   obtain ⟨b,off,rfl,hlt,hcell⟩:=h.at_ (show m<l.length by omega)
   have hz':=Lib.hid hz;clear hz
   obtain ⟨x,hx⟩:∃x,l[m]=x:=⟨_,rfl⟩
   rw [hx]at hcell
   have hx':=Lib.hid hx;clear hx
   by_cases hx0:x=0
   ·subst hx0
    go_wp2
    go_round
    case rel=>exact ⟨m,by omega,by rw [val_drop_cons l m (by omega),hx'.out,hz'.out],rfl⟩
    case measure=>simp [lenOf]
   ·have hne:((x:Int) == 0)=false:=by simp;omega
    go_wp2
    go_ret
    exact ⟨by rw [limbs_take h.1 hk hz'.out (fun h=>by simpa [hx'.out]using hx0)];simp;omega,rfl⟩
theorem trim_raw (A:Option Addr) (c:Nat) (l:List Nat) (n:Nat) (w:World) (h:Raw w A c l n) (a:List Nat) (ha:limbs n=a) :
  Calls Tryz.prog 154 #[.slice A l.length c] w fun e w'=>e=.returned (.slice A a.length c)∧w=w':=by
 obtain ⟨hr,hc,hl,rfl⟩:=h
 subst ha
 exact trim_any A c l w hr hc hl
theorem trim_in (A:Option Addr) (c:Nat) (l:List Nat) (n:Nat) (w:World) (h:In w A c l n) (a:List Nat) (ha:limbs n=a) :
  Calls Tryz.prog 154 #[.slice A l.length c] w fun e w'=>e=.returned (.slice A a.length c)∧w=w' :=
 trim_raw A c l n w h.toRaw a ha
end Go.Proofs.YtcaahphghaddgaaGreatDoor
namespace Go.Proofs.YtcaahphghaddgaaGreatDoor
open Go.RowKit Lim
end Go.Proofs.YtcaahphghaddgaaGreatDoor
namespace Go.Proofs.YtcaahphghaddgaaGreatDoor
open Go.RowKit Lim
set_option maxHeartbeats 400000 in
theorem of_any (n:Nat) (hn:n<18446744073709551616) (w:World) :
  Calls Tryz.prog 136 #[.int .u64 n] w fun e w'=>∃A c,e=.returned (.slice A (limbs n).length c)∧Out w' A c n∧Below w.heap.size w w':=by
 have hin:In (w.alloc (.cells (cells [n % 4294967296,n / 4294967296]) 53)) (some ⟨w.heap.size,0,none⟩) 2 [n % 4294967296,n / 4294967296] n :=
  ⟨(Blk.new w _).rd (by rw [dig_cons,dig_cons];exact ⟨by omega,by omega,dig_nil⟩),by simp,by simp,by simp [val];omega⟩
 have ht:=trim_in _ _ _ _ _ hin _ rfl
 have e:cells [n % 4294967296,n / 4294967296]=#[.int .u32 ((n:Int) % 4294967296),.int .u32 ((n:Int) / 4294967296)]:=by simp [cells]
 rw [e]at ht hin
 have ht':=Lib.hid ht;clear ht
 go_enter Tryz.func136,Tryz.ntmps136
 go_wp2_with fail
 refine ht'.out.mono ?_
 rintro e w' ⟨rfl,rfl⟩
 go_wp2
 go_ret
 exact ⟨_,_,rfl,hin.trim,(Below.refl _ _).alloc (Nat.le_refl _) _⟩
end Go.Proofs.YtcaahphghaddgaaGreatDoor
namespace Go.Proofs.YtcaahphghaddgaaGreatDoor
open Go.RowKit Lim
def AddRel (w wr:World) (g i cr:Nat) (a b:List Nat):Prop :=
 ∃s:List Nat,s.length=i∧Dig s∧Blk wr g (s ++ List.replicate (a.length+1-i) 0)∧val s+cr*pw i=val (a.take i)+val (b.take i)∧cr≤1∧Below w.heap.size w wr
theorem AddRel.cell {w wr:World} {g i cr:Nat} {a b:List Nat} (h:AddRel w wr g i cr a b) (hi:i≤a.length):wr.cell? ⟨g,i,none⟩=some (.int .u32 0)∧wr.frozen? ⟨g,i,none⟩=false:=by
 obtain ⟨s,rfl,hd,hb,_⟩:=h
 have h1:=hb.cell (i:=s.length) (by simp;omega)
 rw [List.getElem_append_right (Nat.le_refl _)]at h1
 simp at h1
 exact ⟨h1,hb.frozen _⟩
theorem AddRel.step {w wr:World} {g k c:Nat} {a b:List Nat} (h:AddRel w wr g k c a b) (ha:Dig a) (hb:Dig b) (hg:w.heap.size≤g) (hk:k<a.length) {x y:Nat} (hx:a.getD k 0=x) (hy:b.getD k 0=y) {u:Int} (hu:u=(((x+c+y) % 4294967296:Nat):Int)) :
  AddRel w (wr.setCell ⟨g,k,none⟩ (.int .u32 u)) g (k+1) ((x+c+y) / 4294967296) a b:=by
 obtain ⟨s,rfl,hd,hbl,hv,hc,hbe⟩:=h
 have hx':=dig_getD ha s.length
 have hy':=dig_getD hb s.length
 refine ⟨s ++ [(x+c+y) % 4294967296],by simp,dig_snoc hd (by omega),?_,?_,by omega,hbe.setCell hg _⟩
 ·have:=hbl.set s.length _ hu
  rw [show a.length+1-s.length=(a.length+1-(s.length+1))+1 from by omega,set_here]at this
  exact this
 ·rw [val_snoc,val_take_succ',val_take_succ',pw_succ,hx,hy]
  exact add_step hv rfl
theorem AddRel.last {w wr:World} {g c n1 n2:Nat} {a b:List Nat} (h:AddRel w wr g a.length c a b) (hl:b.length≤a.length) (hg:w.heap.size≤g) (hS:val a+val b=n1+n2) (hL:a.length<1099511627776) {u:Int} (hu:u=(c:Int)) :
  ∃l,Raw (wr.setCell ⟨g,a.length,none⟩ (.int .u32 u)) (some ⟨g,0,none⟩) (a.length+1) l (n1+n2)∧l.length=a.length+1∧Below w.heap.size w (wr.setCell ⟨g,a.length,none⟩ (.int .u32 u)):=by
 obtain ⟨s,hs,hd,hbl,hv,hc,hbe⟩:=h
 have h1:=hbl.set a.length c hu
 rw [show a.length+1-a.length=0+1 from by omega,←hs,set_here,hs]at h1
 simp only [List.replicate_zero,List.append_nil]at h1
 refine ⟨s ++ [c],⟨h1.rd (dig_snoc hd (by omega)),by simp [hs],by simp [hs];omega,?_⟩,by simp [hs],hbe.setCell hg _⟩
 rw [List.take_of_length_le (Nat.le_refl _),List.take_of_length_le hl]at hv
 rw [val_snoc,hs,←hS,←hv,Nat.mul_comm]
set_option maxHeartbeats 1000000 in
theorem add_any (A1 A2:Option Addr) (c1 c2 n1 n2:Nat) (l1 l2:List Nat) (w:World) (h1:In w A1 c1 l1 n1) (h2:In w A2 c2 l2 n2) :
  Calls Tryz.prog 137 #[.slice A1 l1.length c1,.slice A2 l2.length c2] w fun e w'=>∃A c,e=.returned (.slice A (limbs (n1+n2)).length c)∧Out w' A c (n1+n2)∧Below w.heap.size w w':=by
 obtain ⟨a1,ha1⟩:∃a,limbs n1=a:=⟨_,rfl⟩
 obtain ⟨a2,ha2⟩:∃b,limbs n2=b:=⟨_,rfl⟩
 have q1:Rd w A1 a1:=by rw [←ha1];exact h1.trim.rd
 have q2:Rd w A2 a2:=by rw [←ha2];exact h2.trim.rd
 have m1:a1.length<1099511627776:=by rw [←ha1];exact h1.nlen
 have m2:a2.length<1099511627776:=by rw [←ha2];exact h2.nlen
 have S:val a1+val a2=n1+n2:=by rw [←ha1,←ha2,val_limbs,val_limbs]
 have ha1':=Lib.hid ha1;clear ha1
 have ha2':=Lib.hid ha2;clear ha2
 rcases Nat.lt_or_ge a1.length a2.length with hlt|hge
 case' inl =>
  have hn:(a1.length:Int)<(a2.length:Int):=by omega
  rw [Nat.add_comm]at S
  obtain ⟨a,b,XA,XB,r1,r2,k1,S',hge,ea,eb⟩:∃(a b:List Nat) (XA XB:Option Addr),Rd w XA a∧Rd w XB b∧a.length<1099511627776∧Hid (val a+val b=n1+n2)∧b.length≤a.length∧(a=a2∧XA=A2)∧(b=a1∧XB=A1):=⟨a2,a1,A2,A1,q2,q1,m2,S,by omega,⟨rfl,rfl⟩,⟨rfl,rfl⟩⟩
 case' inr =>
  have hn:¬(a1.length:Int)<(a2.length:Int):=by omega
  obtain ⟨a,b,XA,XB,r1,r2,k1,S',hge,ea,eb⟩:∃(a b:List Nat) (XA XB:Option Addr),Rd w XA a∧Rd w XB b∧a.length<1099511627776∧Hid (val a+val b=n1+n2)∧b.length≤a.length∧(a=a1∧XA=A1)∧(b=a2∧XB=A2):=⟨a1,a2,A1,A2,q1,q2,m1,S,by omega,⟨rfl,rfl⟩,⟨rfl,rfl⟩⟩
 all_goals
  obtain ⟨rfl,rfl⟩:=ea
  obtain ⟨rfl,rfl⟩:=eb
  clear S
  have hmk:=made (a.length+1) (by omega)
  rw [show ((a.length+1:Nat):Int)=(a.length:Int)+1 from by omega]at hmk
  go_enter Tryz.func137,Tryz.ntmps137
  go_wp2_with (go_at_call 154;(first|(with_reducible refine (trim_in _ _ _ _ _ h1 _ ha1'.out).mono ?_)|(with_reducible refine (trim_in _ _ _ _ _ h2 _ ha2'.out).mono ?_));rintro e w' ⟨rfl,rfl⟩)
  go_loopw [6,26] (fun cr i wr=>∃k c:Nat,k≤a.length∧i=.int .i64 (k:Int)∧cr=.int .u64 (c:Int)∧AddRel w wr w.heap.size k c a b) (fun _ i _=>a.length-(intOf i).toNat)
  case atStart =>
   exact ⟨0,0,by omega,rfl,rfl,[],rfl,dig_nil,Blk.new w _,by simp [val],by omega,(Below.refl _ _).alloc (Nat.le_refl _) _⟩
  case round =>
   obtain ⟨k,c,hk,rfl,rfl,hrel⟩:=hrel
   obtain ⟨hst,hfz⟩:=hrel.cell hk
   have hbe:Below w.heap.size w wr:=by obtain ⟨_,_,_,_,_,_,h⟩:=hrel;exact h
   have hc1:c≤1:=by obtain ⟨_,_,_,_,_,h,_⟩:=hrel;exact h
   by_cases hlt:k<a.length
   ·obtain ⟨b1,o1,rfl,hlt1,hcx⟩:=(r1.keep hbe).at_ hlt
    obtain ⟨x,hx⟩:∃x,a[k]=x:=⟨_,rfl⟩
    rw [hx]at hcx
    have hX:=Lib.hid (getD_of hlt hx)
    have hxb:x<4294967296:=by rw [←hx];exact dig_get r1.1 hlt
    clear hx
    by_cases hltb:k<b.length
    ·obtain ⟨b2,o2,rfl,hlt2,hcy⟩:=(r2.keep hbe).at_ hltb
     obtain ⟨y,hy⟩:∃y,b[k]=y:=⟨_,rfl⟩
     rw [hy]at hcy
     have hY:=Lib.hid (getD_of hltb hy)
     have hyb:y<4294967296:=by rw [←hy];exact dig_get r2.1 hltb
     clear hy
     go_wp2
     go_roundw
     case rel=>exact ⟨k+1,(x+c+y) / 4294967296,by omega,by go_num,vint (by omega),hrel.step r1.1 r2.1 (Nat.le_refl _) hlt hX.out hY.out (by omega)⟩
     case measure=>simp [intOf];omega
    ·have hY:=Lib.hid (getD_out (l:=b) (k:=k) (by omega))
     go_wp2
     go_roundw
     case rel=>exact ⟨k+1,(x+c+0) / 4294967296,by omega,by go_num,vint (by omega),hrel.step r1.1 r2.1 (Nat.le_refl _) hlt hX.out hY.out (by omega)⟩
     case measure=>simp [intOf];omega
   ·obtain rfl:k=a.length:=by omega
    obtain ⟨l,hin,hll,hbl⟩:=hrel.last (u:=(c:Int)) hge (Nat.le_refl _) S'.out k1 rfl
    have hL:=Lib.hid hll;clear hll
    go_wp2_with fail
    have ht:=trim_raw _ _ _ _ _ hin _ rfl
    rw [hL.out]at ht
    refine ht.mono ?_
    clear ht
    rintro e w' ⟨rfl,rfl⟩
    go_wp2
    go_ret
    exact ⟨_,_,rfl,hin.trim,hbl⟩
end Go.Proofs.YtcaahphghaddgaaGreatDoor
namespace Go.Proofs.YtcaahphghaddgaaGreatDoor
open Go.RowKit Lim
end Go.Proofs.YtcaahphghaddgaaGreatDoor
namespace Go.Proofs.YtcaahphghaddgaaGreatDoor
open Go.RowKit Lim
def MulRel (w wr:World) (g i:Nat) (a b:List Nat):Prop :=
 ∃p:List Nat,p.length=i+b.length∧Dig p∧Blk wr g (p ++ List.replicate (a.length-i) 0)∧val p=val (a.take i)*val b∧Below w.heap.size w wr
def MulIn (w wr:World) (g i j c x z:Nat) (a b:List Nat):Prop :=
 ∃q:List Nat,q.length=i+b.length∧Dig q∧Blk wr g (q ++ List.replicate z 0)∧val q+c*pw (i+j)=val (a.take i)*val b+x*(pw i*val (b.take j))∧c<4294967296∧Below w.heap.size w wr
theorem MulRel.start {w wr:World} {g i:Nat} {a b:List Nat} (h:MulRel w wr g i a b) (x:Nat):MulIn w wr g i 0 0 x (a.length-i) a b:=by
 obtain ⟨p,hl,hd,hb,hv,hbe⟩:=h
 exact ⟨p,hl,hd,hb,by simp [val,hv],by omega,hbe⟩
theorem MulIn.cell {w wr:World} {g i j c x z:Nat} {a b:List Nat} (h:MulIn w wr g i j c x z a b) (hj:j<b.length):∃o,wr.cell? ⟨g,i+j,none⟩=some (.int .u32 ((o:Nat):Int))∧wr.frozen? ⟨g,i+j,none⟩=false∧o<4294967296 ∧
  ∀y t:Nat,b.getD j 0=y→x<4294967296→y<4294967296→t=x*y+o+c→w.heap.size≤g→∀u:Int,u=((t % 4294967296:Nat):Int) →
   MulIn w (wr.setCell ⟨g,i+j,none⟩ (.int .u32 u)) g i (j+1) (t / 4294967296) x z a b:=by
 obtain ⟨q,hl,hd,hb,hv,hc,hbe⟩:=h
 have hi:i+j<q.length:=by omega
 refine ⟨q[i+j],?_,hb.frozen _,dig_get hd hi,?_⟩
 ·have:=hb.cell (i:=i+j) (by simp;omega)
  rw [List.getElem_append_left hi]at this
  exact this
 ·intro y t hy hx hyb ht hg u hu
  have ho:=dig_get hd hi
  have hset:=val_set q (i+j) (t % 4294967296) hi
  have hm:x*y≤4294967295*4294967295:=Nat.mul_le_mul (by omega) (by omega)
  refine ⟨q.set (i+j) (t % 4294967296),by simp [hl],dig_set hd _ (by omega),?_,?_,by omega,hbe.setCell hg _⟩
  ·have:=hb.set (i+j) _ hu
   rw [List.set_append_left _ _ hi]at this
   exact this
  ·have h1:=mul_step hset ht
   rw [←Nat.add_assoc,pw_succ,h1,hv,val_take_succ',hy,pw_add]
   grind
theorem MulIn.last {w wr:World} {g i c x z:Nat} {a b:List Nat} (h:MulIn w wr g i b.length c x (z+1) a b) (hx:a.getD i 0=x) (hz:a.length-(i+1)=z) (hg:w.heap.size≤g) {u:Int} (hu:u=(c:Int)) :
  wr.cell? ⟨g,i+b.length,none⟩=some (.int .u32 0)∧wr.frozen? ⟨g,i+b.length,none⟩=false∧MulRel w (wr.setCell ⟨g,i+b.length,none⟩ (.int .u32 u)) g (i+1) a b:=by
 obtain ⟨q,hl,hd,hb,hv,hc,hbe⟩:=h
 refine ⟨?_,hb.frozen _,q ++ [c],by simp [hl];omega,dig_snoc hd hc,?_,?_,hbe.setCell hg _⟩
 ·have:=hb.cell (i:=i+b.length) (by simp;omega)
  rw [List.getElem_append_right (by omega)]at this
  simpa using this
 ·have:=hb.set (i+b.length) _ hu
  rw [←hl,set_here]at this
  rw [hz,←hl]
  exact this
 ·rw [List.take_of_length_le (Nat.le_refl _)]at hv
  rw [val_snoc,hl,val_take_succ',hx,Nat.mul_comm (pw _) c,hv]
  grind
theorem MulRel.last {w wr:World} {g:Nat} {a b:List Nat} (h:MulRel w wr g a.length a b) (hL:a.length+b.length≤4398046511104) :
  ∃l,Raw wr (some ⟨g,0,none⟩) (a.length+b.length) l (val a*val b)∧l.length=a.length+b.length∧Below w.heap.size w wr:=by
 obtain ⟨p,hl,hd,hb,hv,hbe⟩:=h
 rw [Nat.sub_self,List.replicate_zero,List.append_nil]at hb
 rw [List.take_of_length_le (Nat.le_refl _)]at hv
 exact ⟨p,⟨hb.rd hd,by omega,by omega,hv⟩,hl,hbe⟩
set_option maxHeartbeats 1000000 in
theorem mul_any (A1 A2:Option Addr) (c1 c2 n1 n2:Nat) (l1 l2:List Nat) (w:World) (h1:In w A1 c1 l1 n1) (h2:In w A2 c2 l2 n2) :
  Calls Tryz.prog 138 #[.slice A1 l1.length c1,.slice A2 l2.length c2] w fun e w'=>∃A c,e=.returned (.slice A (limbs (n1*n2)).length c)∧Out w' A c (n1*n2)∧Below w.heap.size w w':=by
 have i1:=h1.trim.toIn h1.nlen
 have i2:=h2.trim.toIn h2.nlen
 obtain ⟨a,ha⟩:∃a,limbs n1=a:=⟨_,rfl⟩
 obtain ⟨b,hb⟩:∃b,limbs n2=b:=⟨_,rfl⟩
 rw [ha]at i1
 rw [hb]at i2
 have r1:=i1.rd
 have r2:=i2.rd
 have k1:=i1.lim
 have k2:=i2.lim
 have V1':=Lib.hid i1.val
 have V2':=Lib.hid i2.val
 have ha':=Lib.hid ha;clear ha
 have hb':=Lib.hid hb;clear hb
 have hmk:=made (a.length+b.length) (by omega)
 rw [show ((a.length+b.length:Nat):Int)=(a.length:Int)+(b.length:Int)from by omega]at hmk
 go_enter Tryz.func138,Tryz.ntmps138
 go_wp2_with (go_at_call 154;(first|(with_reducible refine (trim_in _ _ _ _ _ h1 _ ha'.out).mono ?_)|(with_reducible refine (trim_in _ _ _ _ _ h2 _ hb'.out).mono ?_));rintro e w' ⟨rfl,rfl⟩)
 go_loopw [24] (fun i wr=>∃k:Nat,k≤a.length∧i=.int .i64 (k:Int)∧MulRel w wr w.heap.size k a b) (fun i _=>a.length-(intOf i).toNat)
 case atStart =>
  exact ⟨0,by omega,rfl,List.replicate b.length 0,by simp,dig_replicate _,by rw [List.replicate_append_replicate,Nat.sub_zero,Nat.add_comm];exact Blk.new w _,by rw [val_replicate];simp [val],(Below.refl _ _).alloc (Nat.le_refl _) _⟩
 case round =>
  obtain ⟨k,hk,rfl,hout⟩:=hrel
  obtain ⟨wo,rfl⟩:∃wo:World,wo=wr:=⟨_,rfl⟩
  by_cases hlt:k<a.length
  ·have hbe:Below w.heap.size w wo:=by obtain ⟨_,_,_,_,_,h⟩:=hout;exact h
   obtain ⟨b1,o1,rfl,hlt1,hcx⟩:=(r1.keep hbe).at_ hlt
   obtain ⟨x,hx⟩:∃x,a[k]=x:=⟨_,rfl⟩
   rw [hx]at hcx
   have hX:=Lib.hid (getD_of hlt hx)
   have hxb:x<4294967296:=by rw [←hx];exact dig_get r1.1 hlt
   clear hx
   go_wp2
   go_loopw [8,31] (fun cr j wr=>∃m c:Nat,m≤b.length∧j=.int .i64 (m:Int)∧cr=.int .u64 (c:Int)∧MulIn w wr w.heap.size k m c x (a.length-k) a b) (fun _ j _=>b.length-(intOf j).toNat)
   case atStart=>exact ⟨0,0,by omega,rfl,rfl,hout.start x⟩
   case round =>
    obtain ⟨m,c,hm,rfl,rfl,hrin⟩:=hrel
    have hbi:Below w.heap.size w wr:=by obtain ⟨_,_,_,_,_,_,h⟩:=hrin;exact h
    have hcb:c<4294967296:=by obtain ⟨_,_,_,_,_,h,_⟩:=hrin;exact h
    by_cases hltb:m<b.length
    ·obtain ⟨b2,o2,rfl,hlt2,hcy⟩:=(r2.keep hbi).at_ hltb
     obtain ⟨y,hy⟩:∃y,b[m]=y:=⟨_,rfl⟩
     rw [hy]at hcy
     have hY:=Lib.hid (getD_of hltb hy)
     have hyb:y<4294967296:=by rw [←hy];exact dig_get r2.1 hltb
     clear hy
     obtain ⟨o,hoc,hof,hob,hstep⟩:=hrin.cell hltb
     have hst:=Lib.hid (hstep y _ hY.out hxb hyb rfl (Nat.le_refl _))
     clear hstep
     have hmul:x*y≤18446744065119617025:=Nat.mul_le_mul (show x≤4294967295 by omega) (show y≤4294967295 by omega)
     have hmi:(x:Int)*(y:Int)≤18446744065119617025:=by rw [←Int.natCast_mul];omega
     have hm0:0≤(x:Int)*(y:Int):=by rw [←Int.natCast_mul];omega
     go_wp2
     go_roundw
     case rel=>exact ⟨m+1,(x*y+o+c) / 4294967296,by omega,by go_num,vint (by rw [←Int.natCast_mul];omega),hst.out _ (by rw [←Int.natCast_mul];omega)⟩
     case measure=>simp [intOf];omega
    ·obtain rfl:m=b.length:=by omega
     obtain ⟨hoc,hof,hst⟩:=MulIn.last (z:=a.length-(k+1)) (by rw [show a.length-(k+1)+1=a.length-k from by omega];exact hrin) hX.out rfl (Nat.le_refl _) (u:=(c:Int)) rfl
     go_wp2
     go_roundw
     case rel=>exact ⟨k+1,by omega,by go_num,hst⟩
     case measure=>simp [intOf];omega
  ·obtain rfl:k=a.length:=by omega
   obtain ⟨l,hin,hll,hbl⟩:=hout.last (by omega)
   rw [V1'.out,V2'.out]at hin
   have hL:=Lib.hid hll;clear hll
   go_wp2_with fail
   have ht:=trim_raw _ _ _ _ _ hin _ rfl
   rw [hL.out]at ht
   refine ht.mono ?_
   clear ht
   rintro e w' ⟨rfl,rfl⟩
   go_wp2
   go_ret
   exact ⟨_,_,rfl,hin.trim,hbl⟩
end Go.Proofs.YtcaahphghaddgaaGreatDoor
namespace Go.Proofs.YtcaahphghaddgaaGreatDoor
open Go.RowKit Lim
end Go.Proofs.YtcaahphghaddgaaGreatDoor
namespace Go.Proofs.YtcaahphghaddgaaGreatDoor
open Go.RowKit Lim
end Go.Proofs.YtcaahphghaddgaaGreatDoor
namespace Go.Proofs.YtcaahphghaddgaaGreatDoor
open Go.RowKit Lim
end Go.Proofs.YtcaahphghaddgaaGreatDoor
namespace Go.Proofs.YtcaahphghaddgaaGreatDoor
open Go.RowKit Lim
end Go.Proofs.YtcaahphghaddgaaGreatDoor
namespace Go.Proofs.YtcaahphghaddgaaGreatDoor.Lim
structure Dv (N V:Nat) (R q:List Nat) (k:Nat):Prop where
 dig:Dig R
 digq:Dig q
 top:val (R.drop k)<V
 eq:val R+V*(pw k*val q)=N
end Go.Proofs.YtcaahphghaddgaaGreatDoor.Lim
namespace Go.Proofs
open Go.Shelf
def Tryz.lays169_ren:Go.Shelf.Ren:=⟨fun|169=>34|n=>n,fun|70=>62|9=>9|0=>0|72=>65|37=>63|127=>118|3=>3|5=>5|n=>n,fun|n=>n⟩
theorem Tryz.lays169:Go.Proofs.Lays.n169 Tryz.prog Tryz.lays169_ren:={
 mixed:=by kernel_rfl
 f169:=Tryz.func34.trans (congrArg some (by kernel_rfl))
 t0:=Tryz.underlying0
 a0:=Tryz.isAgg0
 z0:=Tryz.sizeOf0
 v0:=Tryz.zeroValue0
 t3:=Tryz.underlying3
 a3:=Tryz.isAgg3
 z3:=Tryz.sizeOf3
 v3:=Tryz.zeroValue3
 t9:=Tryz.underlying9
 a9:=Tryz.isAgg9
 z9:=Tryz.sizeOf9
 v9:=Tryz.zeroValue9
 t37:=Tryz.underlying63
 a37:=Tryz.isAgg63
 z37:=Tryz.sizeOf63
 v37:=Tryz.zeroValue63
 t70:=Tryz.underlying62
 a70:=Tryz.isAgg62
 z70:=Tryz.sizeOf62
 v70:=Tryz.zeroValue62
 t72:=Tryz.underlying65
 a72:=Tryz.isAgg65
 z72:=Tryz.sizeOf65
 v72:=Tryz.zeroValue65
 t127:=Tryz.underlying118
 a127:=Tryz.isAgg118
 z127:=Tryz.sizeOf118
 v127:=Tryz.zeroValue118 }
theorem Tryz.Builder_Extra_169:Builder.Extra Tryz.prog Tryz.lays169_ren:={
 sizeBuilder:=by kernel_rfl
 liesBuilder:=by kernel_rfl
 t5:=Tryz.underlying5
 a5:=Tryz.isAgg5
 z5:=Tryz.sizeOf5
 v5:=Tryz.zeroValue5
 infoByte:=by kernel_rfl
 cellsByte:=by kernel_rfl
 sizeByte:=by kernel_rfl
 neB5:=by decide }
open Go.RowKit in
theorem Tryz.Builder_String_any (B b:Nat) (l:List UInt8) (w:World) (h:Lib.IsBuilder 65 5 B b (Lib.byteCells l) w) (hBw:B≤w.heap.size) :
  Calls Tryz.prog 34 #[.pointer (some ⟨b,0,none⟩)] w fun e w'=>e=.returned (.string ⟨l.toArray⟩)∧Below B w w':=Any.Builder_String_any Tryz.lays169 Tryz.Builder_Extra_169 B b l w h hBw
def Tryz.lays156_ren:Go.Shelf.Ren:=⟨fun|156=>67|165=>102|166=>31|169=>34|240=>65|241=>119|276=>100|277=>145|n=>n,fun|31=>116|9=>9|3=>3|4=>4|0=>0|20=>20|72=>65|76=>68|70=>62|37=>63|75=>67|127=>118|164=>163|5=>5|80=>75|n=>n,fun|n=>n⟩
theorem Tryz.lays156:Go.Proofs.Lays.n156 Tryz.prog Tryz.lays156_ren:={
 mixed:=by kernel_rfl
 f156:=Tryz.func67.trans (congrArg some (by kernel_rfl))
 f165:=Tryz.func102.trans (congrArg some (by kernel_rfl))
 f166:=Tryz.func31.trans (congrArg some (by kernel_rfl))
 f169:=Tryz.func34.trans (congrArg some (by kernel_rfl))
 f240:=Tryz.func65.trans (congrArg some (by kernel_rfl))
 f241:=Tryz.func119.trans (congrArg some (by kernel_rfl))
 f276:=Tryz.func100.trans (congrArg some (by kernel_rfl))
 f277:=Tryz.func145.trans (congrArg some (by kernel_rfl))
 t0:=Tryz.underlying0
 a0:=Tryz.isAgg0
 z0:=Tryz.sizeOf0
 v0:=Tryz.zeroValue0
 t3:=Tryz.underlying3
 a3:=Tryz.isAgg3
 z3:=Tryz.sizeOf3
 v3:=Tryz.zeroValue3
 t4:=Tryz.underlying4
 a4:=Tryz.isAgg4
 z4:=Tryz.sizeOf4
 v4:=Tryz.zeroValue4
 t9:=Tryz.underlying9
 a9:=Tryz.isAgg9
 z9:=Tryz.sizeOf9
 v9:=Tryz.zeroValue9
 t20:=Tryz.underlying20
 a20:=Tryz.isAgg20
 z20:=Tryz.sizeOf20
 v20:=Tryz.zeroValue20
 t31:=Tryz.underlying116
 a31:=Tryz.isAgg116
 z31:=Tryz.sizeOf116
 v31:=Tryz.zeroValue116
 t37:=Tryz.underlying63
 a37:=Tryz.isAgg63
 z37:=Tryz.sizeOf63
 v37:=Tryz.zeroValue63
 t70:=Tryz.underlying62
 a70:=Tryz.isAgg62
 z70:=Tryz.sizeOf62
 v70:=Tryz.zeroValue62
 t72:=Tryz.underlying65
 a72:=Tryz.isAgg65
 z72:=Tryz.sizeOf65
 v72:=Tryz.zeroValue65
 t75:=Tryz.underlying67
 a75:=Tryz.isAgg67
 z75:=Tryz.sizeOf67
 v75:=Tryz.zeroValue67
 t76:=Tryz.underlying68
 a76:=Tryz.isAgg68
 z76:=Tryz.sizeOf68
 v76:=Tryz.zeroValue68
 t127:=Tryz.underlying118
 a127:=Tryz.isAgg118
 z127:=Tryz.sizeOf118
 v127:=Tryz.zeroValue118
 t164:=Tryz.underlying163
 a164:=Tryz.isAgg163
 z164:=Tryz.sizeOf163
 v164:=Tryz.zeroValue163 }
theorem Tryz.Builder_Extra_156:Builder.Extra Tryz.prog Tryz.lays156_ren:={
 sizeBuilder:=by kernel_rfl
 liesBuilder:=by kernel_rfl
 t5:=Tryz.underlying5
 a5:=Tryz.isAgg5
 z5:=Tryz.sizeOf5
 v5:=Tryz.zeroValue5
 infoByte:=by kernel_rfl
 cellsByte:=by kernel_rfl
 sizeByte:=by kernel_rfl
 neB5:=by decide }
open Go.RowKit in
theorem Tryz.strings_Join (bk o c:Nat) (xs:List ByteArray) (sep:ByteArray) (w:World) (hcells:∀(j:Nat) x,xs[j]? = some x→w.cell? ⟨bk,o+j,none⟩=some (.string x)) (hbk:bk<w.heap.size) (hN:xs.length≤140737488355328) (hcap:xs.length≤c) (hlen:(Lib.join (xs.map (·.data.toList)) sep.data.toList).length≤140737488355328) :
  Calls Tryz.prog 67 #[.slice (some ⟨bk,o,none⟩) xs.length c,.string sep] w fun e w'=>e=.returned (.string ⟨(Lib.join (xs.map (·.data.toList)) sep.data.toList).toArray⟩)∧Below w.heap.size w w':=Any.strings_Join Tryz.lays156 Tryz.Builder_Extra_156 bk o c xs sep w hcells hbk hN hcap hlen
def Tryz.laysM171_ren:Go.Shelf.Ren:=⟨fun|171=>66|243=>101|246=>118|283=>141|284=>142|285=>143|286=>144|129=>161|317=>160|318=>162|319=>163|320=>164|337=>178|338=>179|n=>n,fun|3=>3|9=>9|2=>2|4=>4|171=>193|0=>0|53=>123|37=>63|5=>5|173=>196|212=>212|51=>53|20=>20|213=>213|46=>60|232=>243|233=>244|n=>n,fun|17=>1|18=>6|19=>7|n=>n⟩
theorem Tryz.laysM171:Go.Proofs.LaysM.n171 Tryz.prog Tryz.laysM171_ren:={
 mixed:=by kernel_rfl
 f129:=Tryz.func161.trans (congrArg some (by kernel_rfl))
 f171:=Tryz.func66.trans (congrArg some (by kernel_rfl))
 f243:=Tryz.func101.trans (congrArg some (by kernel_rfl))
 f246:=Tryz.func118.trans (congrArg some (by kernel_rfl))
 f283:=Tryz.func141.trans (congrArg some (by kernel_rfl))
 f284:=Tryz.func142.trans (congrArg some (by kernel_rfl))
 f285:=Tryz.func143.trans (congrArg some (by kernel_rfl))
 f286:=Tryz.func144.trans (congrArg some (by kernel_rfl))
 f317:=Tryz.func160.trans (congrArg some (by kernel_rfl))
 f318:=Tryz.func162.trans (congrArg some (by kernel_rfl))
 f319:=Tryz.func163.trans (congrArg some (by kernel_rfl))
 f320:=Tryz.func164.trans (congrArg some (by kernel_rfl))
 f337:=Tryz.func178.trans (congrArg some (by kernel_rfl))
 f338:=Tryz.func179.trans (congrArg some (by kernel_rfl))
 t0:=Tryz.underlying0
 a0:=Tryz.isAgg0
 z0:=Tryz.sizeOf0
 v0:=Tryz.zeroValue0
 t2:=Tryz.underlying2
 a2:=Tryz.isAgg2
 z2:=Tryz.sizeOf2
 v2:=Tryz.zeroValue2
 t3:=Tryz.underlying3
 a3:=Tryz.isAgg3
 z3:=Tryz.sizeOf3
 v3:=Tryz.zeroValue3
 t4:=Tryz.underlying4
 a4:=Tryz.isAgg4
 z4:=Tryz.sizeOf4
 v4:=Tryz.zeroValue4
 t5:=Tryz.underlying5
 a5:=Tryz.isAgg5
 z5:=Tryz.sizeOf5
 v5:=Tryz.zeroValue5
 t9:=Tryz.underlying9
 a9:=Tryz.isAgg9
 z9:=Tryz.sizeOf9
 v9:=Tryz.zeroValue9
 t20:=Tryz.underlying20
 a20:=Tryz.isAgg20
 z20:=Tryz.sizeOf20
 v20:=Tryz.zeroValue20
 t37:=Tryz.underlying63
 a37:=Tryz.isAgg63
 z37:=Tryz.sizeOf63
 v37:=Tryz.zeroValue63
 t46:=Tryz.underlying60
 a46:=Tryz.isAgg60
 z46:=Tryz.sizeOf60
 v46:=Tryz.zeroValue60
 t51:=Tryz.underlying53
 a51:=Tryz.isAgg53
 z51:=Tryz.sizeOf53
 v51:=Tryz.zeroValue53
 t53:=Tryz.underlying123
 a53:=Tryz.isAgg123
 z53:=Tryz.sizeOf123
 v53:=Tryz.zeroValue123
 t171:=Tryz.underlying193
 a171:=Tryz.isAgg193
 z171:=Tryz.sizeOf193
 v171:=Tryz.zeroValue193
 t173:=Tryz.underlying196
 a173:=Tryz.isAgg196
 z173:=Tryz.sizeOf196
 v173:=Tryz.zeroValue196
 t212:=Tryz.underlying212
 a212:=Tryz.isAgg212
 z212:=Tryz.sizeOf212
 v212:=Tryz.zeroValue212
 t213:=Tryz.underlying213
 a213:=Tryz.isAgg213
 z213:=Tryz.sizeOf213
 t232:=Tryz.underlying243
 a232:=Tryz.isAgg243
 z232:=Tryz.sizeOf243
 v232:=Tryz.zeroValue243
 t233:=Tryz.underlying244
 a233:=Tryz.isAgg244
 z233:=Tryz.sizeOf244
 v233:=Tryz.zeroValue244
 g17:=by kernel_rfl
 g18:=by kernel_rfl
 g19:=by kernel_rfl
 i0:=by kernel_rfl
 i2:=by kernel_rfl
 i3:=by kernel_rfl
 i4:=by kernel_rfl
 i5:=by kernel_rfl
 i9:=by kernel_rfl
 i20:=by kernel_rfl
 i37:=by kernel_rfl
 i46:=by kernel_rfl
 i51:=by kernel_rfl
 i53:=by kernel_rfl
 i171:=by kernel_rfl
 i173:=by kernel_rfl
 i212:=by kernel_rfl
 i232:=by kernel_rfl
 i233:=by kernel_rfl
 m17:=by kernel_rfl
 m18:=by kernel_rfl
 m19:=by kernel_rfl }
open Go.RowKit Go.Sort Go.Lib in
theorem Tryz.strconv_Itoa (n : Int) (h0 : -9223372036854775808 ≤ n) (h1 : n ≤ 9223372036854775807) (w : World) (htab : Lib.TabIs Tryz.prog w "internal/strconv.uint64pow10" .u64 Lib.pow10Tab) :
  Calls Tryz.prog 66 #[.int .i64 n] w fun e w'=>e=.returned (.string ⟨(Lib.itoa n).toArray⟩)∧∃k os,w'=grow (w.drewN k) os:=Any.strconv_Itoa Tryz.laysM171 n h0 h1 w htab
def Tryz.lays145_ren:Go.Shelf.Ren:=⟨fun|145=>55|220=>92|219=>114|217=>129|225=>130|224=>131|267=>132|266=>149|314=>150|n=>n,fun|9=>9|4=>4|59=>103|3=>3|5=>5|46=>60|146=>201|51=>53|n=>n,fun|1=>0|n=>n⟩
theorem Tryz.lays145:Go.Proofs.Lays.n145 Tryz.prog Tryz.lays145_ren:={
 mixed:=by kernel_rfl
 f145:=Tryz.func55.trans (congrArg some (by kernel_rfl))
 f217:=Tryz.func129.trans (congrArg some (by kernel_rfl))
 f219:=Tryz.func114.trans (congrArg some (by kernel_rfl))
 f220:=Tryz.func92.trans (congrArg some (by kernel_rfl))
 f224:=Tryz.func131.trans (congrArg some (by kernel_rfl))
 f225:=Tryz.func130.trans (congrArg some (by kernel_rfl))
 f266:=Tryz.func149.trans (congrArg some (by kernel_rfl))
 f267:=Tryz.func132.trans (congrArg some (by kernel_rfl))
 f314:=Tryz.func150.trans (congrArg some (by kernel_rfl))
 t3:=Tryz.underlying3
 a3:=Tryz.isAgg3
 z3:=Tryz.sizeOf3
 v3:=Tryz.zeroValue3
 t4:=Tryz.underlying4
 a4:=Tryz.isAgg4
 z4:=Tryz.sizeOf4
 v4:=Tryz.zeroValue4
 t5:=Tryz.underlying5
 a5:=Tryz.isAgg5
 z5:=Tryz.sizeOf5
 v5:=Tryz.zeroValue5
 t9:=Tryz.underlying9
 a9:=Tryz.isAgg9
 z9:=Tryz.sizeOf9
 v9:=Tryz.zeroValue9
 t46:=Tryz.underlying60
 a46:=Tryz.isAgg60
 z46:=Tryz.sizeOf60
 v46:=Tryz.zeroValue60
 t51:=Tryz.underlying53
 a51:=Tryz.isAgg53
 z51:=Tryz.sizeOf53
 v51:=Tryz.zeroValue53
 t59:=Tryz.underlying103
 a59:=Tryz.isAgg103
 z59:=Tryz.sizeOf103
 v59:=Tryz.zeroValue103
 t146:=Tryz.underlying201
 a146:=Tryz.isAgg201
 z146:=Tryz.sizeOf201
 v146:=Tryz.zeroValue201
 g1:=by kernel_rfl }
open Go.RowKit Go.Lib in
theorem Tryz.strings_Cut (s sep:ByteArray) (m:Int) (w:World) (hs:s.size<4294967281) (hm:w.cell? ⟨0,0,none⟩=some (.int .i64 m)) :
  Calls Tryz.prog 55 #[.string s,.string sep] w fun e w'=>e=.returned (.tuple #[.string ⟨(Lib.cut s.data.toList sep.data.toList).1.toArray⟩,.string ⟨(Lib.cut s.data.toList sep.data.toList).2.1.toArray⟩,.bool (Lib.cut s.data.toList sep.data.toList).2.2])∧∃n,w'=w.drewN n:=Any.strings_Cut Tryz.lays145 s sep m w hs hm
def Tryz.lays146_ren:Go.Shelf.Ren:=⟨fun|146=>93|221=>115|268=>133|138=>134|143=>135|195=>151|197=>152|218=>153|219=>114|260=>174|217=>129|225=>130|224=>131|267=>132|266=>149|314=>150|n=>n,fun|9=>9|31=>116|3=>3|4=>4|0=>0|105=>204|21=>21|5=>5|46=>60|119=>235|139=>238|138=>237|146=>201|51=>53|n=>n,fun|1=>0|3=>4|4=>5|n=>n⟩
theorem Tryz.lays146:Go.Proofs.Lays.n146 Tryz.prog Tryz.lays146_ren:={
 mixed:=by kernel_rfl
 f138:=Tryz.func134.trans (congrArg some (by kernel_rfl))
 f143:=Tryz.func135.trans (congrArg some (by kernel_rfl))
 f146:=Tryz.func93.trans (congrArg some (by kernel_rfl))
 f195:=Tryz.func151.trans (congrArg some (by kernel_rfl))
 f197:=Tryz.func152.trans (congrArg some (by kernel_rfl))
 f217:=Tryz.func129.trans (congrArg some (by kernel_rfl))
 f218:=Tryz.func153.trans (congrArg some (by kernel_rfl))
 f219:=Tryz.func114.trans (congrArg some (by kernel_rfl))
 f221:=Tryz.func115.trans (congrArg some (by kernel_rfl))
 f224:=Tryz.func131.trans (congrArg some (by kernel_rfl))
 f225:=Tryz.func130.trans (congrArg some (by kernel_rfl))
 f260:=Tryz.func174.trans (congrArg some (by kernel_rfl))
 f266:=Tryz.func149.trans (congrArg some (by kernel_rfl))
 f267:=Tryz.func132.trans (congrArg some (by kernel_rfl))
 f268:=Tryz.func133.trans (congrArg some (by kernel_rfl))
 f314:=Tryz.func150.trans (congrArg some (by kernel_rfl))
 t0:=Tryz.underlying0
 a0:=Tryz.isAgg0
 z0:=Tryz.sizeOf0
 v0:=Tryz.zeroValue0
 t3:=Tryz.underlying3
 a3:=Tryz.isAgg3
 z3:=Tryz.sizeOf3
 v3:=Tryz.zeroValue3
 t4:=Tryz.underlying4
 a4:=Tryz.isAgg4
 z4:=Tryz.sizeOf4
 v4:=Tryz.zeroValue4
 t5:=Tryz.underlying5
 a5:=Tryz.isAgg5
 z5:=Tryz.sizeOf5
 v5:=Tryz.zeroValue5
 t9:=Tryz.underlying9
 a9:=Tryz.isAgg9
 z9:=Tryz.sizeOf9
 v9:=Tryz.zeroValue9
 t21:=Tryz.underlying21
 a21:=Tryz.isAgg21
 z21:=Tryz.sizeOf21
 v21:=Tryz.zeroValue21
 t31:=Tryz.underlying116
 a31:=Tryz.isAgg116
 z31:=Tryz.sizeOf116
 v31:=Tryz.zeroValue116
 t46:=Tryz.underlying60
 a46:=Tryz.isAgg60
 z46:=Tryz.sizeOf60
 v46:=Tryz.zeroValue60
 t51:=Tryz.underlying53
 a51:=Tryz.isAgg53
 z51:=Tryz.sizeOf53
 v51:=Tryz.zeroValue53
 t105:=Tryz.underlying204
 a105:=Tryz.isAgg204
 z105:=Tryz.sizeOf204
 v105:=Tryz.zeroValue204
 t119:=Tryz.underlying235
 a119:=Tryz.isAgg235
 z119:=Tryz.sizeOf235
 t138:=Tryz.underlying237
 a138:=Tryz.isAgg237
 z138:=Tryz.sizeOf237
 v138:=Tryz.zeroValue237
 t139:=Tryz.underlying238
 a139:=Tryz.isAgg238
 z139:=Tryz.sizeOf238
 v139:=Tryz.zeroValue238
 t146:=Tryz.underlying201
 a146:=Tryz.isAgg201
 z146:=Tryz.sizeOf201
 v146:=Tryz.zeroValue201
 g1:=by kernel_rfl
 g3:=by kernel_rfl
 g4:=by kernel_rfl }
open Go.RowKit Go.Lib in
theorem Tryz.strings_Split (s sep:ByteArray) (m:Int) (w:World) (hs:s.size<4294967281) (hm:w.cell? ⟨0,0,none⟩=some (.int .i64 m)) (h1:1≤sep.size) :
  Calls Tryz.prog 93 #[.string s,.string sep] w fun e w' =>
   e=.returned (.slice (some ⟨w.heap.size,0,none⟩) (Lib.countB s sep+1) (Lib.countB s sep+1))∧w'=w.alloc (.cells ((Lib.splitB sep 0 (Lib.countB s sep) s).map Value.string).toArray 9):=Any.strings_Split Tryz.lays146 (by kernel_rfl) s sep m w hs hm h1
end Go.Proofs
set_option linter.unusedSimpArgs false
set_option linter.unusedVariables false
namespace Go.Proofs.YtcaahphghaddgaaGreatDoor
open Go.RowKit Lim
end Go.Proofs.YtcaahphghaddgaaGreatDoor
namespace Go.Proofs.YtcaahphghaddgaaGreatDoor
open Go.RowKit Lim
end Go.Proofs.YtcaahphghaddgaaGreatDoor
namespace Go.Proofs.YtcaahphghaddgaaGreatDoor
open Go.RowKit Lim
def sg (t:Bool) (n:Nat):Int:=if t then -(n:Int) else (n:Int)
structure InI (w:World) (t:Bool) (A:Option Addr) (c:Nat) (l:List Nat) (z:Int):Prop where
 mag:In w A c l z.natAbs
 sgn:z=sg t z.natAbs
structure OutI (w:World) (t:Bool) (A:Option Addr) (c:Nat) (l:List Nat) (z:Int):Prop where
 mag:Out w A c z.natAbs
 sgn:t=decide (z<0)
 lim:l=limbs z.natAbs
def Box (w:World) (g:Nat) (cs:Array Value) (t:TypeId):Prop:=w.heap[g]? = some (.cells cs t (0,0))
theorem Box.lt {w:World} {g:Nat} {cs:Array Value} {t:TypeId} (h:Box w g cs t):g<w.heap.size:=by
 rcases Nat.lt_or_ge g w.heap.size with hlt|hge
 ·exact hlt
 ·unfold Box at h;rw [Array.getElem?_eq_none hge]at h;cases h
theorem Box.cell {w:World} {g:Nat} {cs:Array Value} {t:TypeId} (h:Box w g cs t) (i:Nat):w.cell? ⟨g,i,none⟩=cs[i]?:=cell_of_row w g i cs t (0,0) h
theorem Box.new (w:World) (cs:Array Value) (t:TypeId):Box (w.alloc (.cells cs t)) w.heap.size cs t:=heap_alloc_new w _
def noLimb:Value→Bool|.int .u32 _=>false|_=>true
end Go.Proofs.YtcaahphghaddgaaGreatDoor
namespace Go.Proofs.YtcaahphghaddgaaGreatDoor
open Go.RowKit Lim
attribute [local go_sem ↓] Go.wp_at_zero Go.wp_at_succ
end Go.Proofs.YtcaahphghaddgaaGreatDoor
namespace Go.Proofs.YtcaahphghaddgaaGreatDoor
open Go.RowKit Lim
attribute [local go_sem ↓] Go.wp_at_zero Go.wp_at_succ
end Go.Proofs.YtcaahphghaddgaaGreatDoor
namespace Go.Proofs.YtcaahphghaddgaaGreatDoor
open Go.RowKit Lim
attribute [local go_sem ↓] Go.wp_at_zero Go.wp_at_succ
end Go.Proofs.YtcaahphghaddgaaGreatDoor
set_option linter.unusedSimpArgs false
set_option linter.unusedVariables false
namespace Go.Proofs.YtcaahphghaddgaaGreatDoor
open Go.RowKit Lim
attribute [local go_sem ↓] Go.wp_at_zero Go.wp_at_succ
def pz (z:Int) (d:Nat):Int:=if d=0 then 0 else z
def pd (d:Nat):Nat:=if d=0 then 1 else d
def rn (z:Int) (d:Nat):Int:=sg (decide (z<0)) (z.natAbs / Nat.gcd z.natAbs d)
def rd (z:Int) (d:Nat):Nat:=d / Nat.gcd z.natAbs d
structure InR (w:World) (t:Bool) (A:Option Addr) (c:Nat) (l:List Nat) (B:Option Addr) (f:Nat) (m:List Nat) (z:Int) (d:Nat):Prop where
 num:InI w t A c l z
 den:In w B f m d
end Go.Proofs.YtcaahphghaddgaaGreatDoor
namespace Go.Proofs.YtcaahphghaddgaaGreatDoor
open Go.RowKit Lim
attribute [local go_sem ↓] Go.wp_at_zero Go.wp_at_succ
end Go.Proofs.YtcaahphghaddgaaGreatDoor
namespace Go.Proofs.YtcaahphghaddgaaGreatDoor
open Go.RowKit Lim
attribute [local go_sem ↓] Go.wp_at_zero Go.wp_at_succ
end Go.Proofs.YtcaahphghaddgaaGreatDoor
namespace Go.Proofs.YtcaahphghaddgaaGreatDoor
open Go.RowKit Lim
attribute [local go_sem ↓] Go.wp_at_zero Go.wp_at_succ
end Go.Proofs.YtcaahphghaddgaaGreatDoor
namespace Go.Proofs.YtcaahphghaddgaaGreatDoor
open Go.RowKit Lim
attribute [local go_sem ↓] Go.wp_at_zero Go.wp_at_succ
end Go.Proofs.YtcaahphghaddgaaGreatDoor
namespace Go.Proofs.YtcaahphghaddgaaGreatDoor
open Go.RowKit Lim
attribute [local go_sem ↓] Go.wp_at_zero Go.wp_at_succ
end Go.Proofs.YtcaahphghaddgaaGreatDoor
namespace Go.Proofs.YtcaahphghaddgaaGreatDoor
open Go.RowKit Lim
attribute [local go_sem ↓] Go.wp_at_zero Go.wp_at_succ
end Go.Proofs.YtcaahphghaddgaaGreatDoor
set_option linter.unusedSimpArgs false
set_option linter.unusedVariables false
namespace Go.Proofs.YtcaahphghaddgaaGreatDoor
open Go.RowKit
theorem dec_big {u:Nat} (h:¬u<10):Lib.decDigits u=Lib.decDigits (u / 10) ++ [UInt8.ofNat (48+u % 10)]:=by rw [Lib.decDigits,dif_neg h]
theorem tab_keepB {P:Program} {w w':World} {name:String} {k:IntKind} {zs:List Int} (h:Lib.TabIs P w name k zs) (hb:∀g,P.globalNamed name=some g→g<w.heap.size→w'.heap[g]? = w.heap[g]?):Lib.TabIs P w' name k zs:=by
 unfold Lib.TabIs World.var? at *
 cases hg:P.globalNamed name with
 | none=>simp [hg]at h
 | some g =>
  simp only [hg,Option.bind_some]at h ⊢
  have hlt:g<w.heap.size:=by
   rcases Nat.lt_or_ge g w.heap.size with h'|h'
   ·exact h'
   ·rw [Array.getElem?_eq_none h']at h;simp at h
  rw [hb g hg hlt]
  exact h
theorem tab_lt {P:Program} {w:World} {name:String} {k:IntKind} {zs:List Int} (h:Lib.TabIs P w name k zs) {g:Nat} (hg:P.globalNamed name=some g):g<w.heap.size:=by
 unfold Lib.TabIs World.var? at h
 simp only [hg,Option.bind_some]at h
 rcases Nat.lt_or_ge g w.heap.size with h'|h'
 ·exact h'
 ·rw [Array.getElem?_eq_none h']at h;simp at h
end Go.Proofs.YtcaahphghaddgaaGreatDoor
namespace Go.Proofs.YtcaahphghaddgaaGreatDoor
open Go.RowKit Lim Go.Sort
attribute [local go_sem ↓] Go.wp_at_zero Go.wp_at_succ
def Tab (w : World) : Prop := Lib.TabIs Tryz.prog w "internal/strconv.uint64pow10" .u64 Lib.pow10Tab
end Go.Proofs.YtcaahphghaddgaaGreatDoor
namespace Go.Proofs.YtcaahphghaddgaaGreatDoor
open Go.RowKit Lim
end Go.Proofs.YtcaahphghaddgaaGreatDoor
namespace Go.Proofs.YtcaahphghaddgaaGreatDoor
open Go.RowKit Lim
attribute [local go_sem ↓] Go.wp_at_zero Go.wp_at_succ
def gsL (n k:Nat):List Nat:=(List.range k).map fun i=>n / 1000000000 ^ i % 1000000000
def gcells (n k:Nat):List Value:=(gsL n k).map fun g=>Value.int .u32 ((g:Nat):Int)
structure PrRel (w wr:World) (A:Option Addr) (c gk:Nat) (gv:Value) (k n:Nat):Prop where
 rest:In wr A c (limbs gk) gk
 own:wr.ownsRow w.heap.size 53 1 gv k (gcells n k)
 val:gk=n / 1000000000 ^ k
 top:k=0∨0<n / 1000000000 ^ (k-1)
 bel:Below w.heap.size w wr
structure PtRel (wr wx:World) (tv:Value) (j n:Nat):Prop where
 own:wx.ownsRow wr.heap.size 5 1 tv (Lib.decDigits (n / 1000000000 ^ j)).length (Lib.byteCells (Lib.decDigits (n / 1000000000 ^ j)))
 bel:Below wr.heap.size wr wx
structure PzRel (W1 wr:World) (tv:Value) (ds:List UInt8) (z:Nat):Prop where
 own:wr.ownsRow W1.heap.size 5 1 tv (ds.length+z) (Lib.byteCells (ds ++ List.replicate z 48))
 bel:Below W1.heap.size W1 wr
end Go.Proofs.YtcaahphghaddgaaGreatDoor
namespace Go.Proofs.YtcaahphghaddgaaGreatDoor
open Go.RowKit Lim
attribute [local go_sem ↓] Go.wp_at_zero Go.wp_at_succ
def bs (l:List UInt8):ByteArray:=⟨l.toArray⟩
theorem bs_size (l:List UInt8):(bs l).size=l.length:=by simp [bs,ByteArray.size]
theorem bs_app (a b:List UInt8):bs a ++ bs b=bs (a ++ b):=by
 apply ByteArray.ext
 rw [ByteArray.data_append]
 simp [bs]
def decT1 (n p:Nat):List UInt8:=if (Lib.decDigits n).length≤p then List.replicate (p+1-(Lib.decDigits n).length) 48 ++ Lib.decDigits n else Lib.decDigits n
def decT2 (n p:Nat):List UInt8:=if 0<p then (decT1 n p).take ((decT1 n p).length-p) ++ [46] ++ (decT1 n p).drop ((decT1 n p).length-p) else decT1 n p
def decTx (z:Int) (p:Nat):List UInt8:=if z<0 then 45 :: decT2 z.natAbs p else decT2 z.natAbs p
structure SliceFacts (T:List UInt8) (p:Nat) (sT:ByteArray) (L:Nat) (sa sb sc s2:ByteArray):Prop where
 a:∀W,(Instr.slice 9 (.string sT) none (some (.int .i64 ((L:Int)-(p:Int)))) none).run Tryz.prog W=.ok (.string sa) W
 b:∀W,(Op.stringOp .add sa ⟨#[46]⟩).run Tryz.prog W=.ok (.string sb) W
 c:∀W,(Instr.slice 9 (.string sT) (some (.int .i64 ((L:Int)-(p:Int)))) none none).run Tryz.prog W=.ok (.string sc) W
 d:∀W,(Op.stringOp .add sb sc).run Tryz.prog W=.ok (.string s2) W
 e:s2=bs (T.take (T.length-p) ++ [46] ++ T.drop (T.length-p))
end Go.Proofs.YtcaahphghaddgaaGreatDoor
namespace Go.Proofs.YtcaahphghaddgaaGreatDoor
open Go.RowKit Lim
attribute [local go_sem ↓] Go.wp_at_zero Go.wp_at_succ
def ratTx (N:Int) (D:Nat):List UInt8:=if D=1 then Lib.itoa N else Lib.itoa N ++ [47] ++ Lib.decDigits D
end Go.Proofs.YtcaahphghaddgaaGreatDoor
namespace Go.Proofs.YtcaahphghaddgaaGreatDoor
open Go.RowKit Lim
attribute [local go_sem ↓] Go.wp_at_zero Go.wp_at_succ
def isD (b:UInt8):Bool:=decide (48≤b.toNat) && decide (b.toNat≤57)
theorem toList_loop (a:ByteArray):∀(n i:Nat) (r:List UInt8),a.size-i=n→ByteArray.toList.loop a i r=r.reverse ++ a.data.toList.drop i:=by
 intro n
 induction n with
 | zero =>
  intro i r h
  rw [ByteArray.toList.loop,if_neg (by omega),List.drop_eq_nil_of_le (by rw [Array.length_toList];exact (show a.size≤i by omega)),List.append_nil]
 | succ n ih =>
  intro i r h
  have hi:i<a.size:=by omega
  have hi2:i<a.data.toList.length:=by rw [Array.length_toList];exact hi
  rw [ByteArray.toList.loop,if_pos hi,ih (i+1) _ (by omega),List.drop_eq_getElem_cons hi2]
  have e:a.get! i=a.data.toList[i]:=by
   show a.data[i]! = _
   rw [getElem!_pos a.data i hi]
   simp
  rw [e]
  simp
theorem toList_bs (s:List UInt8):(bs s).toList=s:=by
 unfold ByteArray.toList
 rw [toList_loop _ _ _ _ rfl]
 simp [bs]
end Go.Proofs.YtcaahphghaddgaaGreatDoor
namespace Go.Proofs.YtcaahphghaddgaaGreatDoor
open Go.RowKit Lim
attribute [local go_sem ↓] Go.wp_at_zero Go.wp_at_succ
def valD (s:List UInt8):Nat:=s.foldl (fun a b=>a*10+(b.toNat-48)) 0
structure PaRel (w wr:World) (A:Option Addr) (c:Nat) (AT:Option Addr) (cT:Nat) (v:Nat):Prop where
 acc:Out wr A c v
 ten:Out wr AT cT 10
 bel:Below w.heap.size w wr
end Go.Proofs.YtcaahphghaddgaaGreatDoor
