import Derived.Test.YtcaahphghaddgaaGreatDoorDKZ
import Derived.Test.YtcaahphghaddgaaGreatDoorDWz
/- Text KA. -/
set_option linter.unusedSimpArgs false
set_option linter.unusedVariables false
namespace Go.Proofs.YtcaahphghaddgaaGreatDoor
open Go.RowKit Lim
noncomputable section
theorem kbind {α β:Type} {o:Option α} {f:α→Option β} {b:β} (h:o.bind f=some b):∃a,o=some a∧f a=some b:=Option.bind_eq_some_iff.1 h
theorem kif {α:Type} {c:Bool} {x:Option α} {b:α} (h:(bif c then x else none)=some b):c=true∧x=some b:=by cases c <;> first|exact ⟨rfl,h⟩|cases h
theorem kand {a b:Bool} (h:(a && b)=true):a=true∧b=true:=by simpa using h
theorem kbeq {a b:Nat} (h:Nat.beq a b=true):a=b:=Nat.eq_of_beq_eq_true h
def litQ:Option TV→Option Value
 | some (.av (.lit v))=>some v
 | _=>none
def intQ:Option TV→Option Int
 | some (.av (.lit (.int _ n)))=>some n
 | _=>none
def natI:Int→Option Nat
 | .ofNat n=>some n
 | .negSucc _=>none
def natQ (x:Option TV):Option Nat:=(intQ x).bind natI
def boolQ:Option TV→Option Bool
 | some (.av (.lit (.bool b)))=>some b
 | _=>none
theorem litQ_some {x:Option TV} {v:Value} (h:litQ x=some v):x=some (.av (.lit v)):=by
 unfold litQ at h
 split at h
 ·cases h;rfl
 ·cases h
theorem intQ_some {x:Option TV} {n:Int} (h:intQ x=some n):∃q,x=some (.av (.lit (.int q n))):=by
 unfold intQ at h
 split at h
 ·cases h;exact ⟨_,rfl⟩
 ·cases h
theorem natI_some {i:Int} {n:Nat} (h:natI i=some n):i=(n:Int):=by
 cases i with
 | ofNat m=>cases h;rfl
 | negSucc m=>cases h
theorem natQ_some {x:Option TV} {n:Nat} (h:natQ x=some n):∃q,x=some (.av (.lit (.int q (n:Int)))):=by
 obtain ⟨i,h1,h2⟩:=kbind h
 obtain ⟨q,rfl⟩:=intQ_some h1
 rw [natI_some h2]
 exact ⟨q,rfl⟩
theorem boolQ_some {x:Option TV} {b:Bool} (h:boolQ x=some b):x=some (.av (.lit (.bool b))):=by
 unfold boolQ at h
 split at h
 ·cases h;rfl
 ·cases h
theorem toList_ba (a:ByteArray):a.toList=a.data.toList:=by
 unfold ByteArray.toList
 rw [toList_loop _ _ _ _ rfl]
 simp
def catQ (x y:ByteArray):ByteArray:=⟨(x.data.toList ++ y.data.toList).toArray⟩
theorem catQ_eq (x y:ByteArray):catQ x y=x ++ y:=by
 have h:(x ++ y).data.toList=(catQ x y).data.toList:=by simp [catQ,ByteArray.data_append]
 cases h1:x ++ y
 rw [h1]at h
 cases h2:catQ x y
 rw [h2]at h
 simp only at h
 rw [Array.toList_inj.1 h]
def sizeQ (x:ByteArray):Nat:=x.data.toList.length
theorem sizeQ_eq (x:ByteArray):sizeQ x=x.size:=Array.length_toList
def capKQ (n:Nat):Bool:=Nat.ble n 9223372036854775807
theorem capKQ_le {n:Nat} (h:capKQ n=true):n≤9223372036854775807:=Nat.le_of_ble_eq_true h
def binN (op:BinOp) (k:IntKind) (m n:Int):Option Value:=match op with
 | .add=>some (.int k (k.wrap (m+n)))
 | .sub=>some (.int k (k.wrap (m-n)))
 | .mul=>some (.int k (k.wrap (m*n)))
 | .quo=>bif n == 0 then none else some (.int k (k.wrap (m.tdiv n)))
 | .rem=>bif n == 0 then none else some (.int k (m.tmod n))
 | .and=>some (.int k (k.wrap (BitVec.ofInt k.bits m &&& BitVec.ofInt k.bits n).toNat))
 | .or=>some (.int k (k.wrap (BitVec.ofInt k.bits m ||| BitVec.ofInt k.bits n).toNat))
 | .xor=>some (.int k (k.wrap (BitVec.ofInt k.bits m ^^^ BitVec.ofInt k.bits n).toNat))
 | .eql=>some (.bool (m == n))
 | .neq=>some (.bool (m != n))
 | .lss=>some (.bool (decide (m<n)))
 | .leq=>some (.bool (decide (m≤n)))
 | .gtr=>some (.bool (decide (n<m)))
 | .geq=>some (.bool (decide (n≤m)))
 | _=>none
def binZ (op:BinOp) (k:IntKind) (m n:Int):Option Value:=match op with
 | .shl=>(natI n).bind fun n=>some (.int k (k.wrap (m*2 ^ (min n k.bits))))
 | .shr=>(natI n).bind fun n=>some (.int k (m.fdiv (2 ^ (min n k.bits))))
 | _=>none
def binT (op:BinOp) (x y:ByteArray):Option Value:=match op with
 | .add=>bif capKQ (sizeQ x+sizeQ y) then some (.string (catQ x y)) else none
 | .eql=>some (.bool (x.data.toList == y.data.toList))
 | .neq=>some (.bool (!(x.data.toList == y.data.toList)))
 | .lss=>some (.bool (Op.bytesLess x.data.toList y.data.toList))
 | .leq=>some (.bool (Op.bytesLess x.data.toList y.data.toList || x.data.toList == y.data.toList))
 | .gtr=>some (.bool (!(Op.bytesLess x.data.toList y.data.toList || x.data.toList == y.data.toList)))
 | .geq=>some (.bool (!(Op.bytesLess x.data.toList y.data.toList)))
 | _=>none
def binF (b:Bool) (op:BinOp) (x y:Value):Option Value:=match x,y with
 | .int k m,.int k' n=>(match binZ op k m n with
  | some r=>some r
  | none=>bif decide (k=k') then binN op k m n else none)
 | .string x,.string y=>binT op x y
 | .bool x,.bool y=>(match op with
  | .eql=>bif b then some (.bool (x == y)) else none
  | .neq=>bif b then some (.bool (!(x == y))) else none
  | _=>none)
 | _,_=>none
theorem binN_sound {b:Bool} {op:BinOp} {k:IntKind} {m n:Int} {r:Value} (h:binN op k m n=some r):binR b op (.int k m) (.int k n) r:=by
 cases op <;> first
  | (cases h;exact ⟨rfl,rfl⟩)
  | (cases h;done)
  | (
    simp only [binN]at h
    cases hn:n == 0 with
    | true=>rw [hn]at h;cases h
    | false =>
     rw [hn]at h
     cases h
     exact ⟨rfl,by simpa using hn,rfl⟩)
theorem binZ_sound {b:Bool} {op:BinOp} {k k':IntKind} {m n:Int} {r:Value} (h:binZ op k m n=some r):binR b op (.int k m) (.int k' n) r:=by
 cases op <;> first
  | (cases h;done)
  | (
    obtain ⟨i,h1,h2⟩:=kbind h
    cases h2
    rw [natI_some h1]
    exact ⟨Int.natCast_nonneg _,by rw [Int.toNat_natCast]⟩)
theorem binT_sound {b:Bool} {op:BinOp} {x y:ByteArray} {r:Value} (h:binT op x y=some r):binR b op (.string x) (.string y) r:=by
 cases op <;> first
  | (cases h;done)
  | (cases h;simp only [binR,toList_ba];done)
  | (
    obtain ⟨h1,h2⟩:=kif h
    cases h2
    refine ⟨?_,by rw [catQ_eq]⟩
    have:=capKQ_le h1
    rw [sizeQ_eq,sizeQ_eq]at this
    omega)
theorem binF_sound {b:Bool} {op:BinOp} {x y r:Value} (h:binF b op x y=some r):binR b op x y r:=by
 unfold binF at h
 split at h
 ·split at h
  ·rename_i h1
   cases h
   exact binZ_sound h1
  ·obtain ⟨h1,h2⟩:=kif h
   have h1:=of_decide_eq_true h1
   subst h1
   exact binN_sound h2
 ·exact binT_sound h
 ·split at h
  ·obtain ⟨h1,h2⟩:=kif h
   cases h2
   exact ⟨h1,rfl⟩
  ·obtain ⟨h1,h2⟩:=kif h
   cases h2
   exact ⟨h1,rfl⟩
  ·cases h
 ·cases h
def unF (op:UnOp) (x:Value):Option Value:=match op,x with
 | .neg,.int k m=>some (.int k (k.wrap (0-m)))
 | .not,.bool b=>some (.bool (!b))
 | _,_=>none
theorem unF_sound {op:UnOp} {x r:Value} (h:unF op x=some r):unR op x r:=by
 unfold unF at h
 split at h <;> first|(cases h;rfl)|cases h
def elemF (k:Nat) (s:AV) (n:Nat):Option AV:=match s with
 | .sl k' es=>bif Nat.beq k' k then es[n]? else none
 | .nat l=>bif Nat.beq k 1 then (l[n]?).map fun x=>.lit (.int .u32 (x:Nat)) else none
 | _=>none
theorem elemF_sound {k:Nat} {s:AV} {n:Nat} {e:AV} (h:elemF k s n=some e):elemA k s n e:=by
 unfold elemF at h
 split at h
 ·obtain ⟨h1,h2⟩:=kif h
  exact ⟨kbeq h1,h2⟩
 ·obtain ⟨h1,h2⟩:=kif h
  obtain ⟨x,h3,rfl⟩:=Option.map_eq_some_iff.1 h2
  exact ⟨kbeq h1,x,h3,rfl⟩
 ·cases h
def idxF (i:TI) (x:TV) (n:Nat):Option TV:=match i.kind,x with
 | .slc _ k _,.av s=>(elemF k s n).map fun e=>.av (.ptr e.cells)
 | .slc _ k _,.osl t k' off len=>bif Nat.beq k' k && Nat.blt n len then some (.oref t k (off+n) 0) else none
 | .arr m _ k,.ref t off=>bif Nat.blt n m then some (.ref t (off+n*k)) else none
 | .arr m _ k,.av (.ptr cs)=>bif Nat.blt n m then some (.av (.ptr (cs.drop (n*k)))) else none
 | .arr m _ k,.oref t k' j o=>bif Nat.blt n m then some (.oref t k' j (o+n*k)) else none
 | .arr m _ k,.av (.lit (.pointer (some ⟨g,off,none⟩)))=>bif Nat.blt n m then some (.av (.lit (.pointer (some ⟨g,off+n*k,none⟩)))) else none
 | _,_=>none
theorem kblt {a b:Nat} (h:Nat.blt a b=true):a<b:=Nat.le_of_ble_eq_true h
theorem idxF_sound {i:TI} {x:TV} {n:Nat} {v:TV} (h:idxF i x n=some v):idxT i x n v:=by
 unfold idxF at h
 unfold idxT
 split at h
 ·rename_i h0
  rw [h0]
  obtain ⟨e,h1,rfl⟩:=Option.map_eq_some_iff.1 h
  exact ⟨e,elemF_sound h1,rfl⟩
 ·rename_i h0
  rw [h0]
  obtain ⟨h1,h2⟩:=kif h
  obtain ⟨h3,h4⟩:=kand h1
  cases h2
  exact ⟨kbeq h3,kblt h4,rfl⟩
 all_goals first
  | (
    rename_i h0
    rw [h0]
    obtain ⟨h1,h2⟩:=kif h
    cases h2
    exact ⟨kblt h1,rfl⟩)
  | cases h
def boundF (n:Nat) (d:Nat):Option TV→Option Nat
 | none=>some d
 | some x=>(natQ (some x)).bind fun q=>bif Nat.ble q n then some q else none
theorem boundF_sound {n d m:Nat} {x:Option TV} (h:boundF n d x=some m):boundR n m d x:=by
 cases x with
 | none=>cases h;rfl
 | some x =>
  obtain ⟨q,h1,h2⟩:=kbind h
  obtain ⟨h3,h4⟩:=kif h2
  cases h4
  obtain ⟨k,h5⟩:=natQ_some h1
  cases h5
  have:=Nat.le_of_ble_eq_true h3
  exact ⟨Int.natCast_nonneg _,by omega,by rw [Int.toNat_natCast]⟩
def sliceF (lo hi:Option TV) (n:Nat):Option (Nat × Nat):=(boundF n n hi).bind fun h=>(boundF h 0 lo).map fun l=>(l,h)
theorem sliceF_sound {lo hi:Option TV} {n:Nat} {p:Nat × Nat} (h:sliceF lo hi n=some p):sliceR lo hi n p.1 p.2:=by
 obtain ⟨b,h1,h2⟩:=kbind h
 obtain ⟨l,h3,rfl⟩:=Option.map_eq_some_iff.1 h2
 exact ⟨boundF_sound h1,boundF_sound h3⟩
def cutQ (s:ByteArray) (l h:Nat):ByteArray:=⟨((s.data.toList.take h).drop l).toArray⟩
theorem cutQ_eq (s:ByteArray) (l h:Nat):cutQ s l h=s.extract l h:=by
 have h0:(s.extract l h).data.toList=(cutQ s l h).data.toList:=by simp [cutQ,ByteArray.data_extract,List.extract_eq_take_drop,List.drop_take]
 cases h1:s.extract l h
 rw [h1]at h0
 cases h2:cutQ s l h
 rw [h2]at h0
 simp only at h0
 rw [Array.toList_inj.1 h0]
def bytesQ:List AV→Option (List UInt8)
 | []=>some []
 | .lit (.int .u8 (.ofNat n)) :: l=>bif Nat.blt n 256 then (bytesQ l).map (UInt8.ofNat n :: ·) else none
 | _=>none
theorem bytesQ_some:∀{es:List AV} {l:List UInt8},bytesQ es=some l→es=l.map byteA
 | [],l,h=>by cases h;rfl
 | a :: es,l,h=>by
  unfold bytesQ at h
  split at h
  ·rename_i heq;cases heq
  ·rename_i n es' heq
   cases heq
   obtain ⟨h1,h2⟩:=kif h
   obtain ⟨l',h3,rfl⟩:=Option.map_eq_some_iff.1 h2
   have:=kblt h1
   rw [List.map_cons,←bytesQ_some h3]
   have e:(UInt8.ofNat n).toNat=n:=by
    rw [UInt8.toNat_ofNat']
    exact Nat.mod_eq_of_lt this
   simp only [byteA,e]
   rfl
  ·cases h
end
end Go.Proofs.YtcaahphghaddgaaGreatDoor
