import Derived.Test.YtcaahphghaddgaaGreatDoorDX1
/- Text X2. -/
set_option linter.unusedSimpArgs false
set_option linter.unusedVariables false
namespace Go.Proofs.YtcaahphghaddgaaGreatDoor
open Go.RowKit Lim
section
variable {R:Type}
def Ce.to (c:Ce) (t:VT):Option t.den:=(VT.eqv c.t t).map fun (h:PLift (c.t=t))=>h.down ▸ c.x
def Ce.int?:Ce→Option (IntKind × Int)
 | ⟨.int k,z⟩=>some (k,z)
 | ⟨.byte,b⟩=>some (.u8,(b.toNat:Nat))
 | _=>none
def Ce.bool?:Ce→Option Bool
 | ⟨.bool,b⟩=>some b
 | _=>none
def Ce.str?:Ce→Option (List UInt8)
 | ⟨.str,s⟩=>some s
 | _=>none
def SV.ce?:SV→Option Ce
 | .v (.o (.c x))=>some x
 | _=>none
def byteR (z:Int):Bool:=decide (0≤z) && decide (z<256)
def okBs:List Ce→Bool
 | []=>true
 | ⟨.int .u8,z⟩ :: l=>byteR z && okBs l
 | _ :: l=>okBs l
def Ce.byteT:Ce→Option UInt8
 | ⟨.byte,b⟩=>some b
 | ⟨.int .u8,z⟩=>some (UInt8.ofNat z.toNat)
 | _=>none
def asm:(t:VT)→List Ce→Option (t.den × List Ce)
 | .unit,cs=>some ((),cs)
 | .pair a b,cs=>(asm a cs).bind fun p=>(asm b p.2).bind fun q=>some ((p.1,q.1),q.2)
 | .byte,c :: cs=>c.byteT.map fun x=>(x,cs)
 | .int k,c :: cs=>(c.to (.int k)).map fun x=>(x,cs)
 | .bool,c :: cs=>(c.to .bool).map fun x=>(x,cs)
 | .str,c :: cs=>(c.to .str).map fun x=>(x,cs)
 | .nat,c :: cs=>(c.to .nat).map fun x=>(x,cs)
 | .natz,c :: cs=>(c.to .natz).map fun x=>(x,cs)
 | .sl k e,c :: cs=>(c.to (.sl k e)).map fun x=>(x,cs)
 | .slz k e,c :: cs=>(c.to (.slz k e)).map fun x=>(x,cs)
 | .raw,c :: cs=>(c.to .raw).map fun x=>(x,cs)
 | _,[]=>none
def asmL (t:VT):Nat→List Ce→Option (List t.den)
 | 0,_=>some []
 | n+1,cs=>(asm t cs).bind fun p=>(asmL t n p.2).map fun l=>p.1 :: l
def fromAV:VT→AV→Option Ce
 | .int k,.lit (.int k' z)=>if k=k' then some (cI k z) else none
 | .bool,.lit (.bool b)=>some (cB b)
 | .str,.lit (.string b)=>some (cS b.data.toList)
 | .nat,.nat []=>some ⟨.nat,[]⟩
 | .sl k e,.sl k' []=>if k=k' then some ⟨.sl k e,[]⟩ else none
 | .raw,a=>if h:(a.one && a.noLimb)=true then some ⟨.raw,⟨a,h⟩⟩ else none
 | _,_=>none
def fromAVs:VT→List AV→Option (List Ce × List AV)
 | .unit,l=>some ([],l)
 | .pair a b,l=>(fromAVs a l).bind fun p=>(fromAVs b p.2).bind fun q=>some (p.1 ++ q.1,q.2)
 | .byte,a :: l=>(fromAV (.int .u8) a).map fun c=>([c],l)
 | t,a :: l=>(fromAV t a).map fun c=>([c],l)
 | _,[]=>none
def zeroC (t:VT) (i:TI):Option (List Ce):=(fromAVs t i.zero).bind fun p=>match p.2 with|[]=>some p.1|_=>none
def constS:Value→Option SV
 | .int k n=>some (.v (.o (.c (cI k n))))
 | .bool b=>some (.v (.o (.c (cB b))))
 | .string b=>some (.v (.o (.c (cS b.data.toList))))
 | .slice none 0 0=>some (.v (.o (.c ⟨.raw,⟨nilA,rfl⟩⟩)))
 | .nilIface=>some (.v (.o (.c ⟨.raw,⟨.lit .nilIface,rfl⟩⟩)))
 | .nilFunc=>some (.v (.o (.c ⟨.raw,⟨.lit .nilFunc,rfl⟩⟩)))
 | .pointer none=>some (.v (.o (.c ⟨.raw,⟨.lit (.pointer none),rfl⟩⟩)))
 | .map none=>some (.v (.o (.c ⟨.raw,⟨.lit (.map none),rfl⟩⟩)))
 | _=>none
def strsOf:List Value→Option (List (List UInt8))
 | []=>some []
 | .string b :: l=>(strsOf l).map fun m=>b.data.toList :: m
 | _=>none
def getS (E s:VS):Operand→Option SV
 | .tmp t=>slot E s t
 | .const v=>constS v
 | .func f=>some (.v (.fn f [] []))
 | .global g=>some (.gref g false 0)
def isNil:SV→Bool
 | .v (.o (.c ⟨.raw,⟨.lit (.slice none 0 0),_⟩⟩))=>true
 | _=>false
def ix {α:Type} (l:List α) (i:Int):Option α:=bif decide (0≤i) then l[i.toNat]? else none
def sub {α:Type} (l:List α) (lo hi:Int):Option (List α):=bif decide (0≤lo) && (decide (lo≤hi) && decide (hi≤(l.length:Nat))) then some ((l.take hi.toNat).drop lo.toNat) else none
def strB (m n:Nat):Bool:=Nat.ble (m+n) 9223372036854775807
def binC (b:Bool) (op:BinOp) (x y:Ce) (k:Ce→Option R):Option R :=
 match x.int?,y.int? with
 | some (q,m),some (q',n)=>(match op with
  | .add=>if q=q' then k (cI q (q.wrap (m+n))) else none
  | .sub=>if q=q' then k (cI q (q.wrap (m-n))) else none
  | .mul=>if q=q' then k (cI q (q.wrap (m*n))) else none
  | .quo=>if q=q' then (bif n == 0 then none else k (cI q (q.wrap (m.tdiv n)))) else none
  | .rem=>if q=q' then (bif n == 0 then none else k (cI q (m.tmod n))) else none
  | .shl=>bif decide (0≤n) then k (cI q (q.wrap (m*2 ^ (min n.toNat q.bits)))) else none
  | .shr=>bif decide (0≤n) then k (cI q (m.fdiv (2 ^ (min n.toNat q.bits)))) else none
  | .and=>if q=q' then k (cI q (q.wrap (BitVec.ofInt q.bits m &&& BitVec.ofInt q.bits n).toNat)) else none
  | .or=>if q=q' then k (cI q (q.wrap (BitVec.ofInt q.bits m ||| BitVec.ofInt q.bits n).toNat)) else none
  | .xor=>if q=q' then k (cI q (q.wrap (BitVec.ofInt q.bits m ^^^ BitVec.ofInt q.bits n).toNat)) else none
  | .eql=>if q=q' then k (cB (m == n)) else none
  | .neq=>if q=q' then k (cB (m != n)) else none
  | .lss=>if q=q' then k (cB (decide (m<n))) else none
  | .leq=>if q=q' then k (cB (decide (m≤n))) else none
  | .gtr=>if q=q' then k (cB (decide (n<m))) else none
  | .geq=>if q=q' then k (cB (decide (n≤m))) else none
  | _=>none)
 | _,_=>match x.str?,y.str? with
  | some m,some n=>(match op with
   | .add=>bif strB m.length n.length then k (cS (m ++ n)) else none
   | .eql=>k (cB (m == n))
   | .neq=>k (cB (!(m == n)))
   | .lss=>k (cB (Op.bytesLess m n))
   | .leq=>k (cB (Op.bytesLess m n || m == n))
   | .gtr=>k (cB (!(Op.bytesLess m n || m == n)))
   | .geq=>k (cB (!(Op.bytesLess m n)))
   | _=>none)
  | _,_=>match x.bool?,y.bool? with
   | some m,some n=>(match op with
    | .eql=>bif b then k (cB (m == n)) else none
    | .neq=>bif b then k (cB (!(m == n))) else none
    | _=>none)
   | _,_=>none
def unC (op:UnOp) (x:Ce) (k:Ce→Option R):Option R :=
 match op with
 | .neg=>x.int?.bind fun p=>k (cI p.1 (p.1.wrap (0-p.2)))
 | .not=>x.bool?.bind fun b=>k (cB (!b))
 | _=>none
def lookS (E s:VS) (x:SV) (k:List Ce→Option R):Option R :=
 match x with
 | .ref t off=>(memv E s t).bind fun cs=>k (cs.drop off)
 | .v (.o (.ptr cs))=>k cs
 | .gref g true off=>(globT g).bind fun vs=>(strsOf vs).bind fun l=>(l[off]?).bind fun y=>k [cS y]
 | .gref g false off=>(globT g).bind fun vs=>(strsOf vs).bind fun l=>k ((l.drop off).map cS)
 | .oref t i o=>(rowv E s t).bind fun r=>(match r with
  | .row _ _ q ty l=>bif Nat.beq ty.size q then (l[i]?).bind fun y=>k ((cellsV ty y).drop o) else none
  | .limb _ _ l=>bif Nat.beq o 0 then (l[i]?).bind fun n=>k [cI .u32 (n:Nat)] else none
  | .map _ _ _=>none)
 | _=>none
def takeS (i:TI) (cs:List Ce):Option V0 :=
 match i.kind with
 | .strct _=>bif Nat.ble i.zero.length cs.length then some (.agg (cs.take i.zero.length)) else none
 | .arr _ _ _=>bif Nat.ble i.zero.length cs.length then some (.agg (cs.take i.zero.length)) else none
 | _=>cs.head?.map .c
def offS (E s:VS) (o:Nat):SV→Option SV
 | .ref t off=>some (.ref t (off+o))
 | .v (.o (.ptr cs))=>some (.v (.o (.ptr (cs.drop o))))
 | .oref t i q=>(rowv E s t).map fun _=>.oref t i (q+o)
 | _=>none
def idxS (E s:VS) (i:TI) (x:SV) (n:Int) (k:SV→Option R):Option R :=
 match i.kind,x with
 | .slc _ q _,.v (.o (.c ⟨.sl q' e,l⟩))=>bif Nat.beq q' q && Nat.beq e.size q then (ix l n).bind fun y=>k (.v (.o (.ptr (cellsV e y)))) else none
 | .slc _ q _,.v (.o (.c ⟨.slz q' e,l⟩))=>bif Nat.beq q' q && Nat.beq e.size q then (ix l n).bind fun y=>k (.v (.o (.ptr (cellsV e y)))) else none
 | .slc _ q _,.v (.o (.c ⟨.nat,l⟩))=>bif Nat.beq q 1 then (ix l n).bind fun y=>k (.v (.o (.ptr [cI .u32 (y:Nat)]))) else none
 | .slc _ q _,.v (.o (.c ⟨.natz,l⟩))=>bif Nat.beq q 1 then (ix l n).bind fun y=>k (.v (.o (.ptr [cI .u32 (y:Nat)]))) else none
 | .slc _ q _,.row t=>(rowv E s t).bind fun r=>bif Nat.beq r.k q && (decide (0≤n) && decide (n.toNat<r.len)) then k (.oref t n.toNat 0) else none
 | .arr m _ q,.ref t off=>bif decide (0≤n) && decide (n.toNat<m) then k (.ref t (off+n.toNat*q)) else none
 | .arr m _ q,.gref g _ off=>bif decide (0≤n) && decide (n.toNat<m) then k (.gref g true (off+n.toNat*q)) else none
 | .arr m _ q,.v (.o (.ptr cs))=>bif decide (0≤n) && decide (n.toNat<m) then k (.v (.o (.ptr (cs.drop (n.toNat*q))))) else none
 | _,_=>none
def convS (T:TyTab) (i j:TI) (E s:VS) (x:SV) (k:Ce→Option R):Option R :=
 match i.kind,j.kind,x with
 | .int _,.int q,.v (.o (.c c))=>c.int?.bind fun (_,z)=>k (cI q (q.wrap z))
 | .str,.str,.v (.o (.c c))=>c.str?.bind fun m=>k (cS m)
 | .slc e0 1 _,.str,.v (.o (.c ⟨.sl 1 .byte,l⟩))=>bif isByteT T e0 then k (cS l) else none
 | .slc e0 1 _,.str,.v (.o (.c ⟨.slz 1 .byte,l⟩))=>bif isByteT T e0 then k (cS l) else none
 | .slc e0 1 _,.str,.row t=>(rowv E s t).bind fun r=>(match r with
  | .row _ _ 1 .byte l=>bif isByteT T e0 then k (cS l) else none
  | _=>none)
 | _,_,_=>none
def optI (E s:VS) (x:Option Operand) (d:Int) (k:Int→Option R):Option R :=
 match x with
 | none=>k d
 | some y=>(getS E s y).bind fun v=>v.ce?.bind fun c=>c.int?.bind fun p=>k p.2
def strsC:List Ce→Option (List (List UInt8))
 | []=>some []
 | ⟨.str,s⟩ :: l=>(strsC l).map fun m=>s :: m
 | _=>none
def sliceS (E s:VS) (i:TI) (x:SV) (lo hi:Option Operand) (k:SV→Option R):Option R :=
 match i.kind,x with
 | .str,.v (.o (.c ⟨.str,l⟩))=>optI E s lo 0 fun a=>optI E s hi (l.length:Nat) fun b=>(sub l a b).bind fun m=>k (.v (.o (.c (cS m))))
 | .slc _ q _,.v (.o (.c ⟨.sl q' e,l⟩))=>bif Nat.beq q q' then optI E s lo 0 fun a=>optI E s hi (l.length:Nat) fun b=>(sub l a b).bind fun m=>k (.v (.o (.c ⟨.sl q' e,m⟩))) else none
 | .slc _ q _,.v (.o (.c ⟨.nat,l⟩))=>bif Nat.beq q 1 then optI E s lo 0 fun a=>optI E s hi (l.length:Nat) fun b=>(sub l a b).bind fun m=>k (.v (.o (.c ⟨.nat,m⟩))) else none
 | .arr n _ q,.v (.o (.ptr cs))=>bif Nat.beq q 1 then (strsC (cs.take n)).bind fun l=>bif Nat.beq l.length n then optI E s lo 0 fun a=>optI E s hi (n:Nat) fun b=>(sub l a b).bind fun m=>k (.v (.o (.c ⟨.sl 1 .str,m⟩))) else none else none
 | _,_=>none
def lenC:Ce→Option Nat
 | ⟨.sl _ _,l⟩=>some l.length
 | ⟨.slz _ _,l⟩=>some l.length
 | ⟨.nat,l⟩=>some l.length
 | ⟨.natz,l⟩=>some l.length
 | ⟨.raw,⟨.lit (.slice none 0 0),_⟩⟩=>some 0
 | _=>none
def lenS (E s:VS) (i:TI) (x:SV) (k:Nat→Option R):Option R :=
 match i.kind,x with
 | .str,.v (.o (.c ⟨.str,l⟩))=>k l.length
 | .slc _ _ _,.v (.o (.c c))=>(lenC c).bind k
 | .slc _ _ _,.row t=>(rowv E s t).bind fun r=>bif r.isMap then none else k r.len
 | _,_=>none
def maxI2 (x y:Int):Int:=if y > x then y else x
def minI2 (x y:Int):Int:=if y<x then y else x
def mmC (f:Int→Int→Int) (x y:Ce) (k:Ce→Option R):Option R:=x.int?.bind fun (p,m)=>y.int?.bind fun (q,n)=>if p=q then k (cI p (f m n)) else none
def okS (E s:VS) (x:SV) (k:SV→Option R):Option R :=
 match x with
 | .row t=>(rowv E s t).bind fun _=>k (.row t)
 | .oref t i o=>(rowv E s t).bind fun _=>k (.oref t i o)
 | x=>k x
def arrS (T:TyTab) (E s:VS) (ty:TypeId) (v:SV) (y:Operand) (k:SV→Option R) (els:Option R):Option R :=
 match v with
 | .v (.o (.agg cs))=>(getS E s y).bind fun u=>u.ce?.bind fun d=>d.int?.bind fun p=>(T ty).bind fun i=>(match i.kind with
  | .arr m e q=>(T e).bind fun j=>(match j.kind with
   | .str=>(strsC cs).bind fun l=>bif Nat.beq q 1 && Nat.beq l.length m then (ix l p.2).bind fun b=>k (.v (.o (.c (cS b)))) else none
   | _=>none)
  | _=>none)
 | _=>els
def decC:AV→Option Ce
 | .lit (.int k z)=>some ⟨.int k,z⟩
 | .lit (.bool b)=>some ⟨.bool,b⟩
 | .lit (.string b)=>some ⟨.str,b.data.toList⟩
 | .nat l=>some ⟨.nat,l⟩
 | a=>if h:(a.one && a.noLimb)=true then some ⟨.raw,⟨a,h⟩⟩ else none
def decL:List AV→Option (List Ce)
 | []=>some []
 | a :: l=>(decC a).bind fun c=>(decL l).map fun m=>c :: m
def decV0:AV→Option V0
 | .agg cs=>(decL cs).map .agg
 | .ptr cs=>(decL cs).map .ptr
 | a=>(decC a).map .c
def decVs:List AV→Option (List V0)
 | []=>some []
 | a :: l=>(decV0 a).bind fun c=>(decVs l).map fun m=>c :: m
def fnR (y:RawV):Option (FuncId × List V0 × List V0):=match y.1 with
 | .fn (.func f) a b=>(decVs a).bind fun u=>(decVs b).map fun v=>(f,u,v)
 | _=>none
def okR (y:RawV):Bool:=match y.1 with
 | .ifc _ _=>true
 | .fn (.func _) _ _=>true
 | _=>false
def v0S:SV→Option V0
 | .v (.o x)=>some x
 | .v (.fn f a b)=>some (.c ⟨.raw,fnA f a b⟩)
 | _=>none
def v0sS (E s:VS):List Operand→Option (List V0)
 | []=>some []
 | x :: xs=>(getS E s x).bind fun v=>(v0S v).bind fun a=>(v0sS E s xs).map fun l=>a :: l
def TK.scalB:TK→Bool
 | .scal=>true
 | _=>false
def kdB:VT→TK→Bool
 | .int k,.int k'=>decide (k=k')
 | .str,.str=>true
 | .bool,.bool=>true
 | _,_=>false
def valS (T:TyTab) (E s:VS) (o:Op) (k:SV→Option R):Option R :=
 match o with
 | .move x=>(getS E s x).bind fun v=>okS E s v k
 | .assign x=>(getS E s x).bind fun v=>okS E s v k
 | .pick c x y=>(getS E s c).bind fun v=>v.ce?.bind fun q=>q.bool?.bind fun b=>cond b ((getS E s x).bind fun v=>okS E s v k) ((getS E s y).bind fun v=>okS E s v k)
 | .load ty x=>(getS E s x).bind fun v=>lookS E s v fun cs=>(T ty).bind fun i=>(takeS i cs).bind fun a=>k (.v (.o a))
 | .fieldAddr ty x f=>(getS E s x).bind fun v=>(T ty).bind fun i=>(match i.kind with
  | .strct fs=>(fs[f]?).bind fun q=>(offS E s q.1 v).bind k
  | _=>none)
 | .field ty x f=>(getS E s x).bind fun v=>(T ty).bind fun i=>(match i.kind,v with
  | .strct fs,.v (.o (.agg cs))=>(fs[f]?).bind fun q=>(T q.2.2).bind fun j=>(takeS j (cs.drop q.1)).bind fun a=>k (.v (.o a))
  | _,_=>none)
 | .extract x i=>(getS E s x).bind fun v=>(match v with
  | .tup l=>(l[i]?).bind fun a=>k (.v (.o a))
  | _=>none)
 | .indexAddr ty x y=>(getS E s x).bind fun v=>(getS E s y).bind fun u=>u.ce?.bind fun c=>c.int?.bind fun p=>(T ty).bind fun i=>idxS E s i v p.2 k
 | .index ty x y=>(getS E s x).bind fun v=>arrS T E s ty v y k <| v.ce?.bind fun c=>c.str?.bind fun l=>(getS E s y).bind fun u=>u.ce?.bind fun d=>d.int?.bind fun p=>(T ty).bind fun i=>(match i.kind with
  | .str=>(ix l p.2).bind fun b=>k (.v (.o (.c (cI .u8 (b.toNat:Nat)))))
  | _=>none)
 | .binOp b ty x y _=>(getS E s x).bind fun v=>v.ce?.bind fun c=>(getS E s y).bind fun u=>u.ce?.bind fun d=>binC (isBoolT T ty) b c d fun r=>k (.v (.o (.c r)))
 | .unOp b _ x=>(getS E s x).bind fun v=>v.ce?.bind fun c=>unC b c fun r=>k (.v (.o (.c r)))
 | .convert a b x=>(getS E s x).bind fun v=>(T a).bind fun i=>(T b).bind fun j=>convS T i j E s v fun r=>k (.v (.o (.c r)))
 | .slice ty x lo hi none=>(getS E s x).bind fun v=>(T ty).bind fun i=>sliceS E s i v lo hi k
 | .nilCheck x=>(getS E s x).bind fun v=>(match v with
  | .ref t o=>k (.ref t o)
  | .v (.o (.ptr cs))=>k (.v (.o (.ptr cs)))
  | .oref t i o=>(rowv E s t).bind fun _=>k (.oref t i o)
  | .v (.fn f a b)=>k (.v (.fn f a b))
  | .v (.o (.c ⟨.raw,y⟩))=>bif okR y then k (.v (.o (.c ⟨.raw,y⟩))) else none
  | _=>none)
 | .lookup ty x q ok=>(getS E s x).bind fun v=>(match v with
  | .row t=>(rowv E s t).bind fun w=>(match w with
   | .map kt vt l=>(T ty).bind fun i=>(match i.kind with
    | .map k' e=>(T k').bind fun ki=>(T e).bind fun ei=>(zeroC vt ei).bind fun z=>(match z with
     | [z0]=>(getS E s q).bind fun qv=>(qv.ce?.bind fun c=>c.to kt).bind fun key=>(z0.to vt).bind fun d=>bif kdB kt ki.kind && flatK ei.kind then (match ok with
      | false=>k (.v (.o (.c ⟨vt,(mgetV kt l key).getD d⟩)))
      | true=>k (.tup [.c ⟨vt,(mgetV kt l key).getD d⟩,.c (cB (mgetV kt l key).isSome)])) else none
     | _=>none)
    | _=>none)
   | _=>none)
  | _=>none)
 | .makeInterface ty x=>(getS E s x).bind fun v=>(T ty).bind fun i=>(match v with
  | .v y=>bif i.kind.scalB then none else k (.v (.o (.c ⟨.raw,⟨.ifc ty (normA T ty y.av),rfl⟩⟩)))
  | _=>none)
 | .makeFunc (.func f) a b=>(v0sS E s a.toList).bind fun u=>(v0sS E s b.toList).bind fun v=>k (.v (.fn f u v))
 | .call c=>(match c.callee with
  | .builtin .len=>(match c.args.toList,c.argTypes.toList with
   | [x],[ty]=>(getS E s x).bind fun v=>(T ty).bind fun i=>lenS E s i v fun n=>k (.v (.o (.c (cI .i64 (n:Nat)))))
   | _,_=>none)
  | .builtin .max=>(match c.args.toList with
   | [x,y]=>(getS E s x).bind fun v=>v.ce?.bind fun a=>(getS E s y).bind fun u=>u.ce?.bind fun b=>mmC maxI2 a b fun r=>k (.v (.o (.c r)))
   | _=>none)
  | .builtin .min=>(match c.args.toList with
   | [x,y]=>(getS E s x).bind fun v=>v.ce?.bind fun a=>(getS E s y).bind fun u=>u.ce?.bind fun b=>mmC minI2 a b fun r=>k (.v (.o (.c r)))
   | _=>none)
  | _=>none)
 | _=>none
end
end Go.Proofs.YtcaahphghaddgaaGreatDoor
