import Derived.Test.YtcaahphghaddgaaGreatDoorDX5
/- Text X6. -/
set_option linter.unusedSimpArgs false
set_option linter.unusedVariables false
namespace Go.Proofs.YtcaahphghaddgaaGreatDoor
open Go.RowKit Lim
section
variable {R:Type}
inductive Sg where
 | c (t:VT)
 | agg (ts:List VT)
abbrev denL:List VT→Type
 | []=>Unit
 | t :: ts=>t.den × denL ts
def Sg.ts:Sg→List VT
 | .c t=>[t]
 | .agg ts=>ts
abbrev Sig:=List Sg
def Sig.ts:Sig→List VT
 | []=>[]
 | g :: gs=>g.ts ++ Sig.ts gs
def ces:(ts:List VT)→denL ts→List Ce
 | [],_=>[]
 | t :: ts,x=>⟨t,x.1⟩ :: ces ts x.2
def decs:(ts:List VT)→List Ce→Option (denL ts)
 | [],[]=>some ()
 | t :: ts,c :: cs=>(c.to t).bind fun x=>(decs ts cs).map fun y=>(x,y)
 | _,_=>none
def unflat:Sig→List Ce→List V0
 | [],_=>[]
 | .c _ :: gs,cs=>(match cs with|c :: cs=>.c c :: unflat gs cs|[]=>[])
 | .agg ts :: gs,cs=>.agg (cs.take ts.length) :: unflat gs (cs.drop ts.length)
def flatR:List V0→List Ce
 | []=>[]
 | .c x :: l=>x :: flatR l
 | .agg cs :: l=>cs ++ flatR l
 | .ptr _ :: l=>flatR l
def fitsR:Sig→List V0→Bool
 | [],[]=>true
 | .c _ :: gs,.c _ :: l=>fitsR gs l
 | .agg ts :: gs,.agg cs :: l=>Nat.beq ts.length cs.length && fitsR gs l
 | _,_=>false
abbrev Ask:=(f:FuncId)→List V→(g:Sig)→Option (denL g.ts)
def packV (l:List V0):SV:=match l with
 | [x]=>.v (.o x)
 | l=>.tup l
def VT.fl:VT→Bool
 | .int _=>true
 | .bool=>true
 | .str=>true
 | .byte=>true
 | _=>false
def Sg.fl:Sg→Bool
 | .c t=>t.fl
 | .agg ts=>decide (ts.length≤2) && ts.all VT.fl
def Sig.fl (g:Sig):Bool:=decide (g.length≤3) && g.all Sg.fl
def VS.put (s:VS) (d:Option Nat) (v:SV):VS:=match d with
 | some t=>{ s with tm:=(t,some v) :: s.tm }
 | none=>s
def usesR (t:Nat):SV→Bool
 | .row t'=>Nat.beq t' t
 | .oref t' _ _=>Nat.beq t' t
 | _=>false
def usesM (t:Nat):SV→Bool
 | .ref t' _=>Nat.beq t' t
 | _=>false
def wipe (p:SV→Bool):List (Nat × Option SV)→List (Nat × Option SV)
 | []=>[]
 | (k,some v) :: l=>(k,bif p v then none else some v) :: wipe p l
 | (k,none) :: l=>(k,none) :: wipe p l
def noneUses (p:SV→Bool):List (Nat × Option SV)→Bool
 | []=>true
 | (_,some v) :: l=>!p v && noneUses p l
 | (_,none) :: l=>noneUses p l
def rmv {α:Type} (t:Nat):List (Nat × α)→List (Nat × α)
 | []=>[]
 | (k,v) :: l=>bif Nat.beq k t then rmv t l else (k,v) :: rmv t l
def isRow (t:Nat):SV→Bool
 | .row t'=>Nat.beq t' t
 | _=>false
def thaw (t:Nat) (c:Ce):List (Nat × Option SV)→List (Nat × Option SV)
 | []=>[]
 | (k,some v) :: l=>(k,bif isRow t v then some (.v (.o (.c c))) else bif usesR t v then none else some v) :: thaw t c l
 | (k,none) :: l=>(k,none) :: thaw t c l
def frz1 (E s:VS) (t:Nat):Option VS:=(lk s.own t).bind fun w=>bif noneUses (usesR t) E.tm && (lk E.own t).isNone && !w.isMap then some { s with tm:=thaw t w.ce s.tm,own:=rmv t s.own } else none
def frzs (E:VS):List Nat→VS→Option VS
 | [],s=>some s
 | t :: ts,s=>(lk s.own t).elim (bif (lk E.own t).isNone then frzs E ts s else none) fun _=>(frz1 E s t).bind fun s'=>frzs E ts s'
def fresh (E s:VS) (t:Option Nat) (d:Nat) (w:RW):Option VS :=
 let ok (x:Nat):Bool:=noneUses (usesR x) E.tm && (lk E.own x).isNone
 match t with
 | none=>bif ok d then some { s with tm:=(d,some (.row d)) :: wipe (usesR d) s.tm,own:=(d,w) :: rmv d s.own } else none
 | some x=>bif ok d && ok x then some { s with tm:=(d,some (.row d)) :: wipe (fun v=>usesR d v || usesR x v) s.tm,own:=(d,w) :: rmv d (rmv x s.own) } else none
def hotB:RW→Bool
 | .limb z _ l=>!(z && l.isEmpty)
 | _=>false
def cold (E s:VS):Bool:=s.own.all (fun p=>!hotB p.2) && E.own.all (fun p=>!hotB p.2)
def rawNil (y:RawV):Bool:=match y.1 with
 | .lit (.slice none 0 0)=>true
 | _=>false
def argS (T:TyTab) (E s:VS) (el:TypeId→Option VT) (ty:TypeId) (v:SV) (k:V→List Nat→Option R):Option R :=
 match v with
 | .v (.o (.c ⟨.raw,y⟩))=>(match T ty with
  | none=>none
  | some i=>(match i.kind with
   | .slc e q lm=>bif rawNil y then (match lm with
    | true=>bif Nat.beq q 1 then k (.o (.c ⟨.nat,[]⟩)) [] else none
    | false=>(el e).bind fun t=>k (.o (.c ⟨.sl q t,[]⟩)) []) else none
   | _=>k (.o (.c ⟨.raw,y⟩)) []))
 | .v (.o (.c ⟨.slz q e,l⟩))=>(T ty).bind fun i=>(match i.kind with
  | .slc _ q' false=>bif Nat.beq q q' then k (.o (.c ⟨.sl q e,l⟩)) [] else none
  | _=>none)
 | .v (.o (.c ⟨.natz,l⟩))=>(T ty).bind fun i=>(match i.kind with
  | .slc _ _ true=>k (.o (.c ⟨.nat,l⟩)) []
  | _=>none)
 | .v (.o (.c ⟨.unit,_⟩))=>none
 | .v (.o (.c ⟨.pair _ _,_⟩))=>none
 | .v (.lent _ _)=>none
 | .v x=>k x []
 | .row t=>(rowv E s t).bind fun w=>(match w with
  | .row false _ _ _ _=>k (.o (.c w.ca)) [t]
  | .limb false _ _=>k (.o (.c w.ca)) [t]
  | .row true _ q _ _=>(T ty).bind fun i=>(match i.kind with
   | .slc _ q' false=>bif Nat.beq q q' then k (.o (.c w.ca)) [t] else none
   | _=>none)
  | .limb true _ _=>(T ty).bind fun i=>(match i.kind with
   | .slc _ _ true=>k (.o (.c w.ca)) [t]
   | _=>none)
  | .map _ _ _=>none)
 | _=>none
def argsS (T:TyTab) (E s:VS) (el:TypeId→Option VT):List Operand→List TypeId→(List V→List Nat→Option R)→Option R
 | [],_,k=>k [] []
 | x :: xs,tys,k=>(getS E s x).bind fun v=>argS T E s el (tys.headD 0) v fun a us=>argsS T E s el xs tys.tail fun as' us'=>k (a :: as') (us ++ us')
def fillS (T:TyTab) (E s:VS) (el:TypeId→Option VT) (fs:List (Nat × Nat × TypeId)):List Ce→List (Nat × Operand)→(List Ce→List Nat→Option R)→Option R
 | cs,[],k=>k cs []
 | cs,(f,x) :: rest,k=>(fs[f]?).bind fun q=>(getS E s x).bind fun v=>argS T E s el q.2.2 v fun a us=>a.cells?.bind fun ac=>bif Nat.beq ac.length q.2.1 && Nat.ble (q.1+q.2.1) cs.length then fillS T E s el fs (splice cs q.1 ac) rest fun cs' us'=>k cs' (us ++ us') else none
def u32B (z:Int):Bool:=decide (0≤z) && decide (z<4294967296)
def natsC:List Ce→Option (List Nat)
 | []=>some []
 | ⟨.int .u32,z⟩ :: l=>bif u32B z then (natsC l).map fun m=>z.toNat :: m else none
 | _=>none
def setRow (E s:VS) (t:Nat) (w:RW):Option VS:=bif (lk s.own t).isSome && (lk E.own t).isNone then some { s with own:=(t,w) :: rmv t s.own } else none
def nilRow (el:TypeId→Option VT) (T:TyTab) (ty:TypeId):Option RW :=
 (T ty).bind fun i=>(match i.kind with
  | .slc e q true=>bif Nat.beq q 1 then some (.limb true e []) else none
  | .slc e q false=>(el e).bind fun t=>bif Nat.beq t.size q && Nat.blt 0 q && t.nl then some (.row true e q t []) else none
  | _=>none)
def baseS (T:TyTab) (E s:VS) (el:TypeId→Option VT) (ty:TypeId) (v:SV) (k:Option Nat→RW→Option R):Option R :=
 match v with
 | .row t=>(rowv E s t).bind fun w=>bif w.isMap then none else k (some t) w
 | .v (.o (.c ⟨.raw,⟨.lit (.slice none 0 0),_⟩⟩))=>(nilRow el T ty).bind fun w=>k none w
 | .v (.o (.c ⟨.slz q t,[]⟩))=>(nilRow el T ty).bind fun w=>(match w with
  | .row _ _ q' _ _=>bif Nat.beq q q' then k none w else none
  | _=>none)
 | .v (.o (.c ⟨.natz,[]⟩))=>(nilRow el T ty).bind fun w=>(match w with
  | .limb _ _ _=>k none w
  | _=>none)
 | _=>none
def capB (n by':Nat):Bool:=Nat.ble (n*by') 140737488355328
def appS (w:RW) (y:V) (by':Nat) (k:RW→Option R):Option R :=
 match w,y with
 | .row z e q t l,.o (.c ⟨.sl q' t',m⟩)=>(VT.eqv t' t).bind fun (h:PLift (t'=t))=>bif Nat.beq q q' then bif Nat.blt 0 by' then bif Nat.blt 0 m.length then bif capB (l.length+m.length) by' then k (.row z e q t (l ++ (h.down ▸ m:List t.den))) else none else none else none else none
 | .limb z e l,.o (.c ⟨.nat,m⟩)=>bif Nat.blt 0 by' then bif Nat.blt 0 m.length then bif capB (l.length+m.length) by' then k (.limb z e (l ++ m)) else none else none else none
 | _,_=>none
def overS (w:RW) (y:V):Option (Nat × RW) :=
 match w,y with
 | .row z e q t l,.o (.c ⟨.sl q' t',m⟩)=>(VT.eqv t' t).bind fun (h:PLift (t'=t))=>bif Nat.beq q q' && (t.nl && Nat.beq t.size q) then some (min l.length m.length,.row z e q t ((h.down ▸ m:List t.den).take l.length ++ l.drop m.length)) else none
 | .limb z e l,.o (.c ⟨.nat,m⟩)=>some (min l.length m.length,.limb z e (m.take l.length ++ l.drop m.length))
 | _,_=>none
def iVal:SV→Option Int
 | .v (.o (.c c))=>c.int?.map fun p=>p.2
 | _=>none
def mkB (n m:Int) (by':Nat):Bool:=decide (0≤n) && (decide (n≤m) && (Nat.ble (m.toNat*by') 140737488355328 && Nat.ble m.toNat 9223372036854775807))
def flatO (g:Sig) (x:denL g.ts):Bool:=(packA ((unflat g (ces g.ts x)).map V0.av)).flat
structure SigM where
 g:FuncId→Option Sig
 t:TypeId→Option Sig
 m:TypeId→String→Option (FuncId × (AV→Option AV))
def tgtI (sig:SigM) (y:RawV) (name:String):Option (FuncId × V0):=match y.1 with
 | .ifc t a=>(sig.m t name).bind fun p=>(p.2 a).bind fun a'=>(decV0 a').map fun v=>(p.1,v)
 | _=>none
def askM (sig:SigM) (A:Ask) (y:RawV) (name:String) (args:List V) (g:Sig):Option (denL g.ts):=(tgtI sig y name).bind fun p=>A p.1 (.o p.2 :: args) g
def askF (A:Ask) (y:RawV) (args:List V) (g:Sig):Option (denL g.ts):=(fnR y).bind fun p=>A p.1 (p.2.1.map V.o ++ args ++ p.2.2.map V.o) g
def callK (E s:VS) (dr:Bool) (dst:Option Nat) (us:List Nat) (g:Sig) (ans:Option (denL g.ts)) (k:VS→Option R):Option R :=
 bif g.fl || (us.isEmpty || !dr) then ans.bind fun x=>bif g.fl || us.isEmpty then k (s.put dst (packV (unflat g (ces g.ts x)))) else bif flatO g x then k (s.put dst (packV (unflat g (ces g.ts x)))) else (frzs E us s).bind fun s1=>k (s1.put dst (packV (unflat g (ces g.ts x)))) else none
def nilAt (E s:VS) (d:Nat) (w:RW):Option VS :=
  let n:=1000000+d
  bif noneUses (usesR n) E.tm && (lk E.own n).isNone && (match lk s.own n with|some w=>!hotB w|none=>true) then some { s with tm:=(d,some (.row n)) :: wipe (usesR n) s.tm,own:=(n,w) :: rmv n s.own } else none
def isRaw:SV→Bool
 | .v (.o (.c ⟨.raw,_⟩))=>true
 | _=>false
def asgS (T:TyTab) (el:TypeId→Option VT) (E:VS) (dst:Option Nat) (ty:TypeId) (s:VS) (v:SV) (k:VS→Option R):Option R :=
 bif isRaw v then (nilRow el T ty).elim (okS E s v fun v=>k (s.put dst v)) fun w=>bif isNil v then dst.bind fun d=>(nilAt E s d w).bind k else okS E s v fun v=>k (s.put dst v) else okS E s v fun v=>k (s.put dst v)
def stepS (T:TyTab) (el:TypeId→Option VT) (sig:SigM) (A A0:Ask) (E:VS) (dr:Bool) (o:Oper) (s:VS) (k:VS→Option R):Option R :=
 match o.op with
 | .alloc ty=>o.dst.bind fun t=>(T ty).bind fun i=>(el ty).bind fun vt=>(zeroC vt i).bind fun cs=>bif nlL cs && (noneUses (usesM t) E.tm && (lk E.mem t).isNone) then k { s with tm:=(t,some (.ref t 0)) :: wipe (usesM t) s.tm,mem:=(t,cs) :: rmv t s.mem } else none
 | .box ty x=>o.dst.bind fun t=>(getS E s x).bind fun v=>argS T E s el ty v fun a us=>a.cells?.bind fun cs=>bif (!dr || us.isEmpty) && (nlL cs && (noneUses (usesM t) E.tm && (lk E.mem t).isNone)) then (frzs E us s).bind fun s'=>k { s' with tm:=(t,some (.ref t 0)) :: wipe (usesM t) s'.tm,mem:=(t,cs) :: rmv t s'.mem } else none
 | .store ty x y=>(T ty).bind fun i=>(getS E s y).bind fun v=>argS T E s el ty v fun a us=>a.cells?.bind fun cs=>bif (!dr || us.isEmpty) && Nat.beq cs.length i.zero.length then (getS E s x).bind fun p=>(match p with
  | .ref t off=>bif nlL cs then (memv E s t).bind fun old=>bif Nat.ble (off+cs.length) old.length then (frzs E us s).bind fun s'=>k ({ s' with mem:=(t,splice old off cs) :: rmv t s'.mem }.put o.dst .skip) else none else none
  | .oref t j q=>bif us.contains t then none else (rowv E s t).bind fun w=>(match w with
   | .row z e kk vt l=>bif nlL cs && Nat.beq vt.size kk then (l[j]?).bind fun el'=>bif Nat.ble (q+cs.length) kk then bif okBs (splice (cellsV vt el') q cs) then (asm vt (splice (cellsV vt el') q cs)).bind fun p=>(match p.2 with
    | []=>(frzs E us s).bind fun s'=>(setRow E s' t (.row z e kk vt (l.set j p.1))).bind fun s2=>k (s2.put o.dst .skip)
    | _=>none) else none else none else none
   | .limb z e l=>bif Nat.beq q 0 && decide (j<l.length) then (match a with
    | .o (.c ⟨.int .u32,n⟩)=>bif u32B n then (frzs E us s).bind fun s'=>(setRow E s' t (.limb z e (l.set j n.toNat))).bind fun s2=>k (s2.put o.dst .skip) else none
    | _=>none) else none
   | .map _ _ _=>none)
  | _=>none) else none
 | .build ty parts=>(T ty).bind fun i=>(match i.kind with
  | .strct fs=>(el ty).bind fun vt=>(zeroC vt i).bind fun z=>fillS T E s el fs z parts.toList fun cs us=>bif !dr || us.isEmpty then (frzs E us s).bind fun s'=>k (s'.put o.dst (.v (.o (.agg cs)))) else none
  | _=>none)
 | .buildSlice ty n parts=>(T ty).bind fun i=>(match i.kind with
  | .slc e q lm=>(T e).bind fun j=>(el e).bind fun vt=>(zeroC vt j).bind fun z=>bif Nat.beq j.zero.length q && (Nat.blt 0 q && Nat.ble (n*q) 16777216) then fillS T E s el (places q e n 0) (List.replicate n z).flatten parts.toList fun cs us=>bif !dr || us.isEmpty then (frzs E us s).bind fun s'=>(match lm with
   | true=>bif Nat.beq q 1 then (natsC cs).bind fun ns=>k (s'.put o.dst (.v (.o (.c ⟨.nat,ns⟩)))) else none
   | false=>bif Nat.beq vt.size q && (Nat.beq cs.length (n*q)) then bif okBs cs then (asmL vt n cs).bind fun l=>k (s'.put o.dst (.v (.o (.c ⟨.sl q vt,l⟩)))) else none else none) else none else none
  | _=>none)
 | .makeSlice ty x y=>o.dst.bind fun d=>(T ty).bind fun i=>(match i.kind with
  | .slc e q lm=>(T e).bind fun j=>(el e).bind fun vt=>(zeroC vt j).bind fun z=>(getS E s x).bind fun u=>(iVal u).bind fun n=>(getS E s y).bind fun v=>(iVal v).bind fun m=>bif Nat.beq j.zero.length q && Nat.blt 0 q then bif mkB n m j.bytes then (match lm with
   | true=>bif Nat.beq q 1 && (match j.zero with|[.lit (.int .u32 0)]=>true|_=>false) then (fresh E s none d (.limb false e (List.replicate n.toNat 0))).bind k else none
   | false=>bif nlL z && (Nat.beq vt.size q && okBs z) then (asm vt z).bind fun p=>(match p.2 with
    | []=>(fresh E s none d (.row false e q vt (List.replicate n.toNat p.1))).bind k
    | _=>none) else none) else none else none
  | _=>none)
 | .makeMap ty r=>o.dst.bind fun d=>(T ty).bind fun i=>(match i.kind with
  | .map k' e=>(T k').bind fun ki=>(el k').bind fun kt=>(el e).bind fun vt=>bif kdB kt ki.kind && r.isNone then (fresh E s none d (.map kt vt [])).bind k else none
  | _=>none)
 | .mapUpdate ty x q y=>(getS E s x).bind fun v=>(match v with
  | .row t=>(rowv E s t).bind fun w=>(match w with
   | .map kt vt l=>(T ty).bind fun i=>(match i.kind with
    | .map k' e=>(T k').bind fun ki=>(getS E s q).bind fun qv=>(qv.ce?.bind fun c=>c.to kt).bind fun key=>(getS E s y).bind fun yv=>argS T E s el e yv fun a us=>bif us.isEmpty && kdB kt ki.kind then (match a with
     | .o (.c c)=>(c.to vt).bind fun d=>(setRow E s t (.map kt vt (mputV kt l key d))).bind fun s'=>k (s'.put o.dst .skip)
     | _=>none) else none
    | _=>none)
   | _=>none)
  | _=>none)
 | .call c=>(match c.callee with
  | .value fo=>(getS E s fo).bind fun fv=>(match fv with
   | .v (.fn f pre post)=>argsS T E s el c.args.toList c.argTypes.toList fun as' us=>(sig.g f).bind fun g=>callK E s dr o.dst us g (bif cold E s then A f (pre.map V.o ++ as' ++ post.map V.o) g else A0 f (pre.map V.o ++ as' ++ post.map V.o) g) k
   | .v (.o (.c ⟨.raw,y⟩))=>argsS T E s el c.args.toList c.argTypes.toList fun as' us=>(sig.t o.type).bind fun g=>callK E s dr o.dst us g (bif cold E s then askF A y as' g else askF A0 y as' g) k
   | _=>none)
  | .builtin .append=>o.dst.bind fun d=>(match c.args.toList,c.argTypes.toList with
   | [x,y],[ty,ty']=>bif Nat.beq ty' ty then (T ty).bind fun i=>(match i.kind with
    | .slc e q lm=>(T e).bind fun j=>(getS E s x).bind fun u=>(getS E s y).bind fun v=>baseS T E s el ty u fun t w=>argS T E s el ty v fun a _=>bif Nat.beq j.zero.length q && Nat.blt 0 q && (lm || j.zero.all AV.noLimb) then (match w,lm with
     | .row _ e' q' vt _,false=>bif Nat.beq e' e && Nat.beq q' q && (vt.nl && Nat.beq vt.size q) then appS w a j.bytes fun w'=>(fresh E s t d w').bind k else none
     | .limb _ e' _,true=>bif Nat.beq e' e && Nat.beq q 1 then appS w a j.bytes fun w'=>(fresh E s t d w').bind k else none
     | _,_=>none) else none
    | _=>none) else none
   | _,_=>none)
  | .builtin .copy=>(match c.args.toList,c.argTypes.toList with
   | [x,y],[ty,ty']=>(T ty).bind fun i=>(match i.kind with
    | .slc _ q _=>(getS E s x).bind fun u=>(match u with
     | .row t=>(rowv E s t).bind fun w=>bif Nat.beq w.k q && !w.nilB then (getS E s y).bind fun v=>argS T E s el ty v fun a _=>(overS w a).bind fun p=>(setRow E s t p.2).bind fun s'=>k (s'.put o.dst (.v (.o (.c (cI .i64 (p.1:Nat)))))) else none
     | _=>none)
    | _=>none)
   | _,_=>none)
  | .invoke x name=>(getS E s x).bind fun fv=>(match fv with
   | .v (.o (.c ⟨.raw,y⟩))=>argsS T E s el c.args.toList c.argTypes.toList fun as' us=>(sig.t o.type).bind fun g=>callK E s dr o.dst us g (bif cold E s then askM sig A y name as' g else askM sig A0 y name as' g) k
   | _=>none)
  | _=>valS T E s o.op fun v=>k (s.put o.dst v))
 | .assign x=>(getS E s x).bind fun v=>asgS T el E o.dst o.type s v k
 | .move x=>(getS E s x).bind fun v=>asgS T el E o.dst o.type s v k
 | op=>valS T E s op fun v=>k (s.put o.dst v)
end
end Go.Proofs.YtcaahphghaddgaaGreatDoor
