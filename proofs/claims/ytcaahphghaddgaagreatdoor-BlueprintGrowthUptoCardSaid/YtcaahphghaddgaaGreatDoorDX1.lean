import Derived.Test.YtcaahphghaddgaaGreatDoorDVR
import Derived.Test.YtcaahphghaddgaaGreatDoorDWz
/- Text X1. -/
set_option linter.unusedSimpArgs false
set_option linter.unusedVariables false
namespace Go.Proofs.YtcaahphghaddgaaGreatDoor
open Go.RowKit Lim
inductive VT where
 | int (k:IntKind)
 | bool
 | str
 | byte
 | nat
 | natz
 | sl (k:Nat) (e:VT)
 | slz (k:Nat) (e:VT)
 | unit
 | pair (a b:VT)
 | raw
abbrev RawV:={a:AV // (a.one && a.noLimb)=true}
abbrev VT.den:VT→Type
 | .int _=>Int
 | .bool=>Bool
 | .str=>List UInt8
 | .byte=>UInt8
 | .nat=>List Nat
 | .natz=>List Nat
 | .sl _ e=>List e.den
 | .slz _ e=>List e.den
 | .unit=>Unit
 | .pair a b=>a.den × b.den
 | .raw=>RawV
def VT.eqv:(a b:VT)→Option (PLift (a=b))
 | .int k,.int k'=>if h:k=k' then some ⟨by rw [h]⟩ else none
 | .bool,.bool=>some ⟨rfl⟩
 | .str,.str=>some ⟨rfl⟩
 | .byte,.byte=>some ⟨rfl⟩
 | .nat,.nat=>some ⟨rfl⟩
 | .natz,.natz=>some ⟨rfl⟩
 | .sl k e,.sl k' e'=>if h:k=k' then (VT.eqv e e').map (fun q=>⟨by rw [h,q.down]⟩) else none
 | .slz k e,.slz k' e'=>if h:k=k' then (VT.eqv e e').map (fun q=>⟨by rw [h,q.down]⟩) else none
 | .unit,.unit=>some ⟨rfl⟩
 | .pair a b,.pair c d=>(VT.eqv a c).bind fun p=>(VT.eqv b d).map fun q=>⟨by rw [p.down,q.down]⟩
 | .raw,.raw=>some ⟨rfl⟩
 | _,_=>none
abbrev bsA (s:List UInt8):AV:=.lit (.string (bs s))
abbrev nilA:AV:=.lit (.slice none 0 0)
def eraL:(t:VT)→t.den→List AV
 | .int k,z=>[.lit (.int k z)]
 | .bool,b=>[.lit (.bool b)]
 | .str,s=>[bsA s]
 | .byte,b=>[byteA b]
 | .nat,l=>[.nat l]
 | .natz,l=>[bif l.isEmpty then nilA else .nat l]
 | .sl k e,l=>[.sl k (l.map (fun x=>mkEl k (eraL e x)))]
 | .slz k e,l=>[bif l.isEmpty then nilA else .sl k (l.map (fun x=>mkEl k (eraL e x)))]
 | .unit,_=>[]
 | .pair a b,x=>eraL a x.1 ++ eraL b x.2
 | .raw,v=>[v.1]
def elA (k:Nat) (t:VT) (x:t.den):AV:=mkEl k (eraL t x)
structure Ce where
 t:VT
 x:t.den
def Ce.av (c:Ce):AV:=(eraL c.t c.x).headD (.lit (.bool false))
abbrev cI (k:IntKind) (z:Int):Ce:=⟨.int k,z⟩
abbrev cB (b:Bool):Ce:=⟨.bool,b⟩
abbrev cS (s:List UInt8):Ce:=⟨.str,s⟩
def cellsV:(t:VT)→t.den→List Ce
 | .unit,_=>[]
 | .pair a b,x=>cellsV a x.1 ++ cellsV b x.2
 | .byte,b=>[cI .u8 (b.toNat:Nat)]
 | .int k,z=>[⟨.int k,z⟩]
 | .bool,b=>[⟨.bool,b⟩]
 | .str,s=>[⟨.str,s⟩]
 | .nat,l=>[⟨.nat,l⟩]
 | .natz,l=>[⟨.natz,l⟩]
 | .sl k e,l=>[⟨.sl k e,l⟩]
 | .slz k e,l=>[⟨.slz k e,l⟩]
 | .raw,v=>[⟨.raw,v⟩]
theorem eraL_cells:∀(t:VT) (x:t.den),eraL t x=(cellsV t x).map Ce.av
 | .int _,_=>rfl
 | .bool,_=>rfl
 | .str,_=>rfl
 | .byte,_=>rfl
 | .nat,_=>rfl
 | .natz,_=>rfl
 | .sl _ _,_=>rfl
 | .slz _ _,_=>rfl
 | .unit,_=>rfl
 | .pair a b,x=>by simp only [eraL,cellsV,List.map_append,←eraL_cells a x.1,←eraL_cells b x.2]
 | .raw,_=>rfl
theorem eraL_one:∀(t:VT) (x:t.den),(eraL t x).all AV.one=true
 | .int _,_=>rfl
 | .bool,_=>rfl
 | .str,_=>rfl
 | .byte,_=>rfl
 | .nat,_=>rfl
 | .natz,l=>by cases l <;> rfl
 | .sl _ _,_=>rfl
 | .slz _ _,l=>by cases l <;> rfl
 | .unit,_=>rfl
 | .pair a b,x=>by simp only [eraL,List.all_append,eraL_one a x.1,eraL_one b x.2,Bool.and_self]
 | .raw,v=>by have:=v.2;simp only [Bool.and_eq_true]at this;simp [eraL,this.1]
theorem Ce.one (c:Ce):c.av.one=true:=by
 have h:=eraL_one c.t c.x
 unfold Ce.av
 cases he:eraL c.t c.x with
 | nil=>rfl
 | cons a l=>rw [he]at h;simp only [List.all_cons,Bool.and_eq_true]at h;exact h.1
theorem cells_ces (cs:List Ce):(cs.map Ce.av).all AV.one=true:=by
 rw [List.all_eq_true]
 intro a ha
 obtain ⟨c,_,rfl⟩:=List.mem_map.1 ha
 exact c.one
def VT.nl:VT→Bool
 | .int k=>decide (k≠.u32)
 | .pair a b=>a.nl && b.nl
 | _=>true
theorem eraL_nl:∀(t:VT) (x:t.den),t.nl=true→(eraL t x).all AV.noLimb=true
 | .int k,z,h=>by
  simp only [VT.nl,decide_eq_true_eq]at h
  cases k <;> first|rfl|exact absurd rfl h
 | .bool,_,_=>rfl
 | .str,_,_=>rfl
 | .byte,_,_=>rfl
 | .nat,_,_=>rfl
 | .natz,l,_=>by cases l <;> rfl
 | .sl _ _,_,_=>rfl
 | .slz _ _,l,_=>by cases l <;> rfl
 | .unit,_,_=>rfl
 | .pair a b,x,h=>by
  simp only [VT.nl,Bool.and_eq_true]at h
  simp only [eraL,List.all_append,eraL_nl a x.1 h.1,eraL_nl b x.2 h.2,Bool.and_self]
 | .raw,v,_=>by have:=v.2;simp only [Bool.and_eq_true]at this;simp [eraL,this.2]
theorem Ce.nl (c:Ce) (h:c.t.nl=true):c.av.noLimb=true:=by
 have h:=eraL_nl c.t c.x h
 unfold Ce.av
 cases he:eraL c.t c.x with
 | nil=>rfl
 | cons a l=>rw [he]at h;simp only [List.all_cons,Bool.and_eq_true]at h;exact h.1
def nlL (cs:List Ce):Bool:=cs.all fun c=>c.t.nl
theorem nlL_av {cs:List Ce} (h:nlL cs=true):(cs.map Ce.av).all AV.noLimb=true:=by
 rw [List.all_eq_true]
 intro a ha
 obtain ⟨c,hc,rfl⟩:=List.mem_map.1 ha
 exact c.nl (List.all_eq_true.1 h c hc)
def VT.size:VT→Nat
 | .unit=>0
 | .pair a b=>a.size+b.size
 | _=>1
theorem eraL_len:∀(t:VT) (x:t.den),(eraL t x).length=t.size
 | .int _,_=>rfl
 | .bool,_=>rfl
 | .str,_=>rfl
 | .byte,_=>rfl
 | .nat,_=>rfl
 | .natz,_=>rfl
 | .sl _ _,_=>rfl
 | .slz _ _,_=>rfl
 | .unit,_=>rfl
 | .pair a b,x=>by simp only [eraL,List.length_append,eraL_len a x.1,eraL_len b x.2,VT.size]
 | .raw,_=>rfl
theorem elA_cells (k:Nat) (t:VT) (x:t.den) (h:t.size=k):(elA k t x).cells=(cellsV t x).map Ce.av:=by
 unfold elA
 rw [←eraL_cells]
 have h1:=eraL_len t x
 have h2:=eraL_one t x
 rw [h]at h1
 unfold mkEl
 split
 ·rename_i c l he
  rw [he]at h1 h2
  have hl:l=[]:=by simpa using h1
  subst hl
  simp only [List.all_cons,List.all_nil,Bool.and_true]at h2
  rw [he]
  exact AV.cells_one h2
 ·rfl
inductive V0 where
 | c (x:Ce)
 | agg (cs:List Ce)
 | ptr (cs:List Ce)
inductive V where
 | o (x:V0)
 | fn (f:FuncId) (pre post:List V0)
 | lent (off:Nat) (cs:List Ce)
def V0.av:V0→AV
 | .c x=>x.av
 | .agg cs=>.agg (cs.map Ce.av)
 | .ptr cs=>.ptr (cs.map Ce.av)
def V.av:V→AV
 | .o x=>x.av
 | .fn f pre post=>.fn (.func f) (pre.map V0.av) (post.map V0.av)
 | .lent _ cs=>.ptr (cs.map Ce.av)
def V.plain:V→Bool
 | .lent _ _=>false
 | _=>true
def fnA (f:FuncId) (pre post:List V0):RawV:=⟨.fn (.func f) (pre.map V0.av) (post.map V0.av),rfl⟩
def V.cells?:V→Option (List Ce)
 | .o (.c x)=>some [x]
 | .o (.agg cs)=>some cs
 | .fn f pre post=>some [⟨.raw,fnA f pre post⟩]
 | _=>none
theorem V.cells_av {x:V} {cs:List Ce} (h:x.cells? = some cs):x.av.cells=cs.map Ce.av:=by
 unfold V.cells? at h
 split at h
 ·cases h;exact AV.cells_one (Ce.one _)
 ·cases h;rfl
 ·cases h;rfl
 ·cases h
inductive SV where
 | v (x:V)
 | tup (l:List V0)
 | ref (t off:Nat)
 | row (t:Nat)
 | oref (t i o:Nat)
 | gref (g:Nat) (one:Bool) (off:Nat)
 | skip
def kdOf:VT→TK
 | .int k=>.int k
 | .str=>.str
 | .bool=>.bool
 | _=>.scal
def keyV:(t:VT)→t.den→Value
 | .int k,z=>.int k z
 | .str,s=>.string (bs s)
 | .bool,b=>.bool b
 | _,_=>.nilIface
def keyQ:(t:VT)→t.den→t.den→Bool
 | .int _,a,b=>@BEq.beq Int _ a b
 | .str,a,b=>@BEq.beq (List UInt8) _ a b
 | .bool,a,b=>@BEq.beq Bool _ a b
 | _,_,_=>false
def mgetV {α:Type} (t:VT):List (t.den × α)→t.den→Option α
 | [],_=>none
 | p :: l,q=>bif keyQ t q p.1 then some p.2 else mgetV t l q
def mputV {α:Type} (t:VT):List (t.den × α)→t.den→α→List (t.den × α)
 | [],q,y=>[(q,y)]
 | p :: l,q,y=>bif keyQ t q p.1 then (q,y) :: l else p :: mputV t l q y
inductive RW where
 | row (z:Bool) (e:TypeId) (k:Nat) (t:VT) (l:List t.den)
 | limb (z:Bool) (e:TypeId) (l:List Nat)
 | map (kt vt:VT) (l:List (kt.den × vt.den))
def RW.isMap:RW→Bool
 | .map _ _ _=>true
 | _=>false
def RW.k:RW→Nat
 | .row _ _ k _ _=>k
 | .limb _ _ _=>1
 | .map _ _ _=>0
def RW.len:RW→Nat
 | .row _ _ _ _ l=>l.length
 | .limb _ _ l=>l.length
 | .map _ _ _=>0
def RW.nilB:RW→Bool
 | .row z _ _ _ l=>z && l.isEmpty
 | .limb z _ l=>z && l.isEmpty
 | .map _ _ _=>false
def RW.ov1:RW→OV
 | .row _ e k t l=>.row e k (l.map (elA k t))
 | .limb _ e l=>.limb e l
 | .map kt vt l=>.map (kdOf kt) (l.map fun p=>(keyV kt p.1,Ce.av ⟨vt,p.2⟩))
def RW.ov (r:RW):Option OV:=bif r.nilB then none else some r.ov1
def RW.tv (t:Nat) (r:RW):TV:=bif r.nilB then .av nilA else bif r.isMap then .omap t else .osl t r.k 0 r.len
def RW.ce:RW→Ce
 | .row z _ k t l=>bif z then ⟨.slz k t,l⟩ else ⟨.sl k t,l⟩
 | .limb z _ l=>bif z then ⟨.natz,l⟩ else ⟨.nat,l⟩
 | .map kt vt l=>⟨.sl 0 (.pair kt vt),l⟩
def RW.ca:RW→Ce
 | .row _ _ k t l=>⟨.sl k t,l⟩
 | .limb _ _ l=>⟨.nat,l⟩
 | .map kt vt l=>⟨.sl 0 (.pair kt vt),l⟩
theorem RW.ov1_k (r:RW):r.ov1.k=r.k:=by cases r <;> rfl
theorem RW.ov1_len (r:RW):r.ov1.len=r.len:=by cases r <;> simp [RW.ov1,OV.len,RW.len]
theorem RW.ov1_part (r:RW) (hm:r.isMap=false):r.ov1.part 0 r.len=r.ca.av:=by
 cases r with
 | map kt vt l=>cases hm
 | row z e k t l =>
  simp only [RW.ov1,OV.part,RW.len,RW.ca,List.drop_zero]
  rw [List.take_of_length_le (by simp)]
  rfl
 | limb z e l =>
  simp only [RW.ov1,OV.part,RW.len,RW.ca,List.drop_zero]
  rw [List.take_of_length_le (by simp)]
  rfl
theorem RW.ce_nil {r:RW} (h:r.nilB=true):r.ce.av=nilA:=by
 cases r with
 | map kt vt l=>cases h
 | row z e k t l=>simp only [RW.nilB,Bool.and_eq_true]at h;cases l with
  | nil=>rw [RW.ce,h.1];rfl
  | cons=>cases h.2
 | limb z e l=>simp only [RW.nilB,Bool.and_eq_true]at h;cases l with
  | nil=>rw [RW.ce,h.1];rfl
  | cons=>cases h.2
theorem RW.ce_full {r:RW} (h:r.nilB=false):r.ce.av=r.ca.av:=by
 cases r with
 | map kt vt l=>rfl
 | row z e k t l =>
  cases z with
  | false=>rfl
  | true=>cases l with
   | nil=>cases h
   | cons=>rfl
 | limb z e l =>
  cases z with
  | false=>rfl
  | true=>cases l with
   | nil=>cases h
   | cons=>rfl
theorem RW.map_len {r:RW} (h:r.isMap=true):r.len=0:=by cases r <;> first|rfl|cases h
structure VS where
 tm:List (Nat × Option SV)
 mem:List (Nat × List Ce)
 own:List (Nat × RW)
def lk {α:Type}:List (Nat × α)→Nat→Option α
 | [],_=>none
 | (k,v) :: l,x=>bif Nat.beq x k then some v else lk l x
def slot (E s:VS) (x:Nat):Option SV:=match lk s.tm x with
 | some v=>v
 | none=>match lk E.tm x with
  | some v=>v
  | none=>none
def memv (E s:VS) (t:Nat):Option (List Ce):=match lk s.mem t with
 | some v=>some v
 | none=>lk E.mem t
def rowv (E s:VS) (t:Nat):Option RW:=match lk s.own t with
 | some v=>some v
 | none=>lk E.own t
def eraSV (f:Nat→Option RW):SV→Option TV
 | .v x=>some (.av x.av)
 | .tup l=>some (.av (.tup (l.map V0.av)))
 | .ref t o=>some (.ref t o)
 | .row t=>(f t).map (RW.tv t)
 | .oref t i o=>(f t).map fun r=>.oref t r.k i o
 | .gref g _ off=>some (.av (.lit (.pointer (some ⟨g,off,none⟩))))
 | .skip=>some .skip
def era (E s:VS):AS:=⟨fun x=>(slot E s x).bind (eraSV (rowv E s)),fun t=>(memv E s t).map (List.map Ce.av),fun t=>(rowv E s t).bind RW.ov⟩
end Go.Proofs.YtcaahphghaddgaaGreatDoor
