import Derived.Test.YtmekiphpjpblpaaGreatEVA
/- Text VB. -/
set_option linter.unusedSimpArgs false
set_option linter.unusedVariables false
set_option maxHeartbeats 40000000
set_option maxRecDepth 100000
namespace Go.Proofs.YtmekiphpjpblpaaGreat
open Go.RowKit Lim
def constT:Value→Option TV
 | .int k n=>some (.av (.lit (.int k n)))
 | .bool b=>some (.av (.lit (.bool b)))
 | .string s=>some (.av (.lit (.string s)))
 | .slice none 0 0=>some (.av (.lit (.slice none 0 0)))
 | .nilIface=>some (.av (.lit .nilIface))
 | .nilFunc=>some (.av (.lit .nilFunc))
 | .pointer none=>some (.av (.lit (.pointer none)))
 | .map none=>some (.av (.lit (.map none)))
 | _=>none
def AS.get (σ:AS):Operand→Option TV
 | .tmp t=>σ.tm t
 | .const v=>constT v
 | .func f=>some (.av (.fn (.func f) [] []))
 | .global g=>some (.av (.lit (.pointer (some ⟨g,0,none⟩))))
def normA (T:TyTab) (ty:TypeId) (a:AV):AV :=
 match a with
 | .lit (.slice none 0 0)=>(match T ty with
  | some ⟨.slc _ k l,_,_⟩=>(match l with|true=>.nat []|false=>.sl k [])
  | _=>.lit (.slice none 0 0))
 | a=>a
def OV.look (k i o:Nat):OV→Option (List AV)
 | .row _ k' es=>if k'=k then (es[i]?).map (fun e=>e.cells.drop o) else none
 | .limb _ l=>if k=1∧o=0 then (l[i]?).map (fun x=>[.lit (.int .u32 (x:Nat))]) else none
 | .map _ _=>none
def AS.look (σ:AS):Option TV→Option (List AV)
 | some (.ref t off)=>(σ.mem t).map (·.drop off)
 | some (.av (.ptr cs))=>some cs
 | some (.oref t k i o)=>(σ.own t).bind (OV.look k i o)
 | _=>none
def AS.lookG (σ:AS):Option TV→Option (List AV)
 | some (.av (.lit (.pointer (some ⟨g,off,none⟩))))=>(globT g).map fun cs=>(cs.drop off).map AV.lit
 | x=>σ.look x
def takeA (i:TI) (cs:List AV):Option AV :=
 match i.kind with
 | .strct _=>if i.zero.length≤cs.length then some (.agg (cs.take i.zero.length)) else none
 | .arr _ _ _=>if i.zero.length≤cs.length then some (.agg (cs.take i.zero.length)) else none
 | _=>cs.head?
def offT (o:Nat):Option TV→Option TV
 | some (.ref t off)=>some (.ref t (off+o))
 | some (.av (.ptr cs))=>some (.av (.ptr (cs.drop o)))
 | some (.oref t k i q)=>some (.oref t k i (q+o))
 | _=>none
def elemA (k:Nat) (s:AV) (n:Nat) (e:AV):Prop :=
 match s with
 | .sl k' es=>k'=k∧es[n]? = some e
 | .nat l=>k=1∧∃x,l[n]? = some x∧e=.lit (.int .u32 (x:Nat))
 | _=>False
def lenA (s:AV):Option Nat :=
 match s with
 | .sl _ es=>some es.length
 | .nat l=>some l.length
 | .lit (.slice none 0 0)=>some 0
 | _=>none
def lenT:TV→Option Nat
 | .av s=>lenA s
 | .osl _ _ _ n=>some n
 | _=>none
def idxT (i:TI) (x:TV) (n:Nat) (v:TV):Prop :=
 match i.kind,x with
 | .slc _ k _,.av s=>∃e,elemA k s n e∧v=.av (.ptr e.cells)
 | .slc _ k _,.osl t k' off len=>k'=k∧n<len∧v=.oref t k (off+n) 0
 | .arr m _ k,.ref t off=>n<m∧v=.ref t (off+n*k)
 | .arr m _ k,.av (.ptr cs)=>n<m∧v=.av (.ptr (cs.drop (n*k)))
 | .arr m _ k,.oref t k' j o=>n<m∧v=.oref t k' j (o+n*k)
 | .arr m _ k,.av (.lit (.pointer (some ⟨g,off,none⟩)))=>n<m∧v=.av (.lit (.pointer (some ⟨g,off+n*k,none⟩)))
 | _,_=>False
def splice {α:Type} (cs:List α) (o:Nat) (xs:List α):List α:=cs.take o ++ xs ++ cs.drop (o+xs.length)
def fillA (T:TyTab) (σ:AS) (fs:List (Nat × Nat × TypeId)):List AV→List (Nat × Operand)→Option (List AV)
 | cs,[]=>some cs
 | cs,(f,x) :: rest =>
  match fs[f]?,σ.get x with
  | some (o,n,t),some (.av a)=>if (normA T t a).cells.length=n∧o+n≤cs.length then fillA T σ fs (splice cs o (normA T t a).cells) rest else none
  | _,_=>none
def avsL (σ:AS):List Operand→Option (List AV)
 | []=>some []
 | x :: xs=>match σ.get x,avsL σ xs with|some (.av a),some l=>some (a :: l)|_,_=>none
def binR (b:Bool):BinOp→Value→Value→Value→Prop
 | .add,.int k m,.int k' n,r=>k=k'∧r=.int k (k.wrap (m+n))
 | .sub,.int k m,.int k' n,r=>k=k'∧r=.int k (k.wrap (m-n))
 | .mul,.int k m,.int k' n,r=>k=k'∧r=.int k (k.wrap (m*n))
 | .quo,.int k m,.int k' n,r=>k=k'∧n≠0∧r=.int k (k.wrap (m.tdiv n))
 | .rem,.int k m,.int k' n,r=>k=k'∧n≠0∧r=.int k (m.tmod n)
 | .shl,.int k m,.int _ n,r=>0≤n∧r=.int k (k.wrap (m*2 ^ (min n.toNat k.bits)))
 | .shr,.int k m,.int _ n,r=>0≤n∧r=.int k (m.fdiv (2 ^ (min n.toNat k.bits)))
 | .and,.int k m,.int k' n,r=>k=k'∧r=.int k (k.wrap (BitVec.ofInt k.bits m &&& BitVec.ofInt k.bits n).toNat)
 | .or,.int k m,.int k' n,r=>k=k'∧r=.int k (k.wrap (BitVec.ofInt k.bits m ||| BitVec.ofInt k.bits n).toNat)
 | .xor,.int k m,.int k' n,r=>k=k'∧r=.int k (k.wrap (BitVec.ofInt k.bits m ^^^ BitVec.ofInt k.bits n).toNat)
 | .eql,.int k m,.int k' n,r=>k=k'∧r=.bool (m == n)
 | .neq,.int k m,.int k' n,r=>k=k'∧r=.bool (m != n)
 | .lss,.int k m,.int k' n,r=>k=k'∧r=.bool (decide (m<n))
 | .leq,.int k m,.int k' n,r=>k=k'∧r=.bool (decide (m≤n))
 | .gtr,.int k m,.int k' n,r=>k=k'∧r=.bool (decide (n<m))
 | .geq,.int k m,.int k' n,r=>k=k'∧r=.bool (decide (n≤m))
 | .add,.string x,.string y,r=>((x.size+y.size:Nat):Int)≤9223372036854775807∧r=.string (x ++ y)
 | .eql,.string x,.string y,r=>r=.bool (x.toList == y.toList)
 | .neq,.string x,.string y,r=>r=.bool (!(x.toList == y.toList))
 | .lss,.string x,.string y,r=>r=.bool (Op.bytesLess x.toList y.toList)
 | .leq,.string x,.string y,r=>r=.bool (Op.bytesLess x.toList y.toList || x.toList == y.toList)
 | .gtr,.string x,.string y,r=>r=.bool (!(Op.bytesLess x.toList y.toList || x.toList == y.toList))
 | .geq,.string x,.string y,r=>r=.bool (!(Op.bytesLess x.toList y.toList))
 | .eql,.bool x,.bool y,r=>b=true∧r=.bool (x == y)
 | .neq,.bool x,.bool y,r=>b=true∧r=.bool (!(x == y))
 | _,_,_,_=>False
def unR:UnOp→Value→Value→Prop
 | .neg,.int k m,r=>r=.int k (k.wrap (0-m))
 | .not,.bool b,r=>r=.bool (!b)
 | _,_,_=>False
def isBoolT (T:TyTab) (ty:TypeId):Bool:=match T ty with|some ⟨.bool,_,_⟩=>true|_=>false
def boundR (n m d:Nat):Option TV→Prop
 | none=>m=d
 | some (.av (.lit (.int _ q)))=>0≤q∧q≤n∧m=q.toNat
 | _=>False
def sliceR (lo hi:Option TV) (n:Nat) (l h:Nat):Prop:=boundR n h n hi∧boundR h l 0 lo
def optGet (σ:AS):Option Operand→Option (Option TV)
 | none=>some none
 | some x=>(σ.get x).map some
def byteA (b:UInt8):AV:=.lit (.int .u8 (b.toNat:Nat))
def isByteT (T:TyTab) (ty:TypeId):Bool:=match T ty with|some ⟨.int .u8,_,_⟩=>true|_=>false
def maxR (x y:Value) (r:Value):Prop :=
 match x,y with
 | .int k m,.int k' n=>k=k'∧r=.int k (if n > m then n else m)
 | _,_=>False
def minR (x y:Value) (r:Value):Prop :=
 match x,y with
 | .int k m,.int k' n=>k=k'∧r=.int k (if n<m then n else m)
 | _,_=>False
def mkEl (k:Nat) (cs:List AV):AV:=match k,cs with|1,c :: _=>c|_,cs=>.agg cs
def chunk (k:Nat):Nat→List AV→List AV
 | 0,_=>[]
 | n+1,cs=>mkEl k (cs.take k) :: chunk k n (cs.drop k)
theorem mkEl_cells {k:Nat} {cs:List AV} (hk:0<k) (hl:cs.length=k) (h1:cs.all AV.one=true):(mkEl k cs).cells=cs:=by
 unfold mkEl
 split
 ·rename_i c rest
  cases rest with
  | nil =>
   have:c.one=true:=by simpa using h1
   rw [AV.cells_one this]
  | cons=>simp at hl
 ·rfl
theorem chunk_len (k:Nat):∀(n:Nat) (cs:List AV),(chunk k n cs).length=n
 | 0,_=>rfl
 | n+1,cs=>by simp [chunk,chunk_len k n]
theorem chunk_get (k:Nat) (hk:0<k):∀(n:Nat) (cs:List AV),cs.length=n*k→cs.all AV.one=true→∀i (hi:i<(chunk k n cs).length),((chunk k n cs)[i]'hi).cells.length=k∧∀j,j<k→((chunk k n cs)[i]'hi).cells[j]? = cs[i*k+j]?
 | 0,cs,_,_,i,hi=>by simp [chunk]at hi
 | n+1,cs,hl,ho,i,hi=>by
  rw [Nat.add_mul]at hl
  cases i with
  | zero =>
   simp only [chunk,List.getElem_cons_zero,Nat.zero_mul,Nat.zero_add]
   rw [mkEl_cells hk (by simp;omega) (by rw [List.all_eq_true]at ho ⊢;exact fun x hx=>ho x (List.mem_of_mem_take hx))]
   exact ⟨by simp;omega,fun j hj=>by rw [List.getElem?_take_of_lt hj]⟩
  | succ i =>
   have hi':i<(chunk k n (cs.drop k)).length:=by simpa [chunk]using hi
   have:=chunk_get k hk n (cs.drop k) (by simp;omega) (by rw [List.all_eq_true]at ho ⊢;exact fun x hx=>ho x (List.mem_of_mem_drop hx)) i hi'
   simp only [chunk,List.getElem_cons_succ]
   refine ⟨this.1,fun j hj=>?_⟩
   rw [this.2 j hj,List.getElem?_drop]
   congr 1
   rw [Nat.add_mul]
   omega
def flatK:TK→Bool
 | .strct _=>false
 | .arr _ _ _=>false
 | _=>true
def keyEq:Value→Value→Bool
 | .int k a,.int k' b=>decide (k=k') && a == b
 | .string a,.string b=>a == b
 | .bool a,.bool b=>a == b
 | _,_=>false
def mgetA:List (Value × AV)→Value→Option AV
 | [],_=>none
 | p :: l,q=>if keyEq q p.1 then some p.2 else mgetA l q
def mputA:List (Value × AV)→Value→AV→List (Value × AV)
 | [],q,y=>[(q,y)]
 | p :: l,q,y=>if keyEq q p.1 then (q,y) :: l else p :: mputA l q y
def aval (C:Ctx) (σ:AS) (o:Oper) (v:TV):Prop :=
 match o.op with
 | .move x|.assign x=>σ.get x=some v
 | .pick c x y=>∃t,σ.get c=some (.av (.lit (.bool t)))∧σ.get (if t then x else y)=some v
 | .load ty x=>∃i cs a,C.T ty=some i∧σ.lookG (σ.get x)=some cs∧takeA i cs=some a∧v=.av a
 | .fieldAddr ty x f=>∃fs z b o n t,C.T ty=some ⟨.strct fs,z,b⟩∧fs[f]? = some (o,n,t)∧offT o (σ.get x)=some v
 | .field ty x f=>∃fs z b o n t cs i a,C.T ty=some ⟨.strct fs,z,b⟩∧fs[f]? = some (o,n,t)∧σ.get x=some (.av (.agg cs))∧C.T t=some i∧takeA i (cs.drop o)=some a∧v=.av a
 | .extract x i=>∃vs a,σ.get x=some (.av (.tup vs))∧vs[i]? = some a∧v=.av a
 | .indexAddr ty x ix=>∃i s q n,C.T ty=some i∧σ.get x=some s∧σ.get ix=some (.av (.lit (.int q n)))∧0≤n∧idxT i s n.toNat v
 | .index ty x ix=>(∃z y s q n b,C.T ty=some ⟨.str,z,y⟩∧σ.get x=some (.av (.lit (.string s)))∧σ.get ix=some (.av (.lit (.int q n)))∧0≤n∧s.data.toList[n.toNat]? = some b∧v=.av (.lit (.int .u8 (b.toNat:Nat))))∨∃m e k z y cs q n i a,C.T ty=some ⟨.arr m e k,z,y⟩∧σ.get x=some (.av (.agg cs))∧σ.get ix=some (.av (.lit (.int q n)))∧0≤n∧n<(m:Int)∧C.T e=some i∧takeA i (cs.drop (n.toNat*k))=some a∧v=.av a
 | .binOp op ty x y _=>∃a b r,σ.get x=some (.av (.lit a))∧σ.get y=some (.av (.lit b))∧binR (isBoolT C.T ty) op a b r∧v=.av (.lit r)
 | .unOp op _ x=>∃a r,σ.get x=some (.av (.lit a))∧unR op a r∧v=.av (.lit r)
 | .convert src dst x=>∃i j,C.T src=some i∧C.T dst=some j ∧
   (match i.kind,j.kind,σ.get x with
    | .int _,.int k,some (.av (.lit (.int _ n)))=>v=.av (.lit (.int k (k.wrap n)))
    | .str,.str,some (.av (.lit (.string s)))=>v=.av (.lit (.string s))
    | .slc e0 k _,.str,some (.av (.sl k' es))=>isByteT C.T e0=true∧k=1∧k'=1∧∃l:List UInt8,es=l.map byteA∧v=.av (.lit (.string ⟨l.toArray⟩))
    | .slc e0 k _,.str,some (.osl t k' off len)=>isByteT C.T e0=true∧k=1∧k'=1∧∃(e:TypeId) (l:List UInt8),σ.own t=some (.row e 1 (l.map byteA))∧off=0∧len=l.length∧v=.av (.lit (.string ⟨l.toArray⟩))
    | .slc e0 k _,.str,some (.av (.lit (.slice none 0 0)))=>isByteT C.T e0=true∧k=1∧v=.av (.lit (.string ⟨#[]⟩))
    | _,_,_=>False)
 | .build ty parts=>∃fs z b cs,C.T ty=some ⟨.strct fs,z,b⟩∧fillA C.T σ fs z parts.toList=some cs∧v=.av (.agg cs)
 | .makeInterface ty x=>∃i a,C.T ty=some i∧(match i.kind with|.scal=>False|_=>True)∧σ.get x=some (.av a)∧v=.av (.ifc ty (normA C.T ty a))
 | .makeFunc f first captured=>∃fs cs,avsL σ first.toList=some fs∧avsL σ captured.toList=some cs∧v=.av (.fn f fs cs)
 | .slice ty x lo hi none=>∃i lo' hi',C.T ty=some i∧optGet σ lo=some lo'∧optGet σ hi=some hi' ∧
   (match i.kind,σ.get x with
    | .str,some (.av (.lit (.string s)))=>∃l h,sliceR lo' hi' s.size l h∧v=.av (.lit (.string (s.extract l h)))
    | .slc _ k _,some (.av (.sl k' es))=>k=k'∧∃l h,sliceR lo' hi' es.length l h∧v=.av (.sl k ((es.take h).drop l))
    | .slc _ k _,some (.av (.nat es))=>k=1∧∃l h,sliceR lo' hi' es.length l h∧v=.av (.nat ((es.take h).drop l))
    | .slc _ k b,some (.osl t k' off len)=>k=k'∧∃l h,sliceR lo' hi' len l h∧(l<h∧v=.osl t k (off+l) (h-l)∨l=h∧v=.av (if b then .nat [] else .sl k []))
    | .arr n _ k,some (.av (.ptr cs))=>n*k≤cs.length∧(cs.take (n*k)).all AV.one=true∧∃l h,sliceR lo' hi' n l h∧v=.av (.sl k (((chunk k n (cs.take (n*k))).take h).drop l))
    | _,_=>False)
 | .lookup ty x q ok=>∃k e z b ki ei t m kv a0,C.T ty=some ⟨.map k e,z,b⟩∧C.T k=some ki∧C.T e=some ei∧ei.zero=[a0]∧flatK ei.kind=true∧σ.get x=some (.omap t)∧σ.own t=some (.map ki.kind m)∧σ.get q=some (.av (.lit kv))∧keyB ki.kind kv=true ∧
   (match ok with
    | false=>v=.av ((mgetA m kv).getD a0)
    | true=>v=.av (.tup [(mgetA m kv).getD a0,.lit (.bool (mgetA m kv).isSome)]))
 | .nilCheck x=>(match σ.get x with|some (.ref t off)=>v=.ref t off|some (.av (.ptr cs))=>v=.av (.ptr cs)|some (.oref t k i o)=>v=.oref t k i o|some (.av (.ifc t a))=>v=.av (.ifc t a)|some (.av (.fn (.func f) fs cs))=>v=.av (.fn (.func f) fs cs)|_=>False)
 | .call c=>(match c.callee with
  | .builtin .len=>∃x ty i,c.args=#[x]∧c.argTypes=#[ty]∧C.T ty=some i ∧
   (match i.kind,σ.get x with
    | .str,some (.av (.lit (.string s)))=>v=.av (.lit (.int .i64 (s.size:Nat)))
    | .slc _ _ _,some s=>∃n,lenT s=some n∧v=.av (.lit (.int .i64 (n:Nat)))
    | _,_=>False)
  | .builtin .max=>∃x y a b r,c.args=#[x,y]∧σ.get x=some (.av (.lit a))∧σ.get y=some (.av (.lit b))∧maxR a b r∧v=.av (.lit r)
  | .builtin .min=>∃x y a b r,c.args=#[x,y]∧σ.get x=some (.av (.lit a))∧σ.get y=some (.av (.lit b))∧minR a b r∧v=.av (.lit r)
  | _=>False)
 | _=>False
section
variable {C:Ctx} {u:Bool} {w0:Base} {w:World} {Z0 Z:Zone} {σ:AS} {a:Act} {β:Nat→Nat} {κ:Nat→Nat × Nat}
theorem constT_sound {v:Value} {x:TV} (h:constT v=some x):∃u,x=.av (.lit u)∧u=v∧v.oneCell'=true:=by
 unfold constT at h
 split at h <;> (first|(cases h;exact ⟨_,rfl,rfl,rfl⟩)|cases h)
theorem Sim1.get (S:Sim1 u w0 Z0 σ a w Z β κ) {x:Operand} {v:TV} (h:σ.get x=some v):RepT w Z β κ v (a.eval x):=by
 cases x with
 | tmp t=>exact (S.tm t v h).2
 | const u =>
  obtain ⟨u',rfl,rfl,h1⟩:=constT_sound h
  exact Rep.lit h1
 | global g=>cases h;exact Rep.lit rfl
 | func f =>
  cases h
  exact Rep.fn rfl (fun j hj=>by simp at hj) rfl (fun j hj=>by simp at hj)
theorem Sim1.lit (S:Sim1 u w0 Z0 σ a w Z β κ) {x:Operand} {v:Value} (h:σ.get x=some (.av (.lit v))):a.eval x=v:=by
 have:=S.get h
 cases this
 rfl
theorem rep_none {k:Nat} {l:Bool}:Rep w Z (match l with|true=>.nat []|false=>.sl k []) (.slice none 0 0):=by
 cases l
 ·exact .nil
 ·exact Rep.nat (l:=[]) (Rd.nil _ _) (by simp) (fun _ _ _ j hj=>by simp at hj)
theorem normA_sound {T:TyTab} {ty:TypeId} {x:AV} {v:Value} (h:Rep w Z x v):Rep w Z (normA T ty x) v:=by
 unfold normA
 split
 ·cases h
  split
  ·exact rep_none
  ·exact .lit rfl
 ·exact h
theorem run_under {P:Program} {ty:TypeId} {d:TypeDesc} (h:P.underlying ty=some d) (w:World):(underlying ty).run P w=.ok d w:=by
 simp [underlying,h]
theorem run_size {P:Program} {ty:TypeId} {i:TypeInfo} (h:P.info? ty=some i) (w:World):(Go.sizeOf ty).run P w=.ok i.size w:=by
 simp [Go.sizeOf,typeInfo,h]
theorem run_isAgg {P:Program} {ty:TypeId} {i:TI} (h:TIOK P ty i) (w:World):(isAgg ty).run P w=.ok (match i.kind with|.strct _=>true|.arr _ _ _=>true|_=>false) w:=by
 have hu:=h.und
 cases hk:i.kind <;> rw [hk]at hu <;> simp only at hu
 ·obtain ⟨d,h1,h2⟩:=hu
  simp only [isAgg,Sem.run_bind,run_under h1,Result.andThen_ok]
  cases d <;> simp_all
 ·simp [isAgg,run_under hu]
 ·simp [isAgg,run_under hu]
 ·simp [isAgg,run_under hu]
 ·obtain ⟨fds,h1,_⟩:=hu
  simp [isAgg,run_under h1]
 ·simp [isAgg,run_under hu.1]
 ·simp [isAgg,run_under hu.1]
 ·simp [isAgg,run_under hu]
def CellsAt (w:World) (Z:Zone) (b o:Nat) (cs:List AV):Prop:=∀q (hq:q<cs.length),∃u,w.cell? ⟨b,o+q,none⟩=some u∧Rep w Z (cs[q]'hq) u
theorem CellsAt.drop {b o n:Nat} {cs:List AV} (h:CellsAt w Z b o cs):CellsAt w Z b (o+n) (cs.drop n):=by
 intro q hq
 simp at hq
 obtain ⟨u,h1,h2⟩:=h (n+q) (by omega)
 exact ⟨u,by rw [Nat.add_assoc];exact h1,by rw [List.getElem_drop];exact h2⟩
theorem Loc.cellsAt {g:Nat} {cs:List AV} (h:Loc w Z g cs):CellsAt w Z g 0 cs:=by
 obtain ⟨vs,ty,hb,hr⟩:=h.ex
 cases hr with
 | agg hl hr =>
  intro q hq
  refine ⟨vs[q]'(by omega),?_,hr q hq⟩
  rw [Nat.zero_add,hb.cell]
  exact Array.getElem?_eq_getElem (by omega)
theorem Own.cellsAt {g cap k i o:Nat} {ov:OV} (h:Own w Z g cap ov) {cs:List AV} (hl:ov.look k i o=some cs):CellsAt w Z g (i*k+o) cs:=by
 cases ov with
 | map kd m=>cases hl
 | row e k' es =>
  simp only [OV.look]at hl
  split at hl
  ·rename_i hk
   subst hk
   simp only [Option.map_eq_some_iff]at hl
   obtain ⟨x,hx,rfl⟩:=hl
   obtain ⟨hi,rfl⟩:=List.getElem?_eq_some_iff.1 hx
   obtain ⟨cur,h1,_,_,_,_,_,_,h8⟩:=h
   have hb:Box w g cur e:=h1
   have hrow:=(h8 i hi).2.2
   have:CellsAt w Z g (i*k') (es[i]'hi).cells:=fun q hq=>by
    obtain ⟨u,q1,q2⟩:=hrow q hq
    exact ⟨u,by rw [hb.cell];exact q1,q2⟩
   exact this.drop
  ·cases hl
 | limb e l =>
  simp only [OV.look]at hl
  split at hl
  ·rename_i hk
   obtain ⟨rfl,rfl⟩:=hk
   simp only [Option.map_eq_some_iff]at hl
   obtain ⟨x,hx,rfl⟩:=hl
   obtain ⟨hi,rfl⟩:=List.getElem?_eq_some_iff.1 hx
   obtain ⟨cur,h1,_,_,_,_,_,h8⟩:=h
   have hb:Box w g cur e:=h1
   intro q hq
   have:q=0:=by simp at hq;exact hq
   subst this
   exact ⟨_,by rw [hb.cell,Nat.mul_one];exact h8 i hi,.lit rfl⟩
  ·cases hl
theorem look_sound (S:Sim1 u w0 Z0 σ a w Z β κ) {x:Operand} {cs:List AV} (h:σ.look (σ.get x)=some cs):∃b o,a.eval x=.pointer (some ⟨b,o,none⟩)∧CellsAt w Z b o cs:=by
 cases hx:σ.get x with
 | none=>rw [hx]at h;cases h
 | some y =>
  rw [hx]at h
  have hg:=S.get hx
  cases y with
  | av y =>
   cases y with
   | ptr cs' =>
    cases h
    have hg':Rep w Z (.ptr cs) (a.eval x):=hg
    generalize a.eval x=v at *
    cases hg' with
    | ptr vs hm hr=>exact ⟨_,_,rfl,fun q hq=>⟨vs q,(hm q hq).1,hr q hq⟩⟩
   | _=>cases h
  | skip=>cases h
  | osl t k off len=>cases h
  | omap t=>cases h
  | avl b=>cases h
  | ref t off =>
   simp only [AS.look,Option.map_eq_some_iff]at h
   obtain ⟨cs0,h1,rfl⟩:=h
   have:=(S.mem t cs0 h1).2.cellsAt.drop (n:=off)
   rw [Nat.zero_add]at this
   exact ⟨_,_,hg,this⟩
  | oref t k i o =>
   simp only [AS.look,Option.bind_eq_some_iff]at h
   obtain ⟨ov,h1,h2⟩:=h
   exact ⟨_,_,hg,(S.own t ov h1).2.cellsAt h2⟩
theorem lookG_sound (S:Sim1 u w0 Z0 σ a w Z β κ) (hG:GlobOK w) {x:Operand} {cs:List AV} (h:σ.lookG (σ.get x)=some cs):∃b o,a.eval x=.pointer (some ⟨b,o,none⟩)∧CellsAt w Z b o cs:=by
 unfold AS.lookG at h
 split at h
 ·rename_i g off hx
  obtain ⟨cs0,h1,rfl⟩:=Option.map_eq_some_iff.1 h
  refine ⟨g,off,S.lit hx,fun q hq=>?_⟩
  rw [List.length_map]at hq
  have hq2:off+q<cs0.length:=by rw [List.length_drop]at hq;omega
  have e:(cs0.drop off)[q]=cs0[off+q]:=by simp
  obtain ⟨e1,e2⟩:=hG g cs0 h1 (off+q) cs0[off+q] (List.getElem?_eq_getElem hq2)
  refine ⟨_,e1,?_⟩
  simp only [List.getElem_map,e]
  exact Rep.lit e2
 ·exact look_sound S h
theorem run_loadVar_A {ty:TypeId} {i:TI} (h:TIOK C.P ty i) {b o:Nat} {cs:List AV} (hc:CellsAt w Z b o cs) {x:AV} (ht:takeA i cs=some x) :
  ∃u,(loadVar ty ⟨b,o,none⟩).run C.P w=.ok u w∧Rep w Z x u:=by
 obtain ⟨info,zv,h1,h2,_⟩:=h.inf
 have ha:=run_isAgg h w
 have many:i.zero.length≤cs.length→x=.agg (cs.take i.zero.length)→(isAgg ty).run C.P w=.ok true w→∃u,(loadVar ty ⟨b,o,none⟩).run C.P w=.ok u w∧Rep w Z x u:=fun hle hx ha=>by
  subst hx
  have hc':∀q,q<i.zero.length→∃u,w.cell? ⟨b,o+q,none⟩=some u∧∀hq:q<cs.length,Rep w Z (cs[q]'hq) u:=fun q hq=>by
   obtain ⟨u,q1,q2⟩:=hc q (by omega)
   exact ⟨u,q1,fun _=>q2⟩
  have hf:∃f:Nat→Value,∀q,q<i.zero.length→w.cell? ⟨b,o+q,none⟩=some (f q)∧∀hq:q<cs.length,Rep w Z (cs[q]'hq) (f q) :=
   ⟨fun q=>if hq:q<i.zero.length then (hc' q hq).choose else undef,fun q hq=>by simp only [hq,dif_pos];exact (hc' q hq).choose_spec⟩
  obtain ⟨f,hf⟩:=hf
  refine ⟨.agg ((List.range i.zero.length).map f).toArray,?_,?_⟩
  ·simp only [loadVar,Sem.run_bind,ha,Result.andThen_ok,if_true,run_size h1,h2]
   rw [run_loadCells w ⟨b,o,none⟩ i.zero.length f (fun j hj=>by rw [add_addr];exact (hf j hj).1)]
   rfl
  ·refine .agg (by simp;omega) fun j hj=>?_
   simp at hj
   simp only [List.getElem_toArray,List.getElem_map,List.getElem_range,List.getElem_take]
   exact (hf j (by omega)).2 _
 unfold takeA at ht
 split at ht
 ·rename_i fs hk
  rw [hk]at ha
  split at ht
  ·rename_i hle
   cases ht
   exact many hle rfl ha
  ·cases ht
 ·rename_i hk
  rw [hk]at ha
  split at ht
  ·rename_i hle
   cases ht
   exact many hle rfl ha
  ·cases ht
 ·rename_i hk1 hk2
  cases cs with
  | nil=>cases ht
  | cons c cs =>
   cases ht
   obtain ⟨u,q1,q2⟩:=hc 0 (by simp)
   rw [Nat.add_zero]at q1
   refine ⟨u,?_,q2⟩
   have ha':(isAgg ty).run C.P w=.ok false w:=by
    rw [ha]
    cases hkk:i.kind <;> first|rfl|exact absurd hkk (hk1 _)|exact absurd hkk (hk2 _ _ _)
   simp [loadVar,ha',q1]
end
section
variable {C:Ctx} {u:Bool} {w0:Base} {w:World} {Z0 Z:Zone} {σ:AS} {a:Act} {β:Nat→Nat} {κ:Nat→Nat × Nat}
theorem max_i64:IntKind.i64.max=9223372036854775807:=by decide
theorem run_eq_bool {P:Program} {ty:TypeId} (h:P.underlying ty=some .bool) (x y:Bool) (w:World):(Op.equal ty (.bool x) (.bool y)).run P w=.ok (x == y) w:=by
 show (Op.equalIn (9999+1) ty (.bool x) (.bool y)).run P w=_
 rw [Op.equalIn]
 simp only [Sem.run_bind,run_under h,Result.andThen_ok,Sem.run_pure]
theorem binR_sound {P:Program} {b:Bool} {op:BinOp} {ty:TypeId} {x y r:Value} (hb:b=true→P.underlying ty=some .bool) (h:binR b op x y r) (ox oy:Operand) (w:World) :
  (do eqGuard op ty ox oy x y;binOp op ty x y:Sem Value).run P w=.ok r w∧r.oneCell'=true:=by
 unfold binR at h
 split at h <;> first
  | exact h.elim
  | (obtain ⟨rfl,rfl⟩:=h;refine ⟨?_,rfl⟩;simp [eqGuard,binOp,Op.intArith,Op.intCmp,Op.intBits];done)
  | (obtain ⟨rfl,h0,rfl⟩:=h;refine ⟨?_,rfl⟩;simp [eqGuard,binOp,Op.intDiv,h0];done)
  | (obtain ⟨h0,rfl⟩:=h;refine ⟨?_,rfl⟩;simp [eqGuard,binOp,Op.shift,Int.not_lt.2 h0];done)
  | (subst h;refine ⟨?_,rfl⟩;simp [eqGuard,binOp,Op.stringOp];done)
  | (obtain ⟨h0,rfl⟩:=h;refine ⟨?_,rfl⟩;simp [eqGuard,binOp,Op.stringOp,max_i64];omega)
  | (obtain ⟨h0,rfl⟩:=h;refine ⟨?_,rfl⟩;simp [eqGuard,binOp,run_eq_bool (hb h0)])
theorem unR_sound {P:Program} {op:UnOp} {x r:Value} (h:unR op x r) (w:World):(Op.unary op x).run P w=.ok r w∧r.oneCell'=true:=by
 unfold unR at h
 split at h <;> first
  | exact h.elim
  | (subst h;exact ⟨by simp [Op.unary,Op.intArith],rfl⟩)
theorem isBoolT_sound {ty:TypeId} (h:isBoolT C.T ty=true):C.P.underlying ty=some .bool:=by
 unfold isBoolT at h
 split at h
 ·rename_i z hz
  exact (C.hT _ _ hz).und
 ·cases h
theorem splice_len {α:Type} {cs xs:List α} {o:Nat} (h:o+xs.length≤cs.length):(splice cs o xs).length=cs.length:=by simp [splice];omega
theorem splice_get? {α:Type} {cs xs:List α} {o:Nat} (h:o+xs.length≤cs.length) (j:Nat):(splice cs o xs)[j]? = if o≤j∧j<o+xs.length then xs[j-o]? else cs[j]?:=by
 unfold splice
 have ht:(cs.take o).length=o:=by simp;omega
 by_cases h1:j<o
 ·rw [if_neg (by omega),List.append_assoc,List.getElem?_append_left (by omega),List.getElem?_take_of_lt h1]
 ·rw [List.append_assoc,List.getElem?_append_right (by omega),ht]
  by_cases h2:j<o+xs.length
  ·rw [if_pos ⟨by omega,h2⟩,List.getElem?_append_left (by omega)]
  ·rw [if_neg (by omega),List.getElem?_append_right (by omega),List.getElem?_drop]
   congr 1
   omega
def layV (cells:Array Value) (off:Nat) (xs:Array Value):Array Value:=xs.zipIdx.foldl (fun cs (c,j)=>cs.setIfInBounds (off+j) c) cells
theorem layV_aux (off:Nat):∀(xs:List Value) (k:Nat) (cells:Array Value),
  ((xs.zipIdx k).foldl (fun cs (c,j)=>cs.setIfInBounds (off+j) c) cells).size=cells.size ∧
  ∀j,((xs.zipIdx k).foldl (fun cs (c,j)=>cs.setIfInBounds (off+j) c) cells)[j]? = if off+k≤j∧j<off+k+xs.length∧j<cells.size then xs[j-(off+k)]? else cells[j]?
 | [],k,cells=>by
  refine ⟨rfl,fun j=>?_⟩
  simp
  intro h1 h2
  omega
 | x :: xs,k,cells=>by
  obtain ⟨h1,h2⟩:=layV_aux off xs (k+1) (cells.setIfInBounds (off+k) x)
  simp only [List.zipIdx_cons,List.foldl_cons]
  refine ⟨by rw [h1];simp,fun j=>?_⟩
  rw [h2 j]
  by_cases e:j=off+k
  ·subst e
   simp
   by_cases hlt:off+k<cells.size
   ·simp [hlt,Array.getElem?_setIfInBounds]
    intro h
    omega
   ·simp [hlt,Array.getElem?_setIfInBounds]
  ·by_cases hc:off+k≤j∧j<off+k+(xs.length+1)∧j<cells.size
   ·have:off+(k+1)≤j∧j<off+(k+1)+xs.length∧j<(cells.setIfInBounds (off+k) x).size:=by simp;omega
    rw [if_pos this,if_pos (by simpa using hc)]
    have e2:j-(off+k)=(j-(off+(k+1)))+1:=by omega
    rw [e2,List.getElem?_cons_succ]
   ·have:¬(off+(k+1)≤j∧j<off+(k+1)+xs.length∧j<(cells.setIfInBounds (off+k) x).size):=by simp;omega
    rw [if_neg this,if_neg (by simpa using hc),Array.getElem?_setIfInBounds_ne (by omega)]
theorem layV_rep {cs:List AV} {vs:Array Value} {x:AV} {u:Value} {o:Nat} (h:Rep w Z (.agg cs) (.agg vs)) (hx:Rep w Z x u) (ho:o+x.cells.length≤cs.length):Rep w Z (.agg (splice cs o x.cells)) (.agg (layV vs o u.cells)):=by
 rw [Rep.agg_iff]at h ⊢
 obtain ⟨hl,hr⟩:=h
 obtain ⟨c1,c2⟩:=hx.cells
 obtain ⟨q1,q2⟩:=layV_aux o u.cells.toList 0 vs
 have e:layV vs o u.cells=(u.cells.toList.zipIdx 0).foldl (fun cs (c,j)=>cs.setIfInBounds (o+j) c) vs:=by
  unfold layV
  rw [←Array.foldl_toList]
  simp
 refine ⟨by rw [e,q1,hl,splice_len ho],fun j y v h1 h2=>?_⟩
 rw [splice_get? ho j]at h1
 rw [e,q2 j]at h2
 by_cases hh:o≤j∧j<o+x.cells.length
 ·rw [if_pos hh]at h1
  rw [if_pos ⟨by omega,by simp;omega,by omega⟩]at h2
  obtain ⟨a1,a2⟩:=List.getElem?_eq_some_iff.1 h1
  simp only [Nat.add_zero,Array.getElem?_toList]at h2
  obtain ⟨a3,a4⟩:=Array.getElem?_eq_some_iff.1 h2
  subst a2 a4
  exact c2 _ a1 a3
 ·rw [if_neg hh]at h1
  rw [if_neg (by simp;omega)]at h2
  exact hr j y v h1 h2
theorem layV_eq {vs xs:Array Value} {o:Nat} (h:o+xs.size≤vs.size):layV vs o xs=(splice vs.toList o xs.toList).toArray:=by
 obtain ⟨q1,q2⟩:=layV_aux o xs.toList 0 vs
 have e:layV vs o xs=(xs.toList.zipIdx 0).foldl (fun cs (c,j)=>cs.setIfInBounds (o+j) c) vs:=by
  unfold layV
  rw [←Array.foldl_toList]
  simp
 apply Array.ext_getElem?
 intro j
 rw [e,q2 j]
 simp only [List.getElem?_toArray]
 rw [splice_get? (by simpa using h)]
 by_cases hh:o≤j∧j<o+xs.size
 ·rw [if_pos ⟨by omega,by simp;omega,by omega⟩,if_pos (by simpa using hh)]
  simp
 ·rw [if_neg (by simp;omega),if_neg (by simpa using hh)]
  simp
theorem fill_sound (S:Sim1 u w0 Z0 σ a w Z β κ) {fs:List (Nat × Nat × TypeId)} {place:Nat→Option (Nat × Nat)} (hp:∀(f o n:Nat) (t:TypeId),fs[f]? = some (o,n,t)→place f=some (o,n)) :
  ∀(parts:List (Nat × Operand)) (cs:List AV) (vs:Array Value) (cs':List AV),Rep w Z (.agg cs) (.agg vs)→fillA C.T σ fs cs parts=some cs' →
   ∃vs',Instr.fill place vs (parts.map fun (i,x)=>(i,a.eval x))=some vs'∧Rep w Z (.agg cs') (.agg vs')
 | [],cs,vs,cs',hr,h=>by
  cases h
  exact ⟨vs,rfl,hr⟩
 | (f,x) :: rest,cs,vs,cs',hr,h=>by
  unfold fillA at h
  split at h
  ·rename_i o n t y h1 h2
   split at h
   ·rename_i hc
    have hg:Rep w Z y (a.eval x):=S.get h2
    have hn:=normA_sound (T:=C.T) (ty:=t) hg
    have hl:=hn.cells.1
    have hr':=layV_rep (o:=o) hr hn (by omega)
    obtain ⟨vs',q1,q2⟩:=fill_sound S hp rest _ _ cs' hr' h
    refine ⟨vs',?_,q2⟩
    simp only [List.map_cons,Instr.fill,hp f o n t h1]
    have hsz:vs.size=cs.length:=by cases hr with|agg hl _=>exact hl
    rw [if_neg (by simp;omega)]
    exact q1
   ·cases h
  ·cases h
theorem run_zero {ty:TypeId} {i:TI} (h:TIOK C.P ty i) (w:World):∃zv,(zeroValue ty).run C.P w=.ok zv w∧∀w Z,Rep w Z (.agg i.zero) (.agg zv.cells):=by
 obtain ⟨info,zv,h1,_,_,h3,h4⟩:=h.inf
 exact ⟨zv,by simp [zeroValue,typeInfo,h1,h3],h4⟩
end
end Go.Proofs.YtmekiphpjpblpaaGreat
