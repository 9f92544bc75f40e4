import Derived.Test.YtmekiphpjpblpaaGreatEVC
import Derived.Laws.AppendOwn
import Derived.Laws.OwnMore
/- Text VD. -/
set_option linter.unusedSimpArgs false
set_option linter.unusedVariables false
set_option maxHeartbeats 40000000
set_option maxRecDepth 100000
namespace Go.Proofs.YtmekiphpjpblpaaGreat
open Go.RowKit Lim
def grown (Z:Zone) (w w':World):Zone:=fun b o=>Z b o∨(w.heap.size≤b∧b<w'.heap.size)
def FnOK (P : Program) (f : FuncId) : Prop := ∃ fn, P.funcs[f]? = some fn ∧ (fn.name == "runtime.NumGoroutine") = false ∧ fn.body.isNone = false
def ACalls (C:Ctx) (f:FuncId) (args:List AV) (r:AV):Prop :=
 FnOK C.P f∧∀w Z vs,C.E w→(∀b o,Z b o→b<w.heap.size)→(C.u=true→AllLimbs Z w)→Rep w Z (.agg args) (.agg vs) →
  Calls C.P f vs w fun e w'=>∃v,e=.returned v∧Below w.heap.size w w'∧Rep w' (grown Z w w') r v
def Ctx.t (C:Ctx):Ctx:={ C with u:=false }
theorem ACalls.ofT {C:Ctx} {f:FuncId} {args:List AV} {r:AV} (h:ACalls C.t f args r):ACalls C f args r :=
 ⟨h.1,fun w Z vs hE hz _ hr=>h.2 w Z vs hE hz (fun h=>by cases h) hr⟩
def AV.flat:AV→Bool
 | .lit _=>true
 | .nat l=>l.isEmpty
 | .sl _ es=>es.isEmpty
 | .agg []|.tup []=>true
 | .agg [a]|.tup [a]=>a.flat
 | .agg [a,b]|.tup [a,b]=>a.flat && b.flat
 | .tup [a,b,c]=>a.flat && b.flat && c.flat
 | _=>false
theorem Rep.flat:∀{a:AV} {w:World} {Z Z':Zone} {v:Value},a.flat=true→Rep w Z a v→Rep w Z' a v:=by
 intro a
 have key:∀n (a:AV),SizeOf.sizeOf a≤n→∀{w:World} {Z Z':Zone} {v:Value},a.flat=true→Rep w Z a v→Rep w Z' a v:=by
  intro n
  induction n with
  | zero=>intro a hn;cases a <;> simp at hn <;> omega
  | succ n ih =>
   intro a hn w Z Z' v hf h
   have many:∀(cs:List AV) (vs:Array Value),(∀c∈cs,SizeOf.sizeOf c≤n∧c.flat=true)→(∀j (hj:j<cs.length) (hj':j<vs.size),Rep w Z (cs[j]'hj) (vs[j]'hj'))→∀j (hj:j<cs.length) (hj':j<vs.size),Rep w Z' (cs[j]'hj) (vs[j]'hj'):=fun cs vs hc hr j hj hj' =>
    ih _ (hc _ (List.getElem_mem hj)).1 (hc _ (List.getElem_mem hj)).2 (hr j hj hj')
   cases h with
   | lit hv=>exact .lit hv
   | nat h hc hz =>
    rename_i l A c
    cases l with
    | nil=>exact Rep.nat (l:=[]) (Rd.nil _ _) (by simp) (fun _ _ _ j hj=>by simp at hj)
    | cons=>simp [AV.flat]at hf
   | nil=>exact .nil
   | sl vs hb hc hk hm hr =>
    rename_i k es b off c
    cases es with
    | nil=>exact .nil
    | cons=>simp [AV.flat]at hf
   | agg hl hr =>
    rename_i cs vs
    refine .agg hl fun j hj=>many cs vs ?_ (fun j hj _=>hr j hj) j hj (by omega)
    intro c hc
    match cs,hn,hf,hc with
    | [a],hn,hf,hc=>simp at hc;subst hc;simp at hn;exact ⟨by omega,by simpa [AV.flat]using hf⟩
    | [a,b],hn,hf,hc =>
     simp only [AV.flat,Bool.and_eq_true]at hf
     simp at hn hc
     rcases hc with rfl|rfl
     ·exact ⟨by omega,hf.1⟩
     ·exact ⟨by omega,hf.2⟩
    | a :: b :: c :: l,hn,hf,hc=>simp [AV.flat]at hf
   | tup hl hr =>
    rename_i cs vs
    refine .tup hl fun j hj=>many cs vs ?_ (fun j hj _=>hr j hj) j hj (by omega)
    intro c hc
    match cs,hn,hf,hc with
    | [a],hn,hf,hc=>simp at hc;subst hc;simp at hn;exact ⟨by omega,by simpa [AV.flat]using hf⟩
    | [a,b],hn,hf,hc =>
     simp only [AV.flat,Bool.and_eq_true]at hf
     simp at hn hc
     rcases hc with rfl|rfl
     ·exact ⟨by omega,hf.1⟩
     ·exact ⟨by omega,hf.2⟩
    | [a,b,d],hn,hf,hc =>
     simp only [AV.flat,Bool.and_eq_true]at hf
     simp at hn hc
     rcases hc with rfl|rfl|rfl
     ·exact ⟨by omega,hf.1.1⟩
     ·exact ⟨by omega,hf.1.2⟩
     ·exact ⟨by omega,hf.2⟩
    | a :: b :: c :: d :: l,hn,hf,hc=>simp [AV.flat]at hf
   | ifc hr=>simp [AV.flat]at hf
   | fn _ _ _ _=>simp [AV.flat]at hf
   | ptr _ _ _=>simp [AV.flat]at hf
   | lnk _ _=>simp [AV.flat]at hf
 intro w Z Z' v hf h
 exact key _ a (Nat.le_refl _) hf h
def AS.argT (T:TyTab) (σ:AS) (ty:TypeId):TV→Option AV
 | .av a=>some (normA T ty a)
 | .osl t k off len=>(match σ.own t with|some ov=>if ov.k=k∧off+len≤ov.len then some (ov.part off len) else none|none=>none)
 | _=>none
def usedT:Option TV→List Nat
 | some (.osl t _ _ _)=>[t]
 | _=>[]
def AS.argV (T:TyTab) (σ:AS) (ty:TypeId) (x:Operand):Option AV:=(σ.get x).bind (σ.argT T ty)
def AS.usedV (σ:AS) (x:Operand):List Nat:=usedT (σ.get x)
def frzT (σ:AS) (ts:List Nat):TV→Option TV
 | .osl t k off len=>if ts.contains t then (match σ.own t with|some ov=>if ov.k=k∧off+len≤ov.len then some (.av (ov.part off len)) else none|none=>none) else some (.osl t k off len)
 | .oref t k i o=>if ts.contains t then none else some (.oref t k i o)
 | x=>some x
def AS.frz (σ:AS) (ts:List Nat):AS:={ σ with tm:=fun x=>(σ.tm x).bind (frzT σ ts),own:=fun t=>if ts.contains t then none else σ.own t }
theorem frz_nil (σ:AS):σ.frz []=σ:=by
 obtain ⟨tm,mem,own⟩:=σ
 simp only [AS.frz,List.contains_nil,Bool.false_eq_true,if_false]
 congr 1
 funext x
 cases h:tm x with
 | none=>rfl
 | some v=>cases v <;> rfl
def AS.args (T:TyTab) (σ:AS):List Operand→List TypeId→Option (List AV)
 | [],_=>some []
 | x :: xs,tys =>
  match σ.argV T (tys.headD 0) x with
  | some a=>(AS.args T σ xs tys.tail).map (a :: ·)
  | none=>none
def AS.usedL (σ:AS):List Operand→List Nat
 | []=>[]
 | x :: xs=>σ.usedV x ++ σ.usedL xs
def fillV (T:TyTab) (σ:AS) (fs:List (Nat × Nat × TypeId)):List AV→List (Nat × Operand)→Option (List AV)
 | cs,[]=>some cs
 | cs,(f,x) :: rest =>
  match fs[f]? with
  | some (o,n,t)=>(match σ.argV T t x with
   | some a=>if a.cells.length=n∧o+n≤cs.length then fillV T σ fs (splice cs o a.cells) rest else none
   | none=>none)
  | none=>none
def natsR:List AV→List Nat→Prop
 | [],l=>l=[]
 | .lit (.int .u32 x) :: es,l=>0≤x∧x<4294967296∧∃l',natsR es l'∧l=x.toNat :: l'
 | _,_=>False
def places (k:Nat) (e:TypeId):Nat→Nat→List (Nat × Nat × TypeId)
 | 0,_=>[]
 | n+1,o=>(o,k,e) :: places k e n (o+k)
def baseT (σ:AS) (e:TypeId) (k:Nat) (lim:Bool):TV→Option (Option Nat × OV)
 | .av (.lit (.slice none 0 0))=>(match lim with|true=>if k=1 then some (none,.limb e []) else none|false=>some (none,.row e k []))
 | .osl t k' off len=>(match σ.own t with
  | some (.row e' k2 es)=>if e'=e∧k2=k∧k'=k∧off=0∧len=es.length∧lim=false then some (some t,.row e k es) else none
  | some (.limb e' l)=>if e'=e∧k'=1∧k=1∧off=0∧len=l.length∧lim=true then some (some t,.limb e l) else none
  | _=>none)
 | _=>none
def OV.app:OV→AV→Option OV
 | .row e k es,.sl k' ys=>if k'=k∧ys.all (fun y=>y.cells.all AV.one && y.cells.all AV.noLimb)=true then some (.row e k (es ++ ys)) else none
 | .limb e l,.nat ys=>some (.limb e (l ++ ys))
 | _,_=>none
def OV.over (off:Nat):OV→AV→Option OV
 | .row e k es,.sl k' ys=>if k'=k∧off+ys.length≤es.length∧ys.all (fun y=>y.cells.all AV.one && y.cells.all AV.noLimb)=true then some (.row e k (es.take off ++ ys ++ es.drop (off+ys.length))) else none
 | .limb e l,.nat ys=>if off+ys.length≤l.length then some (.limb e (l.take off ++ ys ++ l.drop (off+ys.length))) else none
 | _,_=>none
def takeSl (n:Nat):AV→Option (Nat × AV)
 | .sl k ys=>some (min n ys.length,.sl k (ys.take n))
 | .nat ys=>some (min n ys.length,.nat (ys.take n))
 | _=>none
def Meth (P:Program) (t:TypeId) (name:String) (a:AV) (f:FuncId) (a':AV):Prop :=
 ∀w Z v,Rep w Z a v→∃v',(method (P.types.size+Made.depth) t v name).run P w=.ok (f,v') w∧Rep w Z a' v'
def tgt (C:Ctx) (σ:AS) (c:Callee) (f:FuncId) (pre post:List AV):Prop :=
 match c with
 | .value x=>σ.get x=some (.av (.fn (.func f) pre post))
 | .invoke x name=>∃t a a',σ.get x=some (.av (.ifc t a))∧Meth C.P t name a f a'∧pre=[a']∧post=[]
 | .builtin _=>False
def Con (C:Ctx) (σ:AS) (f:FuncId) (args:List AV) (r:AV):Prop:=ACalls C.t f args r∨ACalls C f args r∧∀t ov,σ.own t=some ov→ov.hot=false
def callS (C:Ctx) (dr:Bool) (d:Option Nat) (c:Call) (σ:AS) (K:AS→Prop):Prop :=
 ∃f pre post args r,tgt C σ c.callee f pre post∧σ.args C.T c.args.toList c.argTypes.toList=some args∧Con C σ f (pre ++ args ++ post) r ∧
       (r.flat=true∨(dr=true→σ.usedL c.args.toList=[]))∧K ((if r.flat then σ else σ.frz (σ.usedL c.args.toList)).put d (.av r))
def astep (C:Ctx) (dr:Bool) (o:Oper) (σ:AS) (K:AS→Prop):Prop :=
 match o.op with
 | .alloc ty=>∃t i,o.dst=some t∧C.T ty=some i∧i.zero.all AV.one=true∧i.zero.all AV.noLimb=true∧K (σ.new t i.zero)
 | .box ty x=>∃t y,o.dst=some t∧σ.argV C.T ty x=some y∧(dr=true→σ.usedV x=[])∧y.cells.all AV.one=true∧y.cells.all AV.noLimb=true∧K ((σ.frz (σ.usedV x)).new t y.cells)
 | .store ty x y=>∃i z,C.T ty=some i∧σ.argV C.T ty y=some z∧(dr=true→σ.usedV y=[])∧z.cells.length=i.zero.length∧z.cells.all AV.one=true ∧
   (match σ.get x with
    | some (.ref t off)=>z.cells.all AV.noLimb=true∧∃cs,σ.mem t=some cs∧off+z.cells.length≤cs.length∧K (((σ.frz (σ.usedV y)).setMem t (splice cs off z.cells)).put o.dst .skip)
    | some (.oref t k j q)=>(σ.usedV y).contains t=false∧(match σ.own t with
     | some (.row e k' es)=>k'=k∧z.cells.all AV.noLimb=true∧∃el,es[j]? = some el∧q+z.cells.length≤k∧K (((σ.frz (σ.usedV y)).setOwn t (.row e k (es.set j (mkEl k (splice el.cells q z.cells))))).put o.dst .skip)
     | some (.limb e l)=>k=1∧q=0∧j<l.length∧∃n,z=.lit (.int .u32 n)∧0≤n∧n<4294967296∧K (((σ.frz (σ.usedV y)).setOwn t (.limb e (l.set j n.toNat))).put o.dst .skip)
     | _=>False)
    | _=>False)
 | .build ty parts=>∃fs z b cs,C.T ty=some ⟨.strct fs,z,b⟩∧fillV C.T σ fs z parts.toList=some cs∧(dr=true→σ.usedL (parts.toList.map (·.2))=[])∧K ((σ.frz (σ.usedL (parts.toList.map (·.2)))).put o.dst (.av (.agg cs)))
 | .buildSlice ty n parts=>∃e k l z b i cs,C.T ty=some ⟨.slc e k l,z,b⟩∧C.T e=some i∧i.zero.length=k∧0<k∧n*k≤16777216 ∧
   fillV C.T σ (places k e n 0) (List.replicate n i.zero).flatten parts.toList=some cs∧cs.all AV.one=true∧(dr=true→σ.usedL (parts.toList.map (·.2))=[]) ∧
   (match l with
    | true=>k=1∧∃ns,natsR cs ns∧K ((σ.frz (σ.usedL (parts.toList.map (·.2)))).put o.dst (.av (.nat ns)))
    | false=>K ((σ.frz (σ.usedL (parts.toList.map (·.2)))).put o.dst (.av (.sl k (chunk k n cs)))))
 | .makeSlice ty x y=>∃t e k l z b i q1 q2 n m,o.dst=some t∧C.T ty=some ⟨.slc e k l,z,b⟩∧C.T e=some i∧i.zero.length=k∧0<k∧σ.get x=some (.av (.lit (.int q1 n)))∧σ.get y=some (.av (.lit (.int q2 m)))∧0≤n∧n≤m∧m*i.bytes≤140737488355328∧m≤9223372036854775807 ∧
   (match l with
    | true=>k=1∧i.zero=[.lit (.int .u32 0)]∧K (σ.newOwn none t (.limb e (List.replicate n.toNat 0)))
    | false=>i.zero.all AV.one=true∧i.zero.all AV.noLimb=true∧K (σ.newOwn none t (.row e k (List.replicate n.toNat (mkEl k i.zero)))))
 | .makeMap ty r=>∃t k e z b ki,o.dst=some t∧C.T ty=some ⟨.map k e,z,b⟩∧C.T k=some ki∧(∀x,r=some x→∃q n,σ.get x=some (.av (.lit (.int q n))))∧K (σ.newMap t (.map ki.kind []))
 | .mapUpdate ty x q y=>∃k e z b ki t m kv yv,C.T ty=some ⟨.map k e,z,b⟩∧C.T k=some ki∧σ.get x=some (.omap t)∧σ.own t=some (.map ki.kind m)∧σ.get q=some (.av (.lit kv))∧keyB ki.kind kv=true∧σ.argV C.T e y=some yv∧(dr=true→σ.usedV y=[])∧(σ.usedV y).contains t=false∧K (((σ.frz (σ.usedV y)).setOwn t (.map ki.kind (mputA m kv yv))).put o.dst .skip)
 | .call c=>(match c.callee with
  | .value _=>callS C dr o.dst c σ K
  | .builtin .append=>∃d x y ty ty' e k l z b i xv s ov yv ov',o.dst=some d∧c.args=#[x,y]∧c.argTypes=#[ty,ty']∧ty'=ty∧C.T ty=some ⟨.slc e k l,z,b⟩∧C.T e=some i∧i.zero.length=k∧0<k∧σ.get x=some xv∧baseT σ e k l xv=some (s,ov)∧σ.argV C.T ty y=some yv ∧
    ov.app yv=some ov'∧ov.len<ov'.len∧ov'.len*i.bytes≤140737488355328∧ov'.len≤9223372036854775807∧(l=false→i.zero.all AV.noLimb=true)∧K (σ.newOwn s d ov')
  | .builtin .copy=>∃x y ty ty' e k l z b t off n ov yv m yv' ov',c.args=#[x,y]∧c.argTypes=#[ty,ty']∧C.T ty=some ⟨.slc e k l,z,b⟩∧σ.get x=some (.osl t k off n)∧σ.own t=some ov∧ov.k=k∧off+n≤ov.len∧σ.argV C.T ty y=some yv∧takeSl n yv=some (m,yv')∧ov.over off yv'=some ov'∧K ((σ.setOwn t ov').put o.dst (.av (.lit (.int .i64 (m:Nat)))))
  | .invoke _ _=>callS C dr o.dst c σ K
  | _=>∃v,aval C σ o v∧K (σ.put o.dst v))
 | _=>∃v,aval C σ o v∧K (σ.put o.dst v)
end Go.Proofs.YtmekiphpjpblpaaGreat
