import Derived.Test.YtmekiphpjpblpaaGreatEVN
/- Text VO. -/
set_option linter.unusedSimpArgs false
set_option linter.unusedVariables false
set_option maxHeartbeats 40000000
set_option maxRecDepth 100000
namespace Go.Proofs.YtmekiphpjpblpaaGreat
open Go.RowKit Lim
def ofT:List (Nat × Option TV)→Nat→Option TV
 | [],_=>none
 | (k,v) :: l,x=>if x=k then v else ofT l x
def startL:Nat→List AV→List (Nat × Option TV)
 | _,[]=>[]
 | k,a :: l=>(k,some (.av a)) :: startL (k+1) l
def start (args:List AV):AS:=⟨ofT (startL 0 args),ofL [],ofL []⟩
def resA (C:Ctx) (σ:AS):ResultVar→TypeId→Option AV
 | .tmp t,ty=>(σ.tm t).bind (σ.argT C.T ty)
 | .cell t ty,_=>(match C.T ty,σ.look (σ.tm t)with|some i,some cs=>takeA i cs|_,_=>none)
def resL (C:Ctx) (σ:AS):List ResultVar→List TypeId→Option (List AV)
 | [],_=>some []
 | x :: l,tys=>(match resA C σ x (tys.headD 0),resL C σ l tys.tail with|some a,some l'=>some (a :: l')|_,_=>none)
def resU (σ:AS):List ResultVar→List Nat
 | []=>[]
 | .tmp t :: l=>usedT (σ.tm t) ++ resU σ l
 | _ :: l=>resU σ l
def packA:List AV→AV
 | [a]=>a
 | l=>.tup l
def retA (C:Ctx) (fn:Func) (r:AV) (e:Exit) (σ:AS):Prop:=(e=.ret∨e=.normal)∧∃l,resL C σ fn.results.toList fn.resultTypes.toList=some l∧packA l=r
theorem startL_get:∀(args:List AV) (k x:Nat),ofT (startL k args) x=if k≤x then (args[x-k]?).map .av else none
 | [],k,x=>by simp [startL,ofT]
 | a :: l,k,x=>by
  simp only [startL,ofT]
  by_cases h:x=k
  ·subst h;simp
  ·rw [if_neg h,startL_get l (k+1) x]
   by_cases h2:k≤x
   ·rw [if_pos (by omega),if_pos h2]
    have:x-k=(x-(k+1))+1:=by omega
    rw [this,List.getElem?_cons_succ]
   ·rw [if_neg (by omega),if_neg h2]
theorem start_get (args:List AV) (x:Nat):(start args).tm x=(args[x]?).map .av:=by
 have:=startL_get args 0 x
 simpa [start]using this
section
variable {C:Ctx} {u:Bool} {w0:Base} {w:World} {Z0 Z:Zone} {σ:AS} {a:Act} {β:Nat→Nat} {κ:Nat→Nat × Nat}
def resG (a:Act):ResultVar→Sem Value
 | .tmp t=>pure (a.tmps.getD t undef)
 | .cell p t=>do loadVar t (←asAddr (a.tmps.getD p undef))
theorem resA_sound (S:Sim1 u w0 Z0 σ a w Z β κ) {ts:List Nat} {x:ResultVar} {ty:TypeId} {y:AV} (h:resA C σ x ty=some y) (hts:∀t∈resU σ [x],ts.contains t=true):∃u,(resG a x).run C.P w=.ok u w∧Rep w (frzZ σ κ ts Z) y u:=by
 cases x with
 | tmp t =>
  simp only [resA,Option.bind_eq_some_iff]at h
  obtain ⟨v,h1,h2⟩:=h
  refine ⟨_,rfl,argT_sound S (S.tm t v h1).2 h2 fun s hs=>hts s ?_⟩
  simp only [resU,h1,List.append_nil]
  exact hs
 | cell p t =>
  simp only [resA]at h
  split at h
  ·rename_i i cs h1 h2
   obtain ⟨b,o,e,hc⟩:=look_sound (x:=.tmp p) S h2
   obtain ⟨u,r1,r2⟩:=run_loadVar_A (C.hT _ _ h1) hc h
   have e':a.tmps.getD p undef=.pointer (some ⟨b,o,none⟩):=e
   exact ⟨u,by simp only [resG,e',asAddr,Sem.run_bind,Sem.run_pure,Result.andThen_ok,r1],r2.keep (Keeps.refl _ _) (frzZ_le _ _ _ _)⟩
  ·cases h
theorem resL_sound (S:Sim1 u w0 Z0 σ a w Z β κ) {ts:List Nat}:∀(xs:List ResultVar) (tys:List TypeId) (l:List AV),resL C σ xs tys=some l→(∀t∈resU σ xs,ts.contains t=true) →
  ∃f:ResultVar→Value,(∀x∈xs,(resG a x).run C.P w=.ok (f x) w)∧Rep w (frzZ σ κ ts Z) (.agg l) (.agg (xs.map f).toArray):=by
 intro xs tys l h hts
 refine ⟨fun x=>match (resG a x).run C.P w with|.ok u _=>u|_=>undef,?_⟩
 induction xs generalizing tys l with
 | nil =>
  cases h
  exact ⟨by simp,Rep.agg_iff.2 ⟨rfl,fun j x u h1=>by simp at h1⟩⟩
 | cons x xs ih =>
  simp only [resL]at h
  split at h
  ·rename_i y ys h1 h2
   cases h
   have hts1:∀t∈resU σ [x],ts.contains t=true:=fun t ht=>hts t (by
    cases x with
    | tmp s=>simp only [resU,List.append_nil]at ht ⊢;exact List.mem_append_left _ ht
    | cell p q=>simp [resU]at ht)
   have hts2:∀t∈resU σ xs,ts.contains t=true:=fun t ht=>hts t (by
    cases x with
    | tmp s=>simp only [resU];exact List.mem_append_right _ ht
    | cell p q=>simp only [resU];exact ht)
   obtain ⟨q1,q2⟩:=ih tys.tail ys h2 hts2
   obtain ⟨u,r1,r2⟩:=resA_sound S h1 hts1
   obtain ⟨l1,l2⟩:=Rep.agg_iff.1 q2
   refine ⟨fun z hz=>?_,Rep.agg_iff.2 ⟨by simpa using l1,fun j z v h3 h4=>?_⟩⟩
   ·rcases List.mem_cons.1 hz with rfl|hz
    ·simp only [r1]
    ·exact q1 z hz
   ·cases j with
    | zero =>
     simp at h3 h4
     subst h3
     rw [r1]at h4
     simp at h4
     subst h4
     exact r2
    | succ j =>
     simp at h3 h4
     exact l2 j z v h3 (by simpa using h4)
  ·cases h
theorem retA_sound (S:Sim1 u w0 Z0 σ a w Z β κ) {fn:Func} {r:AV} {e:Exit} (h:retA C fn r e σ):∃v,(results fn a.tmps).run C.P w=.ok v w∧Rep w (frzZ σ κ (resU σ fn.results.toList) Z) r v:=by
 obtain ⟨_,l,h1,rfl⟩:=h
 obtain ⟨f,q1,q2⟩:=resL_sound S (ts:=resU σ fn.results.toList) _ _ _ h1 contains_self
 have hm:(fn.results.mapM (resG a)).run C.P w=.ok (fn.results.map f) w:=by
  rw [Array.mapM_eq_foldlM,←Array.foldlM_toList,run_mapM (P:=C.P) _ f w fn.results.toList #[] q1]
  congr 1
  apply Array.ext'
  simp
 have hm':(results fn a.tmps).run C.P w=.ok (if h:(fn.results.map f).size=1 then (fn.results.map f)[0] else .tuple (fn.results.map f)) w:=by
  have:results fn a.tmps=(do let vs ←fn.results.mapM (resG a);pure (if h:vs.size=1 then vs[0] else .tuple vs)):=rfl
  rw [this,Sem.run_bind,hm]
  rfl
 obtain ⟨l1,l2⟩:=Rep.agg_iff.1 q2
 have e:(fn.results.toList.map f).toArray=fn.results.map f:=by apply Array.ext';simp
 rw [e]at q2 l1 l2
 refine ⟨_,hm',?_⟩
 by_cases hone:(fn.results.map f).size=1
 ·rw [dif_pos hone]
  have hl:l.length=1:=by omega
  obtain ⟨x,rfl⟩:∃x,l=[x]:=List.length_eq_one_iff.1 hl
  exact l2 0 x _ rfl (Array.getElem?_eq_getElem (by omega))
 ·rw [dif_neg hone]
  have:packA l=.tup l:=by
   unfold packA
   split
   ·simp at l1;exact absurd (by simpa using l1) hone
   ·rfl
  rw [this]
  exact .tup l1 fun j hj=>l2 j _ _ (List.getElem?_eq_getElem hj) (Array.getElem?_eq_getElem (by omega))
end
theorem ACalls.of_awp {C : Ctx} {f : FuncId} {fn : Func} {c : Code} (n : Scr) {args : List AV} {r : AV} (hf : C.P.funcs[f]? = some fn) (hb : fn.body = some c) (hnm : (fn.name == "runtime.NumGoroutine") = false) (hok : codeOK fn.ntmps c = true) (hl : args.length ≤ fn.ntmps)
  (h:awp C n c (retA C fn r) (start args)):ACalls C f args r:=by
 refine ⟨⟨fn,hf,hnm,by rw [hb];rfl⟩,fun w Z vs hE hz hal hr=>?_⟩
 refine calls_of_wp hf hb ?_
 obtain ⟨l1,l2⟩:=Rep.agg_iff.1 hr
 have S:Sim C.u ⟨w,fun _=>False,0,fun _=>undef⟩ Z fn.ntmps (start args) { tmps:=vs ++ Array.replicate (fn.ntmps-vs.size) undef,defers:=[] } w:=by
  refine ⟨⟨Z,fun _=>0,fun _=>(0,0),fun _ _ h=>h,fun _ _ h=>.inl h,fun t x hx=>?_,fun t cs hc=>by simp [start,ofL]at hc,fun t t' cs cs' hc=>by simp [start,ofL]at hc,fun t ov hc=>by simp [start,ofL]at hc,fun t t' ov ov' hc=>by simp [start,ofL]at hc,fun t t' cs ov hc=>by simp [start,ofL]at hc,fun hu b o v hc hl=>.inl (hal hu b o v hc hl),Base.Keep.refl _,rfl,fun t cs j n len hc=>by simp [start,ofL]at hc⟩,by simp;omega,fun t ht=>by cases ht⟩
  rw [start_get]at hx
  simp only [Option.map_eq_some_iff]at hx
  obtain ⟨y,hy,rfl⟩:=hx
  have hlt:=(List.getElem?_eq_some_iff.1 hy).1
  refine ⟨by simp;omega,?_⟩
  have hv:(vs ++ Array.replicate (fn.ntmps-vs.size) undef)[t]? = some (vs[t]'(by omega)):=by
   rw [Array.getElem?_append_left (by omega)]
   exact Array.getElem?_eq_getElem (by omega)
  have:(vs ++ Array.replicate (fn.ntmps-vs.size) undef).getD t undef=vs[t]'(by omega):=by
   simp only [Array.getD_eq_getD_getElem?,hv,Option.getD_some]
  rw [this]
  exact l2 t y _ hy (Array.getElem?_eq_getElem (by omega))
 refine wp_mono (awp_sound (w0:=⟨w,fun _=>False,0,fun _=>undef⟩) ⟨hE,fun _ _ h=>h⟩ hz c _ _ _ _ hok (dstsGe_zero c) h S) ?_
 rintro e a' w' ⟨he,σ',h1,⟨Z',β,κ,S'⟩,_⟩
 have hpost:a'.defers=[]∧∃v,(results fn a'.tmps).run C.P w'=.ok v w'∧∃u,Ending.returned v=.returned u∧Below w.heap.size w w'∧Rep w' (grown Z w w') r u:=by
  obtain ⟨v,r1,r2⟩:=retA_sound S' h1
  exact ⟨S'.defers,v,r1,v,rfl,S'.below.below,r2.keep (Keeps.refl _ _) fun b o hz=>((S'.frz (resU σ' fn.results.toList)).z1 b o hz).imp id fun ⟨q1,q2⟩=>⟨q1.elim id False.elim,q2⟩⟩
 rcases h1.1 with rfl|rfl
 ·exact hpost
 ·exact hpost
def zeroB:AV→Value→Bool
 | .lit (.int k n),.int k' n'=>decide (k=k') && decide (n=n')
 | .lit (.bool b),.bool b'=>b == b'
 | .lit (.string s),.string s'=>s.data.toList.isEmpty && s'.data.toList.isEmpty
 | .lit (.pointer none),.pointer none=>true
 | .lit .nilIface,.nilIface=>true
 | .lit .nilFunc,.nilFunc=>true
 | .lit (.map none),.map none=>true
 | .lit (.slice none 0 0),.slice none 0 0=>true
 | .nat [],.slice none 0 0=>true
 | .sl _ [],.slice none 0 0=>true
 | _,_=>false
theorem zeroB_sound {a:AV} {v:Value} (h:zeroB a v=true) (w:World) (Z:Zone):Rep w Z a v:=by
 unfold zeroB at h
 split at h
 ·simp at h;obtain ⟨rfl,rfl⟩:=h;exact .lit rfl
 ·simp at h;subst h;exact .lit rfl
 ·rename_i s s'
  simp at h
  have:s=s':=by
   cases s;cases s'
   simp at h
   rw [h.1,h.2]
  subst this
  exact .lit rfl
 ·exact .lit rfl
 ·exact .lit rfl
 ·exact .lit rfl
 ·exact .lit rfl
 ·exact .lit rfl
 ·exact Rep.nat (l:=[]) (Rd.nil _ _) (by simp) (fun _ _ _ j hj=>by simp at hj)
 ·exact .nil
 ·cases h
def zerosB:List AV→List Value→Bool
 | [],[]=>true
 | a :: as',v :: vs=>zeroB a v && zerosB as' vs
 | _,_=>false
theorem zerosB_sound:∀(as':List AV) (vs:List Value),zerosB as' vs=true→as'.length=vs.length∧∀(j:Nat) (a:AV) (v:Value),as'[j]? = some a→vs[j]? = some v→∀w Z,Rep w Z a v
 | [],[],_=>⟨rfl,fun j a v h=>by simp at h⟩
 | a :: l,v :: vs,h=>by
  simp only [zerosB,Bool.and_eq_true]at h
  obtain ⟨h1,h2⟩:=zerosB_sound l vs h.2
  refine ⟨by simp [h1],fun j x u hx hu=>?_⟩
  cases j with
  | zero=>simp at hx hu;subst hx hu;exact fun w Z=>zeroB_sound h.1 w Z
  | succ j=>simp at hx hu;exact h2 j x u hx hu
 | [],_ :: _,h=>by cases h
 | _ :: _,[],h=>by cases h
def fieldsB (P:Program):List (Nat × Nat × TypeId)→List Field→Bool
 | [],[]=>true
 | (o,n,t) :: l,f :: fs=>decide (f.offset=o) && decide (f.type=t) && decide (n≠0) && (match P.info? f.type with|some i=>decide (i.size=n)|none=>false) && fieldsB P l fs
 | _,_=>false
theorem fieldsB_sound {P:Program}:∀(l:List (Nat × Nat × TypeId)) (fs:List Field),fieldsB P l fs=true→l.length=fs.length∧∀(f o n:Nat) (t:TypeId),l[f]? = some (o,n,t)→∃fd:Field,fs[f]? = some fd∧fd.offset=o∧fd.type=t∧n≠0∧∃fi,P.info? fd.type=some fi∧fi.size=n
 | [],[],_=>⟨rfl,fun f o n t h=>by simp at h⟩
 | (o,n,t) :: l,f :: fs,h=>by
  simp only [fieldsB,Bool.and_eq_true,decide_eq_true_eq]at h
  obtain ⟨⟨⟨⟨h1,h2⟩,h3⟩,h4⟩,h5⟩:=h
  obtain ⟨q1,q2⟩:=fieldsB_sound l fs h5
  refine ⟨by simp [q1],fun j o' n' t' hj=>?_⟩
  cases j with
  | zero =>
   simp at hj
   obtain ⟨rfl,rfl,rfl⟩:=hj
   refine ⟨f,rfl,h1,h2,h3,?_⟩
   split at h4
   ·rename_i i hi
    exact ⟨i,hi,by simpa using h4⟩
   ·cases h4
  | succ j=>simp at hj;exact q2 j o' n' t' hj
 | [],_ :: _,h=>by cases h
 | _ :: _,[],h=>by cases h
def kindB (P:Program):TK→TypeDesc→Bool
 | .scal,d=>(match d with|.struct _|.array _ _=>false|_=>true)
 | .bool,.bool=>true
 | .int k,.int k'=>decide (k=k')
 | .str,.string=>true
 | .strct fs,.struct fds=>fieldsB P fs fds.toList
 | .slc e k _,.slice e'=>decide (e=e') && (match P.info? e with|some i=>decide (i.size=k)|none=>false)
 | .arr n e k,.array n' e'=>decide (n=n') && decide (e=e') && decide (k≠0) && (match P.info? e with|some i=>decide (i.size=k)|none=>false)
 | .map k e,.map k' e'=>decide (k=k') && decide (e=e')
 | _,_=>false
def tiB (P:Program) (ty:TypeId) (i:TI):Bool :=
 (match P.info? ty with
  | some info=>decide (info.size=i.zero.length) && decide (info.bytes=i.bytes) && (match info.zero with|some zv=>zerosB i.zero zv.cells.toList && (match i.kind with|.strct _|.arr _ _ _=>true|_=>zv.oneCell')|none=>false)
  | none=>false) &&
 (match P.underlying ty with
  | some d=>kindB P i.kind d
  | none=>false)
theorem tiB_sound {P:Program} {ty:TypeId} {i:TI} (h:tiB P ty i=true):TIOK P ty i:=by
 simp only [tiB,Bool.and_eq_true]at h
 obtain ⟨h1,h2⟩:=h
 refine ⟨?_,?_,?_⟩
 ·split at h1
  ·rename_i info hi
   simp only [Bool.and_eq_true,decide_eq_true_eq]at h1
   obtain ⟨⟨h3,hby⟩,h4⟩:=h1
   split at h4
   ·rename_i zv hz
    simp only [Bool.and_eq_true]at h4
    obtain ⟨q1,q2⟩:=zerosB_sound _ _ h4.1
    exact ⟨info,zv,hi,h3,hby,hz,fun w Z=>Rep.agg_iff.2 ⟨by simpa using q1.symm,fun j x u hx hu=>q2 j x u hx (by simpa using hu) w Z⟩⟩
   ·cases h4
  ·cases h1
 ·split at h2
  ·rename_i d hd
   cases hk:i.kind with
   | scal =>
    rw [hk]at h2
    refine ⟨d,hd,?_⟩
    simp only [kindB]at h2
    cases d <;> simp_all
   | bool=>rw [hk]at h2;cases d <;> first|exact hd|cases h2
   | int k =>
    rw [hk]at h2
    cases d <;> first|cases h2|skip
    rename_i k'
    simp [kindB]at h2
    subst h2
    exact hd
   | str=>rw [hk]at h2;cases d <;> first|exact hd|cases h2
   | strct fs =>
    rw [hk]at h2
    cases d <;> first|cases h2|skip
    rename_i fds
    obtain ⟨q1,q2⟩:=fieldsB_sound fs fds.toList h2
    refine ⟨fds,hd,by simpa using q1.symm,fun f o n t hf=>?_⟩
    obtain ⟨fd,v1,v2⟩:=q2 f o n t hf
    exact ⟨fd,by simpa using v1,v2⟩
   | slc e k l =>
    rw [hk]at h2
    cases d <;> first|cases h2|skip
    rename_i e'
    simp only [kindB,Bool.and_eq_true,decide_eq_true_eq]at h2
    obtain ⟨rfl,h2⟩:=h2
    refine ⟨hd,?_⟩
    split at h2
    ·rename_i ei he
     exact ⟨ei,he,by simpa using h2⟩
    ·cases h2
   | arr n e k =>
    rw [hk]at h2
    cases d <;> first|cases h2|skip
    rename_i n' e'
    simp only [kindB,Bool.and_eq_true,decide_eq_true_eq]at h2
    obtain ⟨⟨⟨rfl,rfl⟩,hk0⟩,h2⟩:=h2
    refine ⟨hd,?_⟩
    split at h2
    ·rename_i ei he
     exact ⟨ei,he,by simpa using h2,hk0⟩
    ·cases h2
   | map k e =>
    rw [hk]at h2
    cases d <;> first|cases h2|skip
    simp only [kindB,Bool.and_eq_true,decide_eq_true_eq]at h2
    obtain ⟨rfl,rfl⟩:=h2
    exact hd
  ·cases h2
 ·split at h1
  ·rename_i info hi
   simp only [Bool.and_eq_true,decide_eq_true_eq]at h1
   obtain ⟨_,h4⟩:=h1
   split at h4
   ·rename_i zv hz
    simp only [Bool.and_eq_true]at h4
    have h5:=h4.2
    cases hk:i.kind <;> rw [hk]at h5 <;> first|trivial|(intro info' zv' e1 e2;rw [hi]at e1;cases e1;rw [hz]at e2;cases e2;exact h5)
   ·cases h4
  ·cases h1
theorem ofL_all {P:Program}:∀(l:List (Nat × TI)),l.all (fun p=>tiB P p.1 p.2)=true→∀ty i,ofL l ty=some i→TIOK P ty i
 | [],_,ty,i,h=>by cases h
 | (k,v) :: l,h,ty,i,hi=>by
  simp only [List.all_cons,Bool.and_eq_true]at h
  simp only [ofL]at hi
  split at hi
  ·rename_i e
   cases hi
   subst e
   exact tiB_sound h.1
  ·exact ofL_all l h.2 ty i hi
def setL {α:Type}:List (Nat × α)→Nat→α→List (Nat × α)
 | [],t,v=>[(t,v)]
 | (k,u) :: l,t,v=>if k=t then (t,v) :: l else (k,u) :: setL l t v
theorem setL_ofL {α:Type} (t:Nat) (v:α):∀l:List (Nat × α),upd (ofL l) t (some v)=ofL (setL l t v)
 | []=>by
  funext x
  simp only [upd,ofL,setL]
 | (k,u) :: l=>by
  funext x
  have ih:=congrFun (setL_ofL t v l) x
  simp only [upd,ofL,setL]at ih ⊢
  by_cases h:k=t
  ·subst h
   simp only [if_true,ofL]
   split
   ·rfl
   ·rfl
  ·simp only [if_neg h,ofL]
   by_cases hx:x=k
   ·subst hx
    simp [h]
   ·simp only [if_neg hx]
    exact ih
def setT:List (Nat × Option TV)→Nat→TV→List (Nat × Option TV)
 | [],t,v=>[(t,some v)]
 | (k,u) :: l,t,v=>if k=t then (t,some v) :: l else (k,u) :: setT l t v
theorem setT_ofT (t:Nat) (v:TV):∀l:List (Nat × Option TV),upd (ofT l) t (some v)=ofT (setT l t v)
 | []=>by
  funext x
  simp only [upd,ofT,setT]
 | (k,u) :: l=>by
  funext x
  have ih:=congrFun (setT_ofT t v l) x
  simp only [upd,ofT,setT]at ih ⊢
  by_cases h:k=t
  ·subst h
   simp only [if_true,ofT]
   split
   ·rfl
   ·rfl
  ·simp only [if_neg h,ofT]
   by_cases hx:x=k
   ·subst hx
    simp [h]
   ·simp only [if_neg hx]
    exact ih
def prepL (n:Nat) (d:Bool) (bad:List Nat):List (Nat × Option TV)→List (Nat × Option TV)
 | []=>[]
 | (k,v) :: l=>if k<n then (k,v.bind (staleK d k bad)) :: prepL n d bad l else prepL n d bad l
theorem prepL_get (n:Nat) (d:Bool) (bad:List Nat):∀(l:List (Nat × Option TV)) (x:Nat),ofT (prepL n d bad l) x=if x<n then (ofT l x).bind (staleK d x bad) else none
 | [],x=>by simp [prepL,ofT]
 | (k,v) :: l,x=>by
  have ih:=prepL_get n d bad l x
  simp only [prepL]
  by_cases hk:k<n
  ·rw [if_pos hk]
   simp only [ofT]
   by_cases hx:x=k
   ·subst hx
    simp [hk]
   ·simp only [if_neg hx]
    exact ih
  ·rw [if_neg hk,ih]
   simp only [ofT]
   by_cases hx:x=k
   ·subst hx
    simp [hk]
   ·simp only [if_neg hx]
def staleT (t:Nat):List (Nat × Option TV)→List (Nat × Option TV)
 | []=>[]
 | (k,v) :: l=>(k,stale t v) :: staleT t l
theorem staleT_get (t:Nat):∀(l:List (Nat × Option TV)) (x:Nat),stale t (ofT l x)=ofT (staleT t l) x
 | [],x=>rfl
 | (k,v) :: l,x=>by
  simp only [ofT,staleT]
  split
  ·rfl
  ·exact staleT_get t l x
theorem prep_of (n:Nat) (d:Bool) (ops:Array Oper) (l:List (Nat × Option TV)) (m:Nat→Option (List AV)) (q:Nat→Option OV):prep n d ops ⟨ofT l,m,q⟩=⟨ofT (prepL n d (badOf d ops.toList) l),m,q⟩:=by
 simp only [prep]
 congr 1
 funext x
 exact (prepL_get n d _ l x).symm
theorem put_of (l:List (Nat × Option TV)) (m:Nat→Option (List AV)) (q:Nat→Option OV) (t:Nat) (v:TV):AS.put ⟨ofT l,m,q⟩ (some t) v=⟨ofT (setT l t v),m,q⟩:=by
 simp only [AS.put,setT_ofT]
theorem new_of (l:List (Nat × Option TV)) (m:List (Nat × List AV)) (q:Nat→Option OV) (t:Nat) (cs:List AV):AS.new ⟨ofT l,ofL m,q⟩ t cs=⟨ofT (setT (staleT t l) t (.ref t 0)),ofL (setL m t cs),q⟩:=by
 simp only [AS.new,setL_ofL]
 congr 1
 have:(fun x=>stale t (ofT l x))=ofT (staleT t l):=funext fun x=>staleT_get t l x
 rw [this,setT_ofT]
theorem setMem_of (l:Nat→Option TV) (m:List (Nat × List AV)) (q:Nat→Option OV) (t:Nat) (cs:List AV):AS.setMem ⟨l,ofL m,q⟩ t cs=⟨l,ofL (setL m t cs),q⟩:=by
 simp only [AS.setMem,setL_ofL]
def delL {α:Type} (t:Nat):List (Nat × α)→List (Nat × α)
 | []=>[]
 | (k,v) :: l=>if k=t then delL t l else (k,v) :: delL t l
theorem delL_get {α:Type} (t:Nat):∀(l:List (Nat × α)),upd (ofL l) t none=ofL (delL t l)
 | []=>by funext x;simp [upd,ofL,delL]
 | (k,v) :: l=>by
  funext x
  have ih:=congrFun (delL_get t l) x
  simp only [upd,ofL,delL]at ih ⊢
  by_cases h:k=t
  ·subst h
   simp only [if_true]
   rw [←ih]
   by_cases hx:x=k
   ·simp [hx]
   ·simp [hx]
  ·simp only [if_neg h,ofL]
   by_cases hx:x=k
   ·subst hx;simp [h]
   ·simp only [if_neg hx];exact ih
def staleOT (t:Nat):List (Nat × Option TV)→List (Nat × Option TV)
 | []=>[]
 | (k,v) :: l=>(k,staleO t v) :: staleOT t l
theorem staleOT_get (t:Nat):∀(l:List (Nat × Option TV)) (x:Nat),staleO t (ofT l x)=ofT (staleOT t l) x
 | [],x=>rfl
 | (k,v) :: l,x=>by
  simp only [ofT,staleOT]
  split
  ·rfl
  ·exact staleOT_get t l x
theorem newOwn_none (l:List (Nat × Option TV)) (m:Nat→Option (List AV)) (q:List (Nat × OV)) (d:Nat) (ov:OV):AS.newOwn ⟨ofT l,m,ofL q⟩ none d ov=⟨ofT (setT (staleOT d l) d (.osl d ov.k 0 ov.len)),m,ofL (setL q d ov)⟩:=by
 simp only [AS.newOwn,setL_ofL]
 congr 1
 have:(fun x=>staleO d (ofT l x))=ofT (staleOT d l):=funext fun x=>staleOT_get d l x
 rw [this,setT_ofT]
theorem newOwn_some (l:List (Nat × Option TV)) (m:Nat→Option (List AV)) (q:List (Nat × OV)) (s d:Nat) (ov:OV):AS.newOwn ⟨ofT l,m,ofL q⟩ (some s) d ov=⟨ofT (setT (staleOT d (staleOT s l)) d (.osl d ov.k 0 ov.len)),m,ofL (setL (delL s q) d ov)⟩:=by
 simp only [AS.newOwn,delL_get,setL_ofL]
 congr 1
 have:(fun x=>staleO d (staleO s (ofT l x)))=ofT (staleOT d (staleOT s l)):=funext fun x=>by rw [staleOT_get s l x,staleOT_get d _ x]
 rw [this,setT_ofT]
def leT (σ:AS) (m:List (Nat × List AV)) (q:List (Nat × OV)):List (Nat × Option TV)→Prop
 | []=>True
 | (k,some v) :: l=>leV ⟨fun _=>none,ofL m,ofL q⟩ σ (σ.tm k) v∧leT σ m q l
 | (_,none) :: l=>leT σ m q l
def leM {α:Type} (f:Nat→Option α):List (Nat × α)→Prop
 | []=>True
 | (k,cs) :: m=>f k=some cs∧leM f m
def leL (σ:AS) (l:List (Nat × Option TV)) (m:List (Nat × List AV)) (q:List (Nat × OV)):Prop:=leT σ m q l∧leM σ.mem m∧leM σ.own q
theorem leT_le (σ:AS) (m:List (Nat × List AV)) (q:List (Nat × OV)):∀(l:List (Nat × Option TV)),leT σ m q l→∀x v,ofT l x=some v→leV ⟨fun _=>none,ofL m,ofL q⟩ σ (σ.tm x) v
 | [],_,x,v,h=>by cases h
 | (k,some u) :: l,h,x,v,hx=>by
  simp only [ofT]at hx
  split at hx
  ·rename_i e
   subst e
   cases hx
   exact h.1
  ·exact leT_le σ m q l h.2 x v hx
 | (k,none) :: l,h,x,v,hx=>by
  simp only [ofT]at hx
  split at hx
  ·cases hx
  ·exact leT_le σ m q l h x v hx
theorem leM_le {α:Type} (f:Nat→Option α):∀(l:List (Nat × α)),leM f l→∀x v,ofL l x=some v→f x=some v
 | [],_,x,v,h=>by cases h
 | (k,u) :: l,h,x,v,hx=>by
  simp only [ofL]at hx
  split at hx
  ·rename_i e
   subst e
   rw [←hx]
   exact h.1
  ·exact leM_le f l h.2 x v hx
theorem leL_le (σ:AS) (l:List (Nat × Option TV)) (m:List (Nat × List AV)) (q:List (Nat × OV)) (h:leL σ l m q):AS.le ⟨ofT l,ofL m,ofL q⟩ σ:=⟨fun x v hx=>leT_le σ m q l h.1 x v hx,leM_le _ m h.2.1,leM_le _ q h.2.2⟩
theorem awp_mono {C:Ctx} {n:Scr}:∀(c:Code) (K K':Exit→AS→Prop),(∀e σ,K e σ→K' e σ)→∀σ,awp C n c K σ→awp C n c K' σ:=by
 intro c
 have hrun:∀(dr:Bool) (ops:Array Oper) (l:List Oper) (K K':AS→Prop),(∀σ,K σ→K' σ)→∀σ,arun C dr ops l σ K→arun C dr ops l σ K':=by
  intro dr ops l
  induction l with
  | nil=>intro K K' hk σ h;exact hk σ h
  | cons o l ih =>
   intro K K' hk σ h
   exact astepG_mono (fun σ' h'=>ih K K' hk σ' h') h
 induction c with
 | skip=>intro K K' hk σ h;exact hk _ _ h
 | region id ops d =>
  intro K K' hk σ h
  simp only [awp]at h ⊢
  cases hl:n.ln.contains id with
  | false=>rw [hl]at h;exact hrun d ops _ _ _ (fun σ h=>hk _ _ h) _ h
  | true =>
   rw [hl]at h
   obtain ⟨pre,o,post,h2,h3,h5,h4⟩:=h
   exact ⟨pre,o,post,h2,h3,h5,hrun d ops _ _ _ (fun σ h=>callL_mono (fun σ h=>hrun d ops _ _ _ (fun σ h=>hk _ _ h) _ h) h) _ h4⟩
 | seq a b iha ihb =>
  intro K K' hk σ h
  refine iha _ _ (fun e σ h=>?_) σ h
  cases e with
  | normal=>exact ihb K K' hk σ h
  | _=>exact hk _ _ h
 | cond c a b iha ihb =>
  intro K K' hk σ h
  obtain ⟨t,h1,h2,h3⟩:=h
  exact ⟨t,h1,fun ht=>iha K K' hk σ (h2 ht),fun ht=>ihb K K' hk σ (h3 ht)⟩
 | block id c ih =>
  intro K K' hk σ h
  refine ih _ _ (fun e σ h=>?_) σ h
  cases e with
  | exit i =>
   simp only at h ⊢
   split
   ·rename_i hi;rw [if_pos hi]at h;exact hk _ _ h
   ·rename_i hi;rw [if_neg hi]at h;exact hk _ _ h
  | _=>exact hk _ _ h
 | loop c ih =>
  intro K K' hk σ h
  obtain ⟨α,I,μ,x,h1,h2⟩:=h
  refine ⟨α,I,μ,x,h1,fun x=>ih _ _ (fun e σ h=>?_) _ (h2 x)⟩
  cases e with
  | normal=>exact h
  | _=>exact hk _ _ h
 | exit id=>intro K K' hk σ h;exact hk _ _ h
 | ret=>intro K K' hk σ h;exact hk _ _ h
 | label l=>intro K K' hk σ h;exact hk _ _ h
 | _=>intro K K' hk σ h;exact h.elim
theorem awp_loop {C:Ctx} {n:Scr} {c:Code} {K:Exit→AS→Prop} {σ:AS} {α:Type} (L:α→List (Nat × Option TV)) (M:α→List (Nat × List AV)) (Q:α→List (Nat × OV)) (μ:α→Nat) (x:α) (h0:leL σ (L x) (M x) (Q x))
  (h:∀x,awp C n c (fun e σ'=>match e with|.normal=>∃x',leL σ' (L x') (M x') (Q x')∧μ x'<μ x|e=>K e σ') ⟨ofT (L x),ofL (M x),ofL (Q x)⟩):awp C n (.loop c) K σ:=by
 refine ⟨α,fun x=>⟨ofT (L x),ofL (M x),ofL (Q x)⟩,μ,x,leL_le _ _ _ _ h0,fun x=>?_⟩
 refine awp_mono c _ _ (fun e σ h=>?_) _ (h x)
 cases e with
 | normal =>
  obtain ⟨x',h1,h2⟩:=h
  exact ⟨x',leL_le _ _ _ _ h1,h2⟩
 | _=>exact h
def frzBL (m:List (Nat × List AV)) (ts:List Nat):List (Nat × Option TV)→List (Nat × Option TV)
 | []=>[]
 | (k,v) :: l=>(k,v.bind (frzBT (ofL m) ts)) :: frzBL m ts l
theorem frzBL_get (m:List (Nat × List AV)) (ts:List Nat):∀(l:List (Nat × Option TV)) (x:Nat),(ofT l x).bind (frzBT (ofL m) ts)=ofT (frzBL m ts l) x
 | [],x=>rfl
 | (k,v) :: l,x=>by
  simp only [ofT,frzBL]
  split
  ·rfl
  ·exact frzBL_get m ts l x
theorem frzBL_none (m:List (Nat × List AV)):∀l:List (Nat × Option TV),frzBL m [] l=l
 | []=>rfl
 | (k,v) :: l=>by
  rw [frzBL,frzBL_none m l]
  congr 2
  cases v with
  | none=>rfl
  | some y=>cases y <;> rfl
def delB (ts:List Nat):List (Nat × List AV)→List (Nat × List AV)
 | []=>[]
 | (k,v) :: m=>bif ts.contains k then delB ts m else (k,v) :: delB ts m
theorem delB_get (ts:List Nat):∀(m:List (Nat × List AV)) (x:Nat),(bif ts.contains x then none else ofL m x)=ofL (delB ts m) x
 | [],x=>by cases h:ts.contains x <;> rfl
 | (k,v) :: m,x=>by
  have ih:=delB_get ts m x
  simp only [ofL,delB]
  by_cases hk:k=x
  ·subst hk
   cases h:ts.contains k with
   | true=>rw [h]at ih;simpa using ih
   | false=>simp [ofL]
  ·cases h:ts.contains k with
   | true=>simp only [cond_true];rw [←ih];simp [Ne.symm hk,hk]
   | false=>simp only [cond_false,ofL];rw [←ih];simp [Ne.symm hk,hk]
theorem delB_nil:∀m:List (Nat × List AV),delB [] m=m
 | []=>rfl
 | (k,v) :: m=>by simp [delB,delB_nil m]
theorem frzB_of (l:List (Nat × Option TV)) (m:List (Nat × List AV)) (q:Nat→Option OV) (ts:List Nat):AS.frzB ⟨ofT l,ofL m,q⟩ ts=⟨ofT (frzBL m ts l),ofL (delB ts m),q⟩:=by
 unfold AS.frzB
 have e1:(fun x=>(ofT l x).bind (frzBT (ofL m) ts))=ofT (frzBL m ts l):=funext fun x=>frzBL_get m ts l x
 have e2:(fun t=>bif ts.contains t then none else ofL m t)=ofL (delB ts m):=funext fun x=>delB_get ts m x
 simp only [e1,e2]
end Go.Proofs.YtmekiphpjpblpaaGreat
