import Derived.Test.YtmekiphpjpblpaaGreatEWz
import Derived.Laws.Cells
import Derived.Laws.CopyRow
import Derived.Laws.OwnMore
/- Text VA. -/
set_option linter.unusedSimpArgs false
set_option linter.unusedVariables false
set_option maxHeartbeats 40000000
set_option maxRecDepth 100000
namespace Go.Proofs.YtmekiphpjpblpaaGreat
open Go.RowKit Lim
inductive AV where
 | lit (v:Value)
 | nat (l:List Nat)
 | sl (k:Nat) (es:List AV)
 | agg (cs:List AV)
 | tup (vs:List AV)
 | ifc (t:TypeId) (a:AV)
 | fn (f:Fn) (first captured:List AV)
 | ptr (cs:List AV)
 | lnk (n len:Nat)
def AV.cells:AV→List AV
 | .agg cs=>cs
 | a=>[a]
def AV.noLimb:AV→Bool
 | .lit v=>Go.Proofs.YtmekiphpjpblpaaGreat.noLimb v
 | _=>true
def AV.one:AV→Bool
 | .agg _|.tup _|.lnk _ _=>false
 | _=>true
def AV.oneM:AV→Bool
 | .agg _|.tup _=>false
 | _=>true
theorem AV.oneM_of {a:AV} (h:a.one=true):a.oneM=true:=by cases a <;> first|rfl|cases h
theorem AV.oneM_all {cs:List AV} (h:cs.all AV.one=true):cs.all AV.oneM=true:=by
 rw [List.all_eq_true]at h ⊢
 exact fun x hx=>AV.oneM_of (h x hx)
theorem AV.one_nl {cs:List AV} (h:cs.all AV.one=true) {j n len:Nat} (hj:cs[j]? = some (.lnk n len)):False:=by
 have:=List.all_eq_true.1 h _ (List.mem_of_getElem? hj)
 cases this
theorem one_cells {v:Value} (h:v.oneCell'=true):v.cells=#[v]:=by cases v <;> simp_all [Value.oneCell',Value.cells]
theorem AV.cells_one {a:AV} (h:a.one=true):a.cells=[a]:=by cases a <;> first|rfl|(simp [AV.one]at h)
abbrev Zone:=Nat→Nat→Prop
inductive Rep (w:World) (Z:Zone):AV→Value→Prop
 | lit {v:Value} (hv:v.oneCell'=true):Rep w Z (.lit v) v
 | nat {l:List Nat} {A:Option Addr} {c:Nat} (h:Rd w A l) (hc:l.length≤c) (hz:∀b off,A=some ⟨b,off,none⟩→∀j,j<l.length→Z b (off+j)):Rep w Z (.nat l) (.slice A l.length c)
 | nil {k:Nat} {A:Option Addr} {c:Nat}:Rep w Z (.sl k []) (.slice A 0 c)
 | sl {k:Nat} {es:List AV} {b off c:Nat} (vs:Nat→Nat→Value) (hb:b<w.heap.size) (hc:es.length≤c)
   (hk:∀i (hi:i<es.length),(es[i]'hi).cells.length=k)
   (hm:∀i j,i<es.length→j<k→w.cell? ⟨b,off+i*k+j,none⟩=some (vs i j)∧Z b (off+i*k+j))
   (hr:∀i (hi:i<es.length) j (hj:j<(es[i]'hi).cells.length),Rep w Z ((es[i]'hi).cells[j]'hj) (vs i j)):Rep w Z (.sl k es) (.slice (some ⟨b,off,none⟩) es.length c)
 | agg {cs:List AV} {vs:Array Value} (hl:vs.size=cs.length) (hr:∀j (hj:j<cs.length),Rep w Z (cs[j]'hj) (vs[j]'(by omega))):Rep w Z (.agg cs) (.agg vs)
 | tup {cs:List AV} {vs:Array Value} (hl:vs.size=cs.length) (hr:∀j (hj:j<cs.length),Rep w Z (cs[j]'hj) (vs[j]'(by omega))):Rep w Z (.tup cs) (.tuple vs)
 | ifc {t:TypeId} {a:AV} {u:Value} (hr:Rep w Z a u):Rep w Z (.ifc t a) (.iface t u)
 | fn {f:Fn} {fs cs:List AV} {us vs:Array Value} (hl1:us.size=fs.length) (hr1:∀j (hj:j<fs.length),Rep w Z (fs[j]'hj) (us[j]'(by omega))) (hl2:vs.size=cs.length) (hr2:∀j (hj:j<cs.length),Rep w Z (cs[j]'hj) (vs[j]'(by omega))):Rep w Z (.fn f fs cs) (.func f us vs)
 | ptr {cs:List AV} {b o:Nat} (vs:Nat→Value) (hm:∀q,q<cs.length→w.cell? ⟨b,o+q,none⟩=some (vs q)∧Z b (o+q)) (hr:∀q (hq:q<cs.length),Rep w Z (cs[q]'hq) (vs q)):Rep w Z (.ptr cs) (.pointer (some ⟨b,o,none⟩))
 | lnk {n len:Nat} {v:Value} (hv:v.oneCell'=true) (hl:Go.Proofs.YtmekiphpjpblpaaGreat.noLimb v=true):Rep w Z (.lnk n len) v
structure Keeps (Z:Zone) (w w':World):Prop where
 size:w.heap.size≤w'.heap.size
 zone:∀b o v,Z b o→w.cell? ⟨b,o,none⟩=some v→w'.cell? ⟨b,o,none⟩=some v
theorem Keeps.refl (Z:Zone) (w:World):Keeps Z w w:=⟨Nat.le_refl _,fun _ _ _ _ h=>h⟩
theorem Keeps.ofBelow {Z:Zone} {w w':World} (h:Below w.heap.size w w'):Keeps Z w w' :=
 ⟨h.size,fun b o v _ hc=>(h.cell (p:=⟨b,o,none⟩) (World.block_lt_of_cell? w _ hc)).trans hc⟩
theorem Keeps.ofGrown {Z:Zone} {w w':World} {g:Nat} (h:w.grownBy w' (some g)) (hg:∀o,¬Z g o):Keeps Z w w' :=
 ⟨h.size,fun b o v hz hc=>h.cell hc fun e=>by cases e;exact hg o hz⟩
theorem Rd.keeps {Z:Zone} {w w':World} {A:Option Addr} {l:List Nat} (h:Rd w A l) (hz:∀b off,A=some ⟨b,off,none⟩→∀j,j<l.length→Z b (off+j)) (hk:Keeps Z w w'):Rd w' A l :=
 ⟨h.1,fun hl=>by
  obtain ⟨b,off,e,hlt,hc⟩:=h.2 hl
  exact ⟨b,off,e,Nat.lt_of_lt_of_le hlt hk.size,fun j hj=>hk.zone _ _ _ (hz b off e j hj) (hc j hj)⟩⟩
theorem Rep.keep {Z Z':Zone} {w w':World} {a:AV} {v:Value} (h:Rep w Z a v) (hk:Keeps Z w w') (hz:∀b o,Z b o→Z' b o):Rep w' Z' a v:=by
 induction h with
 | lit hv=>exact .lit hv
 | nat h hc hzz=>exact .nat (h.keeps hzz hk) hc fun b off e j hj=>hz _ _ (hzz b off e j hj)
 | nil=>exact .nil
 | sl vs hb hc hkk hm hr ih =>
  exact .sl vs (Nat.lt_of_lt_of_le hb hk.size) hc hkk (fun i j hi hj=>⟨hk.zone _ _ _ (hm i j hi hj).2 (hm i j hi hj).1,hz _ _ (hm i j hi hj).2⟩) ih
 | agg hl hr ih=>exact .agg hl ih
 | tup hl hr ih=>exact .tup hl ih
 | ifc hr ih=>exact .ifc ih
 | fn hl1 hr1 hl2 hr2 ih1 ih2=>exact .fn hl1 ih1 hl2 ih2
 | ptr vs hm hr ih=>exact .ptr vs (fun q hq=>⟨hk.zone _ _ _ (hm q hq).2 (hm q hq).1,hz _ _ (hm q hq).2⟩) ih
 | lnk hv hl=>exact .lnk hv hl
theorem Rep.cells {Z:Zone} {w:World} {a:AV} {v:Value} (h:Rep w Z a v):v.cells.size=a.cells.length∧∀j (hj:j<a.cells.length) (hj':j<v.cells.size),Rep w Z (a.cells[j]'hj) (v.cells[j]'hj'):=by
 have one:∀{a:AV} {v:Value},Rep w Z a v→a.cells=[a]→v.cells=#[v]→v.cells.size=a.cells.length∧∀j (hj:j<a.cells.length) (hj':j<v.cells.size),Rep w Z (a.cells[j]'hj) (v.cells[j]'hj'):=fun {a v} h h1 h2=>by
  refine ⟨by rw [h1,h2];rfl,fun j hj hj'=>?_⟩
  have:j=0:=by rw [h1]at hj;simp at hj;exact hj
  subst this
  have e1:a.cells[0]'hj=a:=by simp [h1]
  have e2:v.cells[0]'hj'=v:=by simp [h2]
  rw [e1,e2]
  exact h
 cases h with
 | lit hv=>exact one (.lit hv) rfl (one_cells hv)
 | nat h hc hz=>exact one (.nat h hc hz) rfl rfl
 | nil=>exact one .nil rfl rfl
 | sl vs hb hc hk hm hr=>exact one (.sl vs hb hc hk hm hr) rfl rfl
 | agg hl hr=>exact ⟨hl,fun j hj hj'=>hr j hj⟩
 | tup hl hr=>exact one (.tup hl hr) rfl rfl
 | ifc hr=>exact one (.ifc hr) rfl rfl
 | fn hl1 hr1 hl2 hr2=>exact one (.fn hl1 hr1 hl2 hr2) rfl rfl
 | ptr vs hm hr=>exact one (.ptr vs hm hr) rfl rfl
 | lnk hv hl=>exact one (.lnk hv hl) rfl (one_cells hv)
theorem Rep.one {Z:Zone} {w:World} {a:AV} {v:Value} (h:Rep w Z a v) (ha:a.one=true):v.oneCell'=true:=by
 cases h <;> first|assumption|rfl|(simp [AV.one]at ha)
theorem Rep.noLimb {Z:Zone} {w:World} {a:AV} {v:Value} (h:Rep w Z a v) (ha:a.noLimb=true):Go.Proofs.YtmekiphpjpblpaaGreat.noLimb v=true:=by
 cases h <;> first|exact ha|rfl|assumption
theorem Rep.oneM {Z:Zone} {w:World} {a:AV} {v:Value} (h:Rep w Z a v) (ha:a.oneM=true):v.oneCell'=true:=by
 cases h <;> first|assumption|rfl|(simp [AV.oneM]at ha)
theorem Rep.lit_eq {Z:Zone} {w:World} {v u:Value} (h:Rep w Z (.lit v) u):u=v:=by cases h;rfl
theorem Rep.agg_iff {w:World} {Z:Zone} {cs:List AV} {vs:Array Value}:Rep w Z (.agg cs) (.agg vs) ↔ vs.size=cs.length∧∀(j:Nat) (x:AV) (u:Value),cs[j]? = some x→vs[j]? = some u→Rep w Z x u:=by
 constructor
 ·intro h
  cases h with
  | agg hl hr =>
   refine ⟨hl,fun j x u h1 h2=>?_⟩
   obtain ⟨q1,q2⟩:=List.getElem?_eq_some_iff.1 h1
   obtain ⟨q3,q4⟩:=Array.getElem?_eq_some_iff.1 h2
   subst q2 q4
   exact hr j q1
 ·rintro ⟨hl,hr⟩
  exact .agg hl fun j hj=>hr j _ _ (List.getElem?_eq_getElem hj) (Array.getElem?_eq_getElem (by omega))
def AllLimbs (Z:Zone) (w:World):Prop:=∀b o v,w.cell? ⟨b,o,none⟩=some v→noLimb v=false→Z b o
inductive TV where
 | av (a:AV)
 | ref (t off:Nat)
 | osl (t k off len:Nat)
 | oref (t k i o:Nat)
 | omap (t:Nat)
 | avl (a:AV)
 | skip
def BIG:Nat:=1000000
def lnk1 (κ:Nat→Nat × Nat):AV→Value→Prop
 | .lnk n len,v=>v=.slice (some ⟨(κ (BIG+n)).1,0,none⟩) len (κ (BIG+n)).2
 | _,_=>True
def lnk2 (κ:Nat→Nat × Nat):AV→Value→Prop
 | .agg cs,v=>∀(j:Nat) c u,cs[j]? = some c→v.cells[j]? = some u→lnk1 κ c u
 | a,v=>lnk1 κ a v
def lnk3 (κ:Nat→Nat × Nat):AV→Value→Prop
 | .tup l,v=>(match v with|.tuple vs=>∀(j:Nat) c u,l[j]? = some c→vs[j]? = some u→lnk2 κ c u|_=>True)
 | a,v=>lnk2 κ a v
theorem lnk1_congr {κ κ':Nat→Nat × Nat} (h:∀n,κ' (BIG+n)=κ (BIG+n)):∀{a:AV} {v:Value},lnk1 κ a v→lnk1 κ' a v:=by
 intro a v hl
 cases a <;> first|trivial|(simp only [lnk1,h]at hl ⊢;exact hl)
theorem lnk2_congr {κ κ':Nat→Nat × Nat} (h:∀n,κ' (BIG+n)=κ (BIG+n)):∀{a:AV} {v:Value},lnk2 κ a v→lnk2 κ' a v:=by
 intro a v hl
 cases a with
 | agg cs=>exact fun j c u h1 h2=>lnk1_congr h (hl j c u h1 h2)
 | _=>simp only [lnk2]at hl ⊢;exact lnk1_congr h hl
theorem lnk3_congr {κ κ':Nat→Nat × Nat} (h:∀n,κ' (BIG+n)=κ (BIG+n)):∀{a:AV} {v:Value},lnk3 κ a v→lnk3 κ' a v:=by
 intro a v hl
 cases a with
 | tup l =>
  cases v with
  | tuple vs=>exact fun j c u h1 h2=>lnk2_congr h (hl j c u h1 h2)
  | _=>trivial
 | _=>simp only [lnk3]at hl ⊢;exact lnk2_congr h hl
inductive TK where
 | scal
 | bool
 | int (k:IntKind)
 | str
 | strct (fs:List (Nat × Nat × TypeId))
 | slc (e:TypeId) (k:Nat) (limbs:Bool)
 | arr (n:Nat) (e:TypeId) (k:Nat)
 | map (k e:TypeId)
inductive OV where
 | row (e:TypeId) (k:Nat) (es:List AV)
 | limb (e:TypeId) (l:List Nat)
 | map (kd:TK) (m:List (Value × AV))
def OV.hot:OV→Bool
 | .row _ _ _=>false
 | .limb _ _=>true
 | .map _ _=>false
def OV.k:OV→Nat
 | .row _ k _=>k
 | .limb _ _=>1
 | .map _ _=>0
def OV.len:OV→Nat
 | .row _ _ es=>es.length
 | .limb _ l=>l.length
 | .map _ _=>0
def OV.part (off len:Nat):OV→AV
 | .row _ k es=>.sl k ((es.drop off).take len)
 | .limb _ l=>.nat ((l.drop off).take len)
 | .map _ _=>.sl 0 []
structure AS where
 tm:Nat→Option TV
 mem:Nat→Option (List AV)
 own:Nat→Option OV
structure TI where
 kind:TK
 zero:List AV
 bytes:Nat
abbrev TyTab:=TypeId→Option TI
structure TIOK (P:Program) (ty:TypeId) (i:TI):Prop where
 inf:∃info zv,P.info? ty=some info∧info.size=i.zero.length∧info.bytes=i.bytes∧info.zero=some zv∧∀w Z,Rep w Z (.agg i.zero) (.agg zv.cells)
 und:match i.kind with
  | .scal=>∃d,P.underlying ty=some d∧(match d with|.struct _|.array _ _=>False|_=>True)
  | .bool=>P.underlying ty=some .bool
  | .int k=>P.underlying ty=some (.int k)
  | .str=>P.underlying ty=some .string
  | .strct fs=>∃fds:Array Field,P.underlying ty=some (.struct fds)∧fds.size=fs.length∧∀(f o n:Nat) (t:TypeId),fs[f]? = some (o,n,t)→∃fd:Field,fds[f]? = some fd∧fd.offset=o∧fd.type=t∧n≠0∧∃fi,P.info? fd.type=some fi∧fi.size=n
  | .slc e k _=>P.underlying ty=some (.slice e)∧∃ei,P.info? e=some ei∧ei.size=k
  | .arr n e k=>P.underlying ty=some (.array n e)∧∃ei,P.info? e=some ei∧ei.size=k∧k≠0
  | .map k e=>P.underlying ty=some (.map k e)
 one:match i.kind with
  | .strct _|.arr _ _ _=>True
  | _=>∀info zv,P.info? ty=some info→info.zero=some zv→zv.oneCell'=true
def globT (g:Nat):Option (List Value) :=
 none
def GlobOK (w:World):Prop:=∀g cs,globT g=some cs→∀(q:Nat) v,cs[q]? = some v→w.cell? ⟨g,q,none⟩=some v∧v.oneCell'=true
structure Ctx where
 P:Program
 T:TyTab
 E:World→Prop
 EB:Nat→Prop
 u:Bool
 hT:∀ty i,T ty=some i→TIOK P ty i
 hE:∀w w',w.heap.size≤w'.heap.size→(∀b,EB b→b<w.heap.size→w'.heap[b]? = w.heap[b]?)→E w→E w'
 hEB:∀w b,E w→EB b→b<w.heap.size
 hG:∀w,E w→GlobOK w
 hm:P.follows .mixedOrders=true
def RepT (w:World) (Z:Zone) (β:Nat→Nat) (κ:Nat→Nat × Nat):TV→Value→Prop
 | .av a,v=>Rep w Z a v
 | .ref t off,v=>v=.pointer (some ⟨β t,off,none⟩)
 | .osl t k off len,v=>off+len≤(κ t).2∧v=.slice (some ⟨(κ t).1,off*k,none⟩) len ((κ t).2-off)
 | .oref t k i o,v=>v=.pointer (some ⟨(κ t).1,i*k+o,none⟩)
 | .omap t,v=>v=.map (some (κ t).1)
 | .avl a,v=>Rep w Z a v∧lnk3 κ a v
 | .skip,v=>v=undef
structure Loc (w:World) (Z:Zone) (g:Nat) (cs:List AV):Prop where
 ex:∃vs ty,Box w g vs ty∧Rep w Z (.agg cs) (.agg vs)
 one:cs.all AV.oneM=true
 nl:cs.all AV.noLimb=true
 out:∀o,¬Z g o
def RowR (w:World) (Z:Zone) (k:Nat) (es:List AV) (cur:Array Value):Prop :=
 ∀i (hi:i<es.length),(es[i]'hi).cells.length=k∧(es[i]'hi).cells.all AV.one=true∧∀j (hj:j<(es[i]'hi).cells.length),∃u,cur[i*k+j]? = some u∧Rep w Z ((es[i]'hi).cells[j]'hj) u
def keyB:TK→Value→Bool
 | .int k,.int k' _=>decide (k=k')
 | .str,.string _=>true
 | .bool,.bool _=>true
 | _,_=>false
def MapR (w:World) (Z:Zone) (kd:TK):List (Value × AV)→List MapEntry→Prop
 | [],[]=>True
 | p :: m,e :: es=>e.key=p.1∧keyB kd p.1=true∧Rep w Z p.2 e.val∧MapR w Z kd m es
 | _,_=>False
def Own (w:World) (Z:Zone) (g cap:Nat):OV→Prop
 | .row e k es=>∃cur,w.heap[g]? = some (.cells cur e (0,0))∧cur.size=cap*k∧es.length≤cap∧cap≤maxLen∧0<k∧(∀o,¬Z g o)∧(∀c∈cur.toList,noLimb c=true)∧RowR w Z k es cur
 | .limb e l=>∃cur,w.heap[g]? = some (.cells cur e (0,0))∧cur.size=cap∧l.length≤cap∧cap≤maxLen∧(∀o,¬Z g o)∧Dig l∧∀i (hi:i<l.length),cur[i]? = some (.int .u32 (l[i]:Nat))
 | .map kd m=>∃es clock,w.heap[g]? = some (.map es clock)∧cap≤maxLen∧(∀o,¬Z g o)∧MapR w Z kd m es.toList
structure Base where
 w:World
 L:Nat→Prop
 np:Nat
 val:Nat→Value
def Base.free (B:Base) (b:Nat):Prop:=B.w.heap.size≤b∨B.L b
structure Base.Keep (B:Base) (w:World):Prop where
 os:w.os=B.w.os
 tape:w.tape=B.w.tape
 output:w.output=B.w.output
 size:B.w.heap.size≤w.heap.size
 block:∀k,k<B.w.heap.size→¬B.L k→w.heap[k]? = B.w.heap[k]?
theorem Base.Keep.refl (B:Base):B.Keep B.w:=⟨rfl,rfl,rfl,Nat.le_refl _,fun _ _ _=>rfl⟩
theorem Base.Keep.grow {B:Base} {w w':World} (h:B.Keep w) (hb:Below w.heap.size w w'):B.Keep w' :=
 ⟨hb.os.trans h.os,hb.tape.trans h.tape,hb.output.trans h.output,Nat.le_trans h.size hb.size,fun k hk hl=>(hb.block k (Nat.lt_of_lt_of_le hk h.size)).trans (h.block k hk hl)⟩
theorem Base.Keep.chg {B:Base} {w w':World} (h:B.Keep w) {g:Nat} (hg:B.free g) (hc:w.grownBy w' (some g)):B.Keep w' :=
 ⟨hc.os.trans h.os,hc.tape.trans h.tape,hc.output.trans h.output,Nat.le_trans h.size hc.size,fun k hk hl=>(hc.block k (Nat.lt_of_lt_of_le hk h.size) (by
  intro e
  cases e
  rcases hg with hg|hg
  ·omega
  ·exact hl hg)).trans (h.block k hk hl)⟩
def Ctx.EL (C:Ctx) (B:Base):Prop:=C.E B.w∧∀b,C.EB b→¬B.L b
theorem Ctx.EL.keep {C:Ctx} {B:Base} {w:World} (h:C.EL B) (k:B.Keep w):C.E w:=C.hE _ _ k.size (fun b hb hlt=>k.block b hlt (h.2 b hb)) h.1
theorem Ctx.EL.free {C:Ctx} {B:Base} (h:C.EL B) {b:Nat} (hb:C.EB b):¬B.free b:=by
 rintro (h1|h1)
 ·have:=C.hEB _ _ h.1 hb;omega
 ·exact h.2 b hb h1
theorem Base.Keep.below {w w':World} (h:(Base.mk w (fun _=>False) 0 fun _=>undef).Keep w'):Below w.heap.size w w':=⟨h.os,h.tape,h.output,h.size,fun k hk=>h.block k hk id⟩
structure Sim1 (u:Bool) (w0:Base) (Z0:Zone) (σ:AS) (a:Act) (w:World) (Z:Zone) (β:Nat→Nat) (κ:Nat→Nat × Nat):Prop where
 z0:∀b o,Z0 b o→Z b o
 z1:∀b o,Z b o→Z0 b o∨(w0.free b∧b<w.heap.size)
 tm:∀t x,σ.tm t=some x→t<a.tmps.size∧RepT w Z β κ x (a.tmps.getD t undef)
 mem:∀t cs,σ.mem t=some cs→w0.free (β t)∧Loc w Z (β t) cs
 inj:∀t t' cs cs',σ.mem t=some cs→σ.mem t'=some cs'→β t=β t'→t=t'
 own:∀t ov,σ.own t=some ov→w0.free (κ t).1∧Own w Z (κ t).1 (κ t).2 ov
 injO:∀t t' ov ov',σ.own t=some ov→σ.own t'=some ov'→(κ t).1=(κ t').1→t=t'
 injM:∀t t' cs ov,σ.mem t=some cs→σ.own t'=some ov→β t≠(κ t').1
 al:u=true→∀b o v,w.cell? ⟨b,o,none⟩=some v→noLimb v=false→Z b o∨∃t ov,σ.own t=some ov∧ov.hot=true∧(κ t).1=b
 below:w0.Keep w
 defers:a.defers=[]
 lnk:∀t cs (j n len:Nat),σ.mem t=some cs→cs[j]? = some (.lnk n len)→w.cell? ⟨β t,j,none⟩=some (.slice (some ⟨(κ (BIG+n)).1,0,none⟩) len (κ (BIG+n)).2)
theorem Loc.keep {w w':World} {Z Z':Zone} {g:Nat} {cs:List AV} (h:Loc w Z g cs) (hb:w'.heap[g]? = w.heap[g]?) (hk:Keeps Z w w') (hz:∀b o,Z b o→Z' b o) (ho:∀o,¬Z' g o):Loc w' Z' g cs:=by
 obtain ⟨vs,ty,hx,hr⟩:=h.ex
 exact ⟨⟨vs,ty,hb.trans hx,hr.keep hk hz⟩,h.one,h.nl,ho⟩
theorem Loc.lt {w:World} {Z:Zone} {g:Nat} {cs:List AV} (h:Loc w Z g cs):g<w.heap.size:=by
 obtain ⟨vs,ty,hx,_⟩:=h.ex
 exact hx.lt
theorem RowR.keep {w w':World} {Z Z':Zone} {k:Nat} {es:List AV} {cur:Array Value} (h:RowR w Z k es cur) (hk:Keeps Z w w') (hz:∀b o,Z b o→Z' b o):RowR w' Z' k es cur:=fun i hi=>by
 obtain ⟨h1,h2,h3⟩:=h i hi
 exact ⟨h1,h2,fun j hj=>by obtain ⟨u,q1,q2⟩:=h3 j hj;exact ⟨u,q1,q2.keep hk hz⟩⟩
theorem MapR.keep {w w':World} {Z Z':Zone} {kd:TK} (hk:Keeps Z w w') (hz:∀b o,Z b o→Z' b o):∀{m:List (Value × AV)} {es:List MapEntry},MapR w Z kd m es→MapR w' Z' kd m es
 | [],[],_=>trivial
 | [],_ :: _,h=>h.elim
 | _ :: _,[],h=>h.elim
 | _ :: _,_ :: _,h=>⟨h.1,h.2.1,h.2.2.1.keep hk hz,MapR.keep hk hz h.2.2.2⟩
theorem Own.keep {w w':World} {Z Z':Zone} {g cap:Nat} {ov:OV} (h:Own w Z g cap ov) (hb:w'.heap[g]? = w.heap[g]?) (hk:Keeps Z w w') (hz:∀b o,Z b o→Z' b o) (ho:∀o,¬Z' g o):Own w' Z' g cap ov:=by
 cases ov with
 | row e k es =>
  obtain ⟨cur,h1,h2,h3,h4,h5,h6,h7,h8⟩:=h
  exact ⟨cur,hb.trans h1,h2,h3,h4,h5,ho,h7,h8.keep hk hz⟩
 | limb e l =>
  obtain ⟨cur,h1,h2,h3,h4,h5,h6⟩:=h
  exact ⟨cur,hb.trans h1,h2,h3,h4,ho,h6⟩
 | map kd m =>
  obtain ⟨es,clock,h1,h2,h3,h4⟩:=h
  exact ⟨es,clock,hb.trans h1,h2,ho,h4.keep hk hz⟩
theorem Own.lt {w:World} {Z:Zone} {g cap:Nat} {ov:OV} (h:Own w Z g cap ov):g<w.heap.size:=by
 have:∃ob,w.heap[g]? = some ob:=by
  cases ov with
  | row e k es=>obtain ⟨cur,h1,_⟩:=h;exact ⟨_,h1⟩
  | limb e l=>obtain ⟨cur,h1,_⟩:=h;exact ⟨_,h1⟩
  | map kd m=>obtain ⟨es,clock,h1,_⟩:=h;exact ⟨_,h1⟩
 obtain ⟨ob,h1⟩:=this
 exact (Array.getElem?_eq_some_iff.1 h1).1
theorem Own.out {w:World} {Z:Zone} {g cap:Nat} {ov:OV} (h:Own w Z g cap ov):∀o,¬Z g o:=by
 cases ov with
 | row e k es=>obtain ⟨cur,h1,h2,h3,h4,h5,h6,h7,h8⟩:=h;exact h6
 | limb e l=>obtain ⟨cur,h1,h2,h3,h4,h5,h6⟩:=h;exact h5
 | map kd m=>obtain ⟨es,clock,h1,h2,h3,h4⟩:=h;exact h3
theorem Own.size_le {w:World} {Z:Zone} {g cap:Nat} {ov:OV} (h:Own w Z g cap ov):ov.len≤cap∧cap≤maxLen:=by
 cases ov with
 | row e k es=>obtain ⟨cur,h1,h2,h3,h4,h5⟩:=h;exact ⟨h3,h4⟩
 | limb e l=>obtain ⟨cur,h1,h2,h3,h4,h5⟩:=h;exact ⟨h3,h4⟩
 | map kd m=>obtain ⟨es,clock,h1,h2,h3,h4⟩:=h;exact ⟨Nat.zero_le _,h2⟩
theorem RepT.keep {w w':World} {Z Z':Zone} {β:Nat→Nat} {κ:Nat→Nat × Nat} {x:TV} {v:Value} (h:RepT w Z β κ x v) (hk:Keeps Z w w') (hz:∀b o,Z b o→Z' b o):RepT w' Z' β κ x v:=by
 cases x with
 | av a=>exact Rep.keep h hk hz
 | avl a=>exact ⟨Rep.keep h.1 hk hz,h.2⟩
 | _=>exact h
def upd {α:Type} (f:Nat→Option α) (t:Nat) (v:Option α):Nat→Option α:=fun x=>if x=t then v else f x
theorem upd_same {α:Type} (f:Nat→Option α) (t:Nat) (v:Option α):upd f t v t=v:=by simp [upd]
theorem upd_ne {α:Type} (f:Nat→Option α) {t x:Nat} (v:Option α) (h:x≠t):upd f t v x=f x:=by simp [upd,h]
def AS.put (σ:AS) (d:Option Nat) (v:TV):AS :=
 match d with
 | some t=>{ σ with tm:=upd σ.tm t (some v) }
 | none=>σ
def stale (t:Nat):Option TV→Option TV
 | some (.ref t' o)=>if t'=t then none else some (.ref t' o)
 | x=>x
def staleO (t:Nat):Option TV→Option TV
 | some (.osl t' k o n)=>if t'=t then none else some (.osl t' k o n)
 | some (.oref t' k i o)=>if t'=t then none else some (.oref t' k i o)
 | some (.omap t')=>if t'=t then none else some (.omap t')
 | x=>x
def AS.new (σ:AS) (t:Nat) (cs:List AV):AS:={ σ with tm:=upd (fun x=>stale t (σ.tm x)) t (some (.ref t 0)),mem:=upd σ.mem t (some cs) }
def AS.setMem (σ:AS) (t:Nat) (cs:List AV):AS:={ σ with mem:=upd σ.mem t (some cs) }
def AS.setOwn (σ:AS) (t:Nat) (ov:OV):AS:={ σ with own:=upd σ.own t (some ov) }
def AS.newOwn (σ:AS) (t:Option Nat) (d:Nat) (ov:OV):AS :=
 { σ with
  tm:=upd (fun x=>staleO d (match t with|some s=>staleO s (σ.tm x)|none=>σ.tm x)) d (some (.osl d ov.k 0 ov.len)),
  own:=upd (match t with|some s=>upd σ.own s none|none=>σ.own) d (some ov) }
def AS.newMap (σ:AS) (d:Nat) (ov:OV):AS:={ σ with tm:=upd (fun x=>staleO d (σ.tm x)) d (some (.omap d)),own:=upd σ.own d (some ov) }
def AS.dropOwn (σ:AS) (t:Nat):AS:={ σ with tm:=fun x=>staleO t (σ.tm x),own:=upd σ.own t none }
theorem staleO_some {t:Nat} {x:Option TV} {v:TV} (h:staleO t x=some v):x=some v∧(∀k o n,v≠.osl t k o n)∧∀k i o,v≠.oref t k i o:=by
 cases x with
 | none=>cases h
 | some y =>
  cases y with
  | osl t' k o n =>
   simp only [staleO]at h
   split at h
   ·cases h
   ·rename_i hne
    cases h
    exact ⟨rfl,fun _ _ _ e=>(by cases e;exact hne rfl),fun _ _ _ e=>by cases e⟩
  | oref t' k i o =>
   simp only [staleO]at h
   split at h
   ·cases h
   ·rename_i hne
    cases h
    exact ⟨rfl,fun _ _ _ e=>(by cases e),fun _ _ _ e=>by cases e;exact hne rfl⟩
  | omap t' =>
   simp only [staleO]at h
   split at h
   ·cases h
   ·cases h
    exact ⟨rfl,fun _ _ _ e=>(by cases e),fun _ _ _ e=>by cases e⟩
  | _=>cases h;exact ⟨rfl,fun _ _ _ e=>(by cases e),fun _ _ _ e=>by cases e⟩
theorem staleO_omap {t:Nat} {x:Option TV} {v:TV} (h:staleO t x=some v):v≠.omap t:=by
 rintro rfl
 cases x with
 | none=>cases h
 | some y =>
  cases y with
  | omap t' =>
   simp only [staleO]at h
   split at h
   ·cases h
   ·rename_i hne
    cases h
    exact hne rfl
  | osl t' k o n=>simp only [staleO]at h;split at h <;> cases h
  | oref t' k i o=>simp only [staleO]at h;split at h <;> cases h
  | _=>cases h
theorem stale_some {t:Nat} {x:Option TV} {v:TV} (h:stale t x=some v):x=some v∧∀o,v≠.ref t o:=by
 cases x with
 | none=>cases h
 | some y =>
  cases y with
  | ref t' o =>
   simp only [stale]at h
   split at h
   ·cases h
   ·rename_i hne
    cases h
    exact ⟨rfl,fun _ e=>by cases e;exact hne rfl⟩
  | _=>cases h;exact ⟨rfl,fun _ e=>by cases e⟩
section
variable {u:Bool} {w0:Base} {w w':World} {Z0 Z Z':Zone} {σ:AS} {a:Act} {β:Nat→Nat} {κ:Nat→Nat × Nat}
theorem getD_put (a:Act) {t t':Nat} (v:Value) (h:t'≠t):(a.put (some t) v).tmps.getD t' undef=a.tmps.getD t' undef:=by
 simp [Act.put,Array.getElem?_setIfInBounds_ne (Ne.symm h)]
theorem getD_put_same (a:Act) {t:Nat} (v:Value) (h:t<a.tmps.size):(a.put (some t) v).tmps.getD t undef=v:=by
 simp [Act.put,h]
theorem size_put (a:Act) (d:Option Tmp) (v:Value):(a.put d v).tmps.size=a.tmps.size:=by cases d <;> simp [Act.put]
theorem Sim1.put (S:Sim1 u w0 Z0 σ a w Z β κ) {d:Option Nat} {x:TV} {v:Value} (hd:∀t,d=some t→t<a.tmps.size) (h:RepT w Z β κ x v):Sim1 u w0 Z0 (σ.put d x) (a.put d v) w Z β κ:=by
 cases d with
 | none=>exact S
 | some t =>
  refine ⟨S.z0,S.z1,?_,S.mem,S.inj,S.own,S.injO,S.injM,S.al,S.below,S.defers,S.lnk⟩
  intro t' x' hx'
  simp only [AS.put]at hx'
  rw [size_put]
  by_cases e:t'=t
  ·subst e
   rw [upd_same]at hx'
   cases hx'
   have:=hd t' rfl
   exact ⟨this,by rw [getD_put_same a v this];exact h⟩
  ·rw [upd_ne _ _ e]at hx'
   obtain ⟨h1,h2⟩:=S.tm t' x' hx'
   exact ⟨h1,by rw [getD_put a v e];exact h2⟩
theorem Sim1.grow (S:Sim1 u w0 Z0 σ a w Z β κ) (hb:Below w.heap.size w w') (hz:∀b o,Z b o→Z' b o) (hz':∀b o,Z' b o→Z b o∨(w.heap.size≤b∧b<w'.heap.size))
  (hal:u=true→∀b o v,w.heap.size≤b→w'.cell? ⟨b,o,none⟩=some v→noLimb v=false→Z' b o):Sim1 u w0 Z0 σ a w' Z' β κ:=by
 have hk:Keeps Z w w':=Keeps.ofBelow hb
 have hout:∀g,g<w.heap.size→(∀o,¬Z g o)→∀o,¬Z' g o:=fun g hg ho o hz2=>by
  rcases hz' _ _ hz2 with h3|h3
  ·exact ho o h3
  ·omega
 refine ⟨fun b o h=>hz _ _ (S.z0 b o h),fun b o h=>?_,fun t x h=>⟨(S.tm t x h).1,(S.tm t x h).2.keep hk hz⟩,fun t cs h=>?_,S.inj,fun t ov h=>?_,S.injO,S.injM,fun hu b o v hc hl=>?_,S.below.grow hb,S.defers,fun t cs j n len h hj=>?_⟩
 ·rcases hz' b o h with h1|h1
  ·rcases S.z1 b o h1 with h2|h2
   ·exact .inl h2
   ·exact .inr ⟨h2.1,Nat.lt_of_lt_of_le h2.2 hb.size⟩
  ·exact .inr ⟨.inl (Nat.le_trans S.below.size h1.1),h1.2⟩
 ·obtain ⟨h1,h2⟩:=S.mem t cs h
  exact ⟨h1,h2.keep (hb.block _ h2.lt) hk hz (hout _ h2.lt h2.out)⟩
 ·obtain ⟨h1,h2⟩:=S.own t ov h
  exact ⟨h1,h2.keep (hb.block _ h2.lt) hk hz (hout _ h2.lt h2.out)⟩
 ·by_cases hlt:b<w.heap.size
  ·have hc2:w.cell? ⟨b,o,none⟩=some v:=by rw [←hb.cell (p:=⟨b,o,none⟩) hlt];exact hc
   rcases S.al hu b o v hc2 hl with h|h
   ·exact .inl (hz _ _ h)
   ·exact .inr h
  ·exact .inl (hal hu b o v (by omega) hc hl)
 ·rw [hb.cell (p:=⟨β t,j,none⟩) (S.mem t cs h).2.lt]
  exact S.lnk t cs j n len h hj
theorem Sim1.drop (S:Sim1 u w0 Z0 σ a w Z β κ) {τ:AS} (hm:∀t cs,τ.mem t=some cs→σ.mem t=some cs) (ho:∀t ov,τ.own t=some ov→σ.own t=some ov)
  (hz:Z'=fun b o=>Z b o∨(∃t ov,σ.own t=some ov∧τ.own t=none∧(κ t).1=b)∨∃t cs,σ.mem t=some cs∧τ.mem t=none∧β t=b)
  (ht:∀t x,τ.tm t=some x→t<a.tmps.size∧RepT w Z' β κ x (a.tmps.getD t undef)):Sim1 u w0 Z0 τ a w Z' β κ:=by
 have hk:Keeps Z w w:=Keeps.refl _ _
 have hz1:∀b o,Z b o→Z' b o:=fun b o h=>by rw [hz];exact .inl h
 have hne:∀t ov,τ.own t=some ov→∀t' ov',σ.own t'=some ov'→τ.own t'=none→(κ t').1≠(κ t).1:=fun t ov h t' ov' h' hn he=>by
  have:=S.injO t' t ov' ov h' (ho t ov h) he
  subst this
  rw [hn]at h;cases h
 refine ⟨fun b o h=>hz1 _ _ (S.z0 b o h),fun b o h=>?_,ht,fun t cs h=>?_,fun t t' cs cs' h h'=>S.inj t t' cs cs' (hm _ _ h) (hm _ _ h'),fun t ov h=>?_,fun t t' ov ov' h h'=>S.injO t t' ov ov' (ho _ _ h) (ho _ _ h'),fun t t' cs ov h h'=>S.injM t t' cs ov (hm _ _ h) (ho _ _ h'),fun hu b o v hc hl=>?_,S.below,S.defers,fun t cs j n len h hj=>S.lnk t cs j n len (hm t cs h) hj⟩
 ·rw [hz]at h
  rcases h with h|⟨t,ov,h1,_,rfl⟩|⟨t,cs,h1,_,rfl⟩
  ·exact S.z1 b o h
  ·have:=S.own t ov h1
   exact .inr ⟨this.1,this.2.lt⟩
  ·have:=S.mem t cs h1
   exact .inr ⟨this.1,this.2.lt⟩
 ·obtain ⟨h1,h2⟩:=S.mem t cs (hm t cs h)
  refine ⟨h1,h2.keep rfl hk hz1 fun o hzz=>?_⟩
  rw [hz]at hzz
  rcases hzz with hzz|⟨t',ov,q1,_,q2⟩|⟨t',cs',q1,q2,q3⟩
  ·exact h2.out o hzz
  ·exact S.injM t t' cs ov (hm t cs h) q1 q2.symm
  ·have:=S.inj t' t cs' cs q1 (hm t cs h) q3
   rw [this,h]at q2
   cases q2
 ·obtain ⟨h1,h2⟩:=S.own t ov (ho t ov h)
  refine ⟨h1,h2.keep rfl hk hz1 fun o hzz=>?_⟩
  rw [hz]at hzz
  rcases hzz with hzz|⟨t',ov',q1,q2,q3⟩|⟨t',cs',q1,_,q3⟩
  ·exact h2.out o hzz
  ·exact hne t ov h t' ov' q1 q2 q3
  ·exact S.injM t' t cs' ov q1 (ho t ov h) q3
 ·rcases S.al hu b o v hc hl with h|⟨t,ov,h1,h2,h3⟩
  ·exact .inl (hz1 _ _ h)
  ·cases hq:τ.own t with
   | none=>left;rw [hz];exact .inr (.inl ⟨t,ov,h1,hq,h3⟩)
   | some ov' =>
    have:=ho t ov' hq
    rw [h1]at this
    cases this
    exact .inr ⟨t,ov,hq,h2,h3⟩
theorem Sim1.chg (S:Sim1 u w0 Z0 σ a w Z β κ) {τ:AS} {a':Act} {β':Nat→Nat} {κ':Nat→Nat × Nat} (g:Nat) (d dm:Option Nat) (hg0:w0.free g) (hgZ:∀o,¬Z g o) (hc:w.grownBy w' (some g)) (hz:∀b o,Z b o→Z' b o) (hgl:g<w'.heap.size) (hz':∀b o,Z' b o→Z b o∨b=g∨(w.heap.size≤b∧b<w'.heap.size))
  (hone:d=none∨dm=none)
  (hm:∀t cs,τ.mem t=some cs→dm≠some t→σ.mem t=some cs∧β t≠g∧β' t=β t)
  (hdm:∀t cs,τ.mem t=some cs→dm=some t→(β' t=g∨w.heap.size≤β' t)∧Loc w' Z' (β' t) cs)
  (ho:∀t ov,τ.own t=some ov→d≠some t→σ.own t=some ov∧(κ t).1≠g∧κ' t=κ t)
  (hd:∀t ov,τ.own t=some ov→d=some t→((κ' t).1=g∨w.heap.size≤(κ' t).1)∧Own w' Z' (κ' t).1 (κ' t).2 ov)
  (ht:∀t x,τ.tm t=some x→t<a'.tmps.size∧RepT w' Z' β' κ' x (a'.tmps.getD t undef))
  (hdf:a'.defers=[])
  (hal:u=true→∀b o v,(b=g∨w.heap.size≤b)→w'.cell? ⟨b,o,none⟩=some v→noLimb v=false→Z' b o∨∃t ov,τ.own t=some ov∧ov.hot=true∧(κ' t).1=b)
  (hhot:u=true→∀t ov,σ.own t=some ov→ov.hot=true→(κ t).1≠g→τ.own t=some ov∧d≠some t)
  (hkn:∀n,κ' (BIG+n)=κ (BIG+n)) (hlk:∀t cs (j n len:Nat),τ.mem t=some cs→dm=some t→cs[j]? = some (.lnk n len)→w'.cell? ⟨β' t,j,none⟩=some (.slice (some ⟨(κ (BIG+n)).1,0,none⟩) len (κ (BIG+n)).2)):Sim1 u w0 Z0 τ a' w' Z' β' κ':=by
 have hk:Keeps Z w w':=Keeps.ofGrown hc hgZ
 have hout:∀g',g'<w.heap.size→g'≠g→(∀o,¬Z g' o)→∀o,¬Z' g' o:=fun g' hg hne ho o hz2=>by
  rcases hz' _ _ hz2 with h3|h3|h3
  ·exact ho o h3
  ·exact hne h3
  ·omega
 have hblk:∀k,k<w.heap.size→k≠g→w'.heap[k]? = w.heap[k]?:=fun k h1 h2=>hc.block k h1 (by simpa using h2)
 have hms:∀t cs,τ.mem t=some cs→dm≠some t→w0.free (β' t)∧β' t<w.heap.size∧β' t≠g∧Loc w' Z' (β' t) cs:=fun t cs h h2=>by
  obtain ⟨q1,q2,q3⟩:=hm t cs h h2
  obtain ⟨h3,h4⟩:=S.mem t cs q1
  rw [q3]
  exact ⟨h3,h4.lt,q2,h4.keep (hblk _ h4.lt q2) hk hz (hout _ h4.lt q2 h4.out)⟩
 have hos:∀t ov,τ.own t=some ov→d≠some t→w0.free (κ' t).1∧(κ' t).1<w.heap.size∧(κ' t).1≠g∧Own w' Z' (κ' t).1 (κ' t).2 ov:=fun t ov h h2=>by
  obtain ⟨q1,q2,q3⟩:=ho t ov h h2
  obtain ⟨h3,h4⟩:=S.own t ov q1
  rw [q3]
  exact ⟨h3,h4.lt,q2,h4.keep (hblk _ h4.lt q2) hk hz (hout _ h4.lt q2 h4.out)⟩
 have hsz:=S.below.size
 refine ⟨fun b o h=>hz _ _ (S.z0 b o h),fun b o h=>?_,ht,fun t cs h=>?_,fun t t' cs cs' h h' he=>?_,fun t ov h=>?_,fun t t' ov ov' h h' he=>?_,fun t t' cs ov h h' he=>?_,fun hu b o v hcell hl=>?_,?_,hdf,fun t cs j n len h hj=>?_⟩
 ·rcases hz' b o h with h1|rfl|h1
  ·rcases S.z1 b o h1 with h2|h2
   ·exact .inl h2
   ·exact .inr ⟨h2.1,Nat.lt_of_lt_of_le h2.2 hc.size⟩
  ·exact .inr ⟨hg0,hgl⟩
  ·exact .inr ⟨.inl (Nat.le_trans S.below.size h1.1),h1.2⟩
 ·by_cases e:dm=some t
  ·obtain ⟨h1,h2⟩:=hdm t cs h e
   exact ⟨h1.elim (fun e=>by rw [e];exact hg0) (fun e=>.inl (Nat.le_trans S.below.size e)),h2⟩
  ·obtain ⟨h1,_,_,h2⟩:=hms t cs h e
   exact ⟨h1,h2⟩
 ·by_cases e:dm=some t
  ·by_cases e':dm=some t'
   ·rw [e]at e';cases e';rfl
   ·obtain ⟨_,h1,h2,_⟩:=hms t' cs' h' e'
    rcases (hdm t cs h e).1 with h3|h3 <;> omega
  ·by_cases e':dm=some t'
   ·obtain ⟨_,h1,h2,_⟩:=hms t cs h e
    rcases (hdm t' cs' h' e').1 with h3|h3 <;> omega
   ·obtain ⟨q1,_,q3⟩:=hm t cs h e
    obtain ⟨p1,_,p3⟩:=hm t' cs' h' e'
    rw [q3,p3]at he
    exact S.inj t t' cs cs' q1 p1 he
 ·by_cases e:d=some t
  ·obtain ⟨h1,h2⟩:=hd t ov h e
   exact ⟨h1.elim (fun e=>by rw [e];exact hg0) (fun e=>.inl (Nat.le_trans S.below.size e)),h2⟩
  ·obtain ⟨h1,_,_,h2⟩:=hos t ov h e
   exact ⟨h1,h2⟩
 ·by_cases e:d=some t
  ·by_cases e':d=some t'
   ·rw [e]at e';cases e';rfl
   ·obtain ⟨_,h1,h2,_⟩:=hos t' ov' h' e'
    rcases (hd t ov h e).1 with h3|h3 <;> omega
  ·by_cases e':d=some t'
   ·obtain ⟨_,h1,h2,_⟩:=hos t ov h e
    rcases (hd t' ov' h' e').1 with h3|h3 <;> omega
   ·obtain ⟨q1,_,q3⟩:=ho t ov h e
    obtain ⟨p1,_,p3⟩:=ho t' ov' h' e'
    rw [q3,p3]at he
    exact S.injO t t' ov ov' q1 p1 he
 ·by_cases e:dm=some t
  ·by_cases e':d=some t'
   ·rcases hone with hone|hone
    ·rw [hone]at e';cases e'
    ·rw [hone]at e;cases e
   ·obtain ⟨_,h1,h2,_⟩:=hos t' ov h' e'
    rcases (hdm t cs h e).1 with h3|h3 <;> omega
  ·by_cases e':d=some t'
   ·obtain ⟨_,h1,h2,_⟩:=hms t cs h e
    rcases (hd t' ov h' e').1 with h3|h3 <;> omega
   ·obtain ⟨q1,_,q3⟩:=hm t cs h e
    obtain ⟨p1,_,p3⟩:=ho t' ov h' e'
    rw [q3,p3]at he
    exact S.injM t t' cs ov q1 p1 he
 ·by_cases hb:b=g∨w.heap.size≤b
  ·exact hal hu b o v hb hcell hl
  ·have hlt:b<w.heap.size:=by omega
   have hc2:w.cell? ⟨b,o,none⟩=some v:=by
    rw [←World.cell?_of_block (a:=⟨b,o,none⟩) (hblk b hlt (by omega))];exact hcell
   rcases S.al hu b o v hc2 hl with h|⟨t,ov,h1,h2,h3⟩
   ·exact .inl (hz _ _ h)
   ·obtain ⟨q1,q2⟩:=hhot hu t ov h1 h2 (by omega)
    exact .inr ⟨t,ov,q1,h2,by rw [(ho t ov q1 q2).2.2];exact h3⟩
 ·exact S.below.chg hg0 hc
 ·rw [hkn]
  by_cases e:dm=some t
  ·exact hlk t cs j n len h e hj
  ·obtain ⟨q1,q2,q3⟩:=hm t cs h e
   rw [q3,World.cell?_of_block (a:=⟨β t,j,none⟩) (hblk _ (S.mem t cs q1).2.lt q2)]
   exact S.lnk t cs j n len q1 hj
end
end Go.Proofs.YtmekiphpjpblpaaGreat
