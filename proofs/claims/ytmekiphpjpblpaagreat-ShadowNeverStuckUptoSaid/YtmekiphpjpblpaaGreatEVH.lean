import Derived.Test.YtmekiphpjpblpaaGreatEVG
/- Text VH. -/
set_option linter.unusedSimpArgs false
set_option linter.unusedVariables false
set_option maxHeartbeats 40000000
set_option maxRecDepth 100000
namespace Go.Proofs.YtmekiphpjpblpaaGreat
open Go.RowKit Lim
section
variable {C:Ctx} {u:Bool} {w0:Base} {w w':World} {Z0 Z Z':Zone} {σ τ:AS} {a:Act} {β:Nat→Nat} {κ:Nat→Nat × Nat}
theorem splice_all {α:Type} {p:α→Bool} {cs xs:List α} {o:Nat} (h1:cs.all p=true) (h2:xs.all p=true):(splice cs o xs).all p=true:=by
 rw [List.all_eq_true]at *
 intro v hv
 simp only [splice,List.mem_append]at hv
 rcases hv with (hv|hv)|hv
 ·exact h1 v (List.mem_of_mem_take hv)
 ·exact h2 v hv
 ·exact h1 v (List.mem_of_mem_drop hv)
theorem RowR.set {k j q:Nat} {es:List AV} {cur:Array Value} (h:RowR w Z k es cur) (hk:0<k) {el z:AV} {x:Value} (hj:es[j]? = some el) (hz:Rep w Z z x) (ho:z.cells.all AV.one=true) (hq:q+z.cells.length≤k) (hsz:es.length*k≤cur.size) :
  RowR w Z k (es.set j (mkEl k (splice el.cells q z.cells))) (layV cur (j*k+q) x.cells):=by
 obtain ⟨hjl,rfl⟩:=List.getElem?_eq_some_iff.1 hj
 obtain ⟨p1,p2,p3⟩:=h j hjl
 obtain ⟨z1,z2⟩:=hz.cells
 have hcl:(mkEl k (splice (es[j]).cells q z.cells)).cells=splice (es[j]).cells q z.cells:=mkEl_cells hk (by rw [splice_len (by omega)];exact p1) (splice_all p2 ho)
 have hfit:j*k+q+x.cells.size≤cur.size:=by
  have:=row_lt (i:=j) (j:=k-1) (k:=k) (n:=es.length) hjl (by omega)
  omega
 have hlay:∀m,(layV cur (j*k+q) x.cells)[m]? = if j*k+q≤m∧m<j*k+q+x.cells.size then x.cells[m-(j*k+q)]? else cur[m]?:=fun m=>by
  rw [layV_eq hfit,List.getElem?_toArray,splice_get? (by simpa using hfit)]
  simp
 intro i hi
 simp at hi
 by_cases e:i=j
 ·subst e
  simp only [List.getElem_set_self]
  refine ⟨by rw [hcl,splice_len (by omega)];exact p1,by rw [hcl];exact splice_all p2 ho,fun m hm=>?_⟩
  have hmk:m<k:=by rw [hcl,splice_len (by omega),p1]at hm;exact hm
  simp only [hcl]
  have hs:=splice_get? (cs:=(es[i]).cells) (xs:=z.cells) (o:=q) (by omega) m
  rw [List.getElem?_eq_getElem (by rw [hcl]at hm;exact hm)]at hs
  rw [hlay]
  by_cases hin:q≤m∧m<q+z.cells.length
  ·rw [if_pos hin]at hs
   rw [if_pos ⟨by omega,by omega⟩]
   have e1:i*k+m-(i*k+q)=m-q:=by omega
   rw [e1]
   have hlt:m-q<x.cells.size:=by omega
   refine ⟨x.cells[m-q],Array.getElem?_eq_getElem hlt,?_⟩
   obtain ⟨g1,g2⟩:=List.getElem?_eq_some_iff.1 hs.symm
   rw [←g2]
   exact z2 _ g1 hlt
  ·rw [if_neg hin]at hs
   rw [if_neg (by omega)]
   obtain ⟨g1,g2⟩:=List.getElem?_eq_some_iff.1 hs.symm
   obtain ⟨v,q1,q2⟩:=p3 m g1
   exact ⟨v,q1,by rw [←g2];exact q2⟩
 ·have e1:(es.set j (mkEl k (splice (es[j]).cells q z.cells)))[i]'(by simpa using hi)=es[i]:=by rw [List.getElem_set_ne (Ne.symm e)]
  simp only [e1]
  obtain ⟨r1,r2,r3⟩:=h i hi
  refine ⟨r1,r2,fun m hm=>?_⟩
  obtain ⟨v,q1,q2⟩:=r3 m hm
  refine ⟨v,?_,q2⟩
  rw [hlay,if_neg]
  ·exact q1
  ·rintro ⟨h1,h2⟩
   have hmk:m<k:=by omega
   rcases Nat.lt_or_gt_of_ne e with hlt|hgt
   ·have:=row_lt (i:=i) (j:=m) (k:=k) (n:=j) hlt hmk
    omega
   ·have:(j+1)*k≤i*k:=Nat.mul_le_mul_right k hgt
    rw [Nat.add_mul]at this
    omega
theorem layV_mem {vs xs:Array Value} {o:Nat} {c:Value} (h:c∈(layV vs o xs).toList) (hf:o+xs.size≤vs.size):c∈vs.toList∨c∈xs.toList:=by
 rw [layV_eq hf]at h
 simp only [splice,List.mem_append]at h
 rcases h with (h|h)|h
 ·exact .inl (List.mem_of_mem_take h)
 ·exact .inr h
 ·exact .inl (List.mem_of_mem_drop h)
theorem run_storeVar {ty:TypeId} {i:TI} (h:TIOK C.P ty i) {g o:Nat} {old:Array Value} {bt:TypeId} (hb:Box w g old bt) {z:AV} {x:Value} (hz:Rep w Z z x) (hl:z.cells.length=i.zero.length) (ho:z.cells.all AV.oneM=true) (hf:o+z.cells.length≤old.size) :
  (Instr.storeAt ty (.pointer (some ⟨g,o,none⟩)) x).run C.P w=.ok () (w.setRow g (layV old o x.cells)):=by
 obtain ⟨info,_,i1,i2,_⟩:=h.inf
 obtain ⟨c1,c2⟩:=hz.cells
 have hone:∀v∈x.cells.toList,v.oneCell'=true:=fun v hv=>by
  obtain ⟨j,hj,rfl⟩:=List.mem_iff_getElem.1 hv
  simp at hj
  have:=(c2 j (by omega) hj).oneM (List.all_eq_true.1 ho _ (List.getElem_mem (by omega)))
  simpa using this
 have hst:=run_storeCells_at C.P g o bt x.cells.toList 0 old w hb (by simp;omega) hone
 have hlay:layV old o x.cells=(old.toList.take (o+0) ++ x.cells.toList ++ old.toList.drop (o+0+x.cells.toList.length)).toArray:=by
  rw [layV_eq (by omega)]
  simp [splice]
 simp only [Instr.storeAt,Instr.sureAddr,storeVar,Sem.run_bind,Sem.run_pure,Result.andThen_ok,run_size i1]
 rw [if_neg (by simp;omega)]
 simp only [Sem.run_bind,Sem.run_pure,Result.andThen_ok,hst,hlay]
theorem run_enter {P:Program} {f:FuncId} (h:FnOK P f) (args:Array Value) (w:World):(callFunc f args).run P w=.ok (.enter f args) w:=by
 obtain ⟨fn,h1,h2,h3⟩:=h
 simp only [callFunc,Sem.run_bind,run_program,Result.andThen_ok,h1,h2,h3,Bool.false_eq_true,if_false]
 rfl
theorem flat_get (z:List AV):∀(n j:Nat),j<n*z.length→(List.replicate n z).flatten[j]? = z[j % z.length]?
 | 0,j,h=>by omega
 | n+1,j,h=>by
  rw [List.replicate_succ,List.flatten_cons]
  by_cases hj:j<z.length
  ·rw [List.getElem?_append_left hj,Nat.mod_eq_of_lt hj]
  ·rw [List.getElem?_append_right (by omega),flat_get z n (j-z.length) (by rw [Nat.add_mul]at h;omega)]
   congr 1
   exact (Nat.mod_eq_sub_mod (by omega)).symm
theorem flat_len (z:List AV) (n:Nat):(List.replicate n z).flatten.length=n*z.length:=by simp
theorem places_get (k:Nat) (e:TypeId):∀(n o f:Nat) (p:Nat × Nat × TypeId),(places k e n o)[f]? = some p→p=(o+f*k,k,e)∧f<n
 | 0,o,f,p,h=>by simp [places]at h
 | n+1,o,f,p,h=>by
  cases f with
  | zero=>simp [places]at h;subst h;simp
  | succ f =>
   simp only [places,List.getElem?_cons_succ]at h
   obtain ⟨h1,h2⟩:=places_get k e n (o+k) f p h
   refine ⟨?_,by omega⟩
   rw [h1,Nat.add_mul]
   congr 1
   omega
theorem natsR_sound:∀(cs:List AV) (ns:List Nat),natsR cs ns→Dig ns∧cs.length=ns.length∧∀(j:Nat) (x:Nat),ns[j]? = some x→cs[j]? = some (.lit (.int .u32 (x:Nat)))
 | [],ns,h=>by
  cases h
  exact ⟨dig_nil,rfl,fun j x hx=>by simp at hx⟩
 | c :: cs,ns,h=>by
  unfold natsR at h
  split at h
  ·rename_i heq;cases heq
  ·rename_i x es heq
   cases heq
   obtain ⟨h0,h1,l',h2,rfl⟩:=h
   obtain ⟨q1,q2,q3⟩:=natsR_sound cs l' h2
   refine ⟨fun y hy=>?_,by simp [q2],fun j y hy=>?_⟩
   ·simp at hy
    rcases hy with rfl|hy
    ·omega
    ·exact q1 y hy
   ·cases j with
    | zero =>
     simp at hy
     subst hy
     simp [Int.toNat_of_nonneg h0]
    | succ j =>
     simp at hy
     simpa using q3 j y hy
  ·exact h.elim
theorem run_buildSliceV {ty e:TypeId} {n:Nat} {z:List AV} {k bb:Nat} {l:Bool} {ts:List Nat} (S:Sim1 u w0 Z0 σ a w Z β κ) (h1:C.T ty=some ⟨.slc e k l,z,bb⟩) {i:TI} (h2:C.T e=some i) (h3:i.zero.length=k) (h4:0<k) (h5:n*k≤16777216) {parts:Array (Nat × Operand)} {cs:List AV}
  (h6:fillV C.T σ (places k e n 0) (List.replicate n i.zero).flatten parts.toList=some cs) (hts:∀t∈σ.usedL (parts.toList.map (·.2)),ts.contains t=true) :
  ∃vs:Array Value,(Instr.buildSlice ty n (parts.map fun (i,x)=>(i,a.eval x))).run C.P w=.ok (.slice (some ⟨w.heap.size,0,none⟩) n n) (w.alloc (.cells vs e))∧Rep w (frzZ σ κ ts Z) (.agg cs) (.agg vs):=by
 obtain ⟨u1,ei,u2,u3⟩:=(C.hT _ _ h1).und
 obtain ⟨zv,z1,z2⟩:=run_zero (C.hT _ _ h2) w
 obtain ⟨y1,y2⟩:=Rep.agg_iff.1 (z2 w (frzZ σ κ ts Z))
 have hzs:zv.cells.size=k:=by rw [y1,h3]
 have hstart:Rep w (frzZ σ κ ts Z) (.agg (List.replicate n i.zero).flatten) (.agg ((Array.range (n*k)).map (zv.cells[· % zv.cells.size]!))):=by
  refine Rep.agg_iff.2 ⟨by simp [h3],fun j x u q1 q2=>?_⟩
  have hj:j<n*k:=by have:=(List.getElem?_eq_some_iff.1 q1).1;rw [flat_len,h3]at this;exact this
  rw [flat_get i.zero n j (by rw [h3];exact hj),h3]at q1
  have hjk:j % k<k:=Nat.mod_lt _ h4
  refine y2 (j % k) x u q1 ?_
  simp [Array.getElem?_map,hj,hzs]at q2
  rw [←q2,getElem!_pos zv.cells (j % k) (by omega)]
  exact Array.getElem?_eq_getElem (by omega)
 obtain ⟨vs',q1,q2⟩:=fillV_sound S (T:=C.T) (ts:=ts) (place:=fun i=>some (i*k,k)) (fs:=places k e n 0) (fun f o m t hf=>by
  obtain ⟨hp,_⟩:=places_get k e n 0 f _ hf
  simp at hp
  obtain ⟨rfl,rfl,_⟩:=hp
  rfl) parts.toList _ _ cs hstart h6 hts
 refine ⟨vs',?_,q2⟩
 have ep:(parts.map fun (i,x)=>(i,a.eval x)).toList=parts.toList.map fun x=>(x.1,a.eval x.2):=by simp
 have q1':Instr.fill (fun i=>some (i*k,k)) ((Array.range (n*k)).map (zv.cells[· % zv.cells.size]!)) (parts.toList.map fun x=>(x.1,a.eval x.2))=some vs':=q1
 by_cases hn:n*k=0
 ·have e0:(Array.range (n*k)).map (zv.cells[· % zv.cells.size]!)=(Array.range (n*k)).map ((#[]:Array Value)[· % (#[]:Array Value).size]!):=by rw [hn];simp
  rw [e0]at q1'
  simp only [Instr.buildSlice,Sem.run_bind,run_under u1,run_size u2,u3,Result.andThen_ok,show ¬(n*k > 2 ^ 24)by omega,if_false,Sem.run_pure,if_pos hn,ep,q1']
  rfl
 ·simp only [Instr.buildSlice,Sem.run_bind,run_under u1,run_size u2,u3,Result.andThen_ok,show ¬(n*k > 2 ^ 24)by omega,if_false,Sem.run_pure,if_neg hn,ep,z1,q1']
  rfl
def Fit (w0:Base) (N:Nat) (a:Act):Prop:=a.tmps.size=N∧∀t,t<w0.np→a.tmps.getD t undef=w0.val t
theorem Fit.put {w0:Base} {N:Nat} {a:Act} {d:Option Nat} {v:Value} (h:Fit w0 N a) (hd:∀t,d=some t→w0.np≤t∧t<N∧t<BIG):Fit w0 N (a.put d v):=by
 refine ⟨by rw [size_put,h.1],fun t ht=>?_⟩
 cases d with
 | none=>exact h.2 t ht
 | some s =>
  have:=(hd s rfl).1
  rw [getD_put a v (show t≠s by omega)]
  exact h.2 t ht
theorem Fit.lt {w0:Base} {N:Nat} {a:Act} {d:Option Nat} (h:Fit w0 N a) (hd:∀t,d=some t→w0.np≤t∧t<N∧t<BIG):∀t,d=some t→t<a.tmps.size:=fun t ht=>by rw [h.1];exact (hd t ht).2.1
def Sim (u:Bool) (w0:Base) (Z0:Zone) (N:Nat) (σ:AS) (a:Act) (w:World):Prop:=(∃Z β κ,Sim1 u w0 Z0 σ a w Z β κ)∧Fit w0 N a
end
end Go.Proofs.YtmekiphpjpblpaaGreat
