import Derived.Test.YtmekiphpjpblpaaGreatEVE
/- Text VF. -/
set_option linter.unusedSimpArgs false
set_option linter.unusedVariables false
set_option maxHeartbeats 40000000
set_option maxRecDepth 100000
namespace Go.Proofs.YtmekiphpjpblpaaGreat
open Go.RowKit Lim
def OV.e:OV→TypeId
 | .row e _ _=>e
 | .limb e _=>e
 | .map _ _=>0
def OV.isMap:OV→Bool
 | .map _ _=>true
 | _=>false
def Fits (w:World) (Z:Zone) (cur:Array Value):OV→Prop
 | .row _ k es=>(∀c∈cur.toList,noLimb c=true)∧RowR w Z k es cur
 | .limb _ l=>Dig l∧∀i (hi:i<l.length),cur[i]? = some (.int .u32 (l[i]:Nat))
 | .map _ _=>False
def NewsR (w:World) (Z:Zone) (news:List Value):AV→Prop
 | .sl k ys=>news.length=ys.length*k∧∀i (hi:i<ys.length),(ys[i]'hi).cells.length=k∧∀j (hj:j<(ys[i]'hi).cells.length),∃u,news[i*k+j]? = some u∧Rep w Z ((ys[i]'hi).cells[j]'hj) u
 | .nat ys=>news=(ys.map fun x=>Value.int .u32 (x:Nat))∧Dig ys
 | _=>False
def AV.slK (k:Nat):AV→Prop
 | .sl k' _=>k'=k
 | .nat _=>k=1
 | _=>False
def AV.cnt:AV→Nat
 | .sl _ ys=>ys.length
 | .nat ys=>ys.length
 | _=>0
section
variable {C:Ctx} {u:Bool} {w0:Base} {w w':World} {Z0 Z Z':Zone} {σ τ:AS} {a:Act} {β:Nat→Nat} {κ:Nat→Nat × Nat}
theorem Own.of {g cap:Nat} {ov:OV} {cur:Array Value} (h1:w.heap[g]? = some (.cells cur ov.e (0,0))) (h2:cur.size=cap*ov.k) (h3:ov.len≤cap) (h4:cap≤maxLen) (h5:0<ov.k) (h6:∀o,¬Z g o) (h7:Fits w Z cur ov):Own w Z g cap ov:=by
 cases ov with
 | row e k es=>exact ⟨cur,h1,h2,h3,h4,h5,h6,h7.1,h7.2⟩
 | limb e l=>exact ⟨cur,h1,by rw [h2,OV.k,Nat.mul_one],h3,h4,h6,h7.1,h7.2⟩
 | map kd m=>exact h7.elim
theorem Own.to {g cap:Nat} {ov:OV} (h:Own w Z g cap ov) (hk:ov.isMap=false):∃cur,w.heap[g]? = some (.cells cur ov.e (0,0))∧cur.size=cap*ov.k∧ov.len≤cap∧cap≤maxLen∧0<ov.k∧(∀o,¬Z g o)∧Fits w Z cur ov:=by
 cases ov with
 | row e k es=>obtain ⟨cur,h1,h2,h3,h4,h5,h6,h7,h8⟩:=h;exact ⟨cur,h1,h2,h3,h4,h5,h6,h7,h8⟩
 | limb e l=>obtain ⟨cur,h1,h2,h3,h4,h5,h6,h7⟩:=h;exact ⟨cur,h1,by rw [h2,OV.k,Nat.mul_one],h3,h4,by simp [OV.k],h5,h6,h7⟩
 | map kd m=>cases hk
theorem Fits.keep {cur:Array Value} {ov:OV} (h:Fits w Z cur ov) (hk:Keeps Z w w') (hz:∀b o,Z b o→Z' b o):Fits w' Z' cur ov:=by
 cases ov with
 | row e k es=>exact ⟨h.1,h.2.keep hk hz⟩
 | limb e l=>exact h
 | map kd m=>exact h
theorem NewsR.keep {news:List Value} {y:AV} (h:NewsR w Z news y) (hk:Keeps Z w w') (hz:∀b o,Z b o→Z' b o):NewsR w' Z' news y:=by
 cases y with
 | sl k ys =>
  refine ⟨h.1,fun i hi=>⟨(h.2 i hi).1,fun j hj=>?_⟩⟩
  obtain ⟨v,q1,q2⟩:=(h.2 i hi).2 j hj
  exact ⟨v,q1,q2.keep hk hz⟩
 | nat ys=>exact h
 | _=>exact h
theorem take_get {α:Type} {l xs:List α} {n j:Nat} (h:l.take n=xs) (hj:j<n):l[j]? = xs[j]?:=by
 rw [←h,List.getElem?_take_of_lt hj]
theorem row_lt {i j k n:Nat} (hi:i<n) (hj:j<k):i*k+j<n*k:=by
 have:(i+1)*k≤n*k:=Nat.mul_le_mul_right k hi
 rw [Nat.add_mul]at this
 omega
theorem Fits.app {cur cur':Array Value} {ov ov':OV} {y:AV} {news:List Value} (h:Fits w Z cur ov) (hn:NewsR w Z news y) (ha:ov.app y=some ov') (hs:ov.len*ov.k≤cur.size) (ht:cur'.toList.take (ov'.len*ov.k)=cur.toList.take (ov.len*ov.k) ++ news) (hl:ov.hot=false→∀c∈cur'.toList,noLimb c=true):Fits w Z cur' ov':=by
 cases ov with
 | row e k es =>
  cases y with
  | sl k' ys =>
   simp only [OV.app]at ha
   split at ha
   ·rename_i hc
    cases ha
    obtain ⟨rfl,hall⟩:=hc
    obtain ⟨n1,n2⟩:=hn
    simp only [OV.len,OV.k]at ht hs
    refine ⟨hl rfl,fun i hi=>?_⟩
    have htl:(cur.toList.take (es.length*k')).length=es.length*k':=by simp;omega
    have get:∀j,j<(es ++ ys).length*k'→cur'[j]? = (cur.toList.take (es.length*k') ++ news)[j]?:=fun j hj=>by
     rw [←Array.getElem?_toList]
     exact take_get ht hj
    by_cases hlt:i<es.length
    ·obtain ⟨p1,p2,p3⟩:=h.2 i hlt
     have e1:(es ++ ys)[i]'hi=es[i]:=List.getElem_append_left hlt
     simp only [e1]
     refine ⟨p1,p2,fun j hj=>?_⟩
     obtain ⟨v,q1,q2⟩:=p3 j hj
     refine ⟨v,?_,q2⟩
     have hjk:j<k':=by omega
     have hr:=row_lt hlt hjk
     rw [get _ (row_lt hi hjk),List.getElem?_append_left (by omega),List.getElem?_take_of_lt hr,Array.getElem?_toList]
     exact q1
    ·simp at hi
     have e1:(es ++ ys)[i]'(by simp;omega)=ys[i-es.length]:=List.getElem_append_right (by omega)
     simp only [e1]
     obtain ⟨p1,p3⟩:=n2 (i-es.length) (by omega)
     have hm:=List.all_eq_true.1 hall _ (List.getElem_mem (show i-es.length<ys.length by omega))
     simp only [Bool.and_eq_true]at hm
     refine ⟨p1,hm.1,fun j hj=>?_⟩
     obtain ⟨v,q1,q2⟩:=p3 j hj
     refine ⟨v,?_,q2⟩
     have hjk:j<k':=by omega
     have hi2:i<(es ++ ys).length:=by simp;omega
     have e2:i*k'+j-es.length*k'=(i-es.length)*k'+j:=by
      have:es.length*k'≤i*k':=Nat.mul_le_mul_right k' (by omega)
      rw [Nat.sub_mul]
      omega
     rw [get _ (row_lt hi2 hjk),List.getElem?_append_right (by rw [htl];have:es.length*k'≤i*k':=Nat.mul_le_mul_right k' (by omega);omega),htl,e2]
     exact q1
   ·cases ha
  | _=>cases ha
 | map kd m=>exact h.elim
 | limb e l =>
  cases y with
  | nat ys =>
   cases ha
   obtain ⟨rfl,n2⟩:=hn
   simp only [OV.len,OV.k,Nat.mul_one]at ht hs
   refine ⟨fun x hx=>?_,fun i hi=>?_⟩
   ·rcases List.mem_append.1 hx with hx|hx
    ·exact h.1 x hx
    ·exact n2 x hx
   ·have htl:(cur.toList.take l.length).length=l.length:=by simp;omega
    have get:cur'[i]? = (cur.toList.take l.length ++ ys.map fun x=>Value.int .u32 (x:Nat))[i]?:=by
     rw [←Array.getElem?_toList]
     exact take_get ht hi
    rw [get]
    by_cases hlt:i<l.length
    ·rw [List.getElem?_append_left (by omega),List.getElem?_take_of_lt hlt,Array.getElem?_toList,h.2 i hlt,List.getElem_append_left hlt]
    ·simp at hi
     rw [List.getElem?_append_right (by omega),htl,List.getElem?_map,List.getElem?_eq_getElem (by omega),List.getElem_append_right (by omega)]
     rfl
  | _=>cases ha
theorem Fits.over {cur:Array Value} {ov ov':OV} {y:AV} {news:List Value} {off:Nat} (h:Fits w Z cur ov) (hn:NewsR w Z news y) (ha:ov.over off y=some ov') (hs:ov.len*ov.k≤cur.size):news.length=y.cnt*ov.k∧off+y.cnt≤ov.len∧ov'.len=ov.len∧ov'.k=ov.k∧ov'.e=ov.e∧ov'.hot=ov.hot ∧
  Fits w Z (splice cur.toList (off*ov.k) news).toArray ov':=by
 cases ov with
 | row e k es =>
  cases y with
  | sl k' ys =>
   simp only [OV.over]at ha
   split at ha
   ·rename_i hc
    cases ha
    obtain ⟨rfl,hle,hall⟩:=hc
    obtain ⟨n1,n2⟩:=hn
    simp only [OV.len,OV.k,AV.cnt]at hs ⊢
    have hfit:off*k'+news.length≤cur.toList.length:=by
     rw [n1,←Nat.add_mul]
     have:(off+ys.length)*k'≤es.length*k':=Nat.mul_le_mul_right k' hle
     simp
     omega
    have hlen:(es.take off ++ ys ++ es.drop (off+ys.length)).length=es.length:=by simp;omega
    refine ⟨n1,hle,hlen,(by first|rfl|trivial),rfl,rfl,?_,fun i hi=>?_⟩
    ·intro c hc
     simp only [splice]at hc
     rcases List.mem_append.1 hc with hc|hc
     ·rcases List.mem_append.1 hc with hc|hc
      ·exact h.1 c (List.mem_of_mem_take hc)
      ·obtain ⟨q,hq,rfl⟩:=List.mem_iff_getElem.1 hc
       rw [n1]at hq
       have hk0:0<k':=by
        rcases Nat.eq_zero_or_pos k' with h0|h0
        ·subst h0;simp at hq
        ·exact h0
       have hdiv:q / k'<ys.length:=Nat.div_lt_of_lt_mul (by rw [Nat.mul_comm];exact hq)
       obtain ⟨p1,p3⟩:=n2 (q / k') hdiv
       obtain ⟨v,q1,q2⟩:=p3 (q % k') (by rw [p1];exact Nat.mod_lt _ hk0)
       have e1:q / k'*k'+q % k'=q:=by rw [Nat.mul_comm];exact Nat.div_add_mod q k'
       rw [e1,List.getElem?_eq_getElem (by omega)]at q1
       cases q1
       have hm:=List.all_eq_true.1 hall _ (List.getElem_mem hdiv)
       simp only [Bool.and_eq_true]at hm
       exact q2.noLimb (List.all_eq_true.1 hm.2 _ (List.getElem_mem _))
     ·exact h.1 c (List.mem_of_mem_drop hc)
    ·rw [hlen]at hi
     have hcut:∀j,j<k'→(splice cur.toList (off*k') news)[i*k'+j]? = if off≤i∧i<off+ys.length then news[(i-off)*k'+j]? else cur.toList[i*k'+j]?:=fun j hj=>by
      rw [splice_get? hfit,n1]
      by_cases hin:off≤i∧i<off+ys.length
      ·have h1:off*k'≤i*k':=Nat.mul_le_mul_right k' hin.1
       have h2:=row_lt hin.2 hj
       rw [Nat.add_mul]at h2
       rw [if_pos ⟨by omega,h2⟩,if_pos hin]
       congr 1
       rw [Nat.sub_mul]
       omega
      ·rw [if_neg hin,if_neg]
       rintro ⟨h1,h2⟩
       apply hin
       constructor
       ·apply Nat.le_of_not_lt
        intro hc
        have:=row_lt hc hj
        omega
       ·apply Nat.lt_of_not_le
        intro hc
        have:(off+ys.length)*k'≤i*k':=Nat.mul_le_mul_right k' hc
        rw [Nat.add_mul]at this
        omega
     by_cases hin:off≤i∧i<off+ys.length
     ·have e1:(es.take off ++ ys ++ es.drop (off+ys.length))[i]'(by omega)=ys[i-off]:=by
       rw [List.getElem_append_left (by simp;omega),List.getElem_append_right (by simp;omega)]
       congr 1
       simp
       omega
      simp only [e1]
      obtain ⟨p1,p3⟩:=n2 (i-off) (by omega)
      have hm:=List.all_eq_true.1 hall _ (List.getElem_mem (show i-off<ys.length by omega))
      simp only [Bool.and_eq_true]at hm
      refine ⟨p1,hm.1,fun j hj=>?_⟩
      obtain ⟨v,q1,q2⟩:=p3 j hj
      refine ⟨v,?_,q2⟩
      rw [List.getElem?_toArray,hcut j (by omega),if_pos hin]
      exact q1
     ·have e1:(es.take off ++ ys ++ es.drop (off+ys.length))[i]'(by omega)=es[i]:=by
       by_cases hlo:i<off
       ·rw [List.getElem_append_left (by simp;omega),List.getElem_append_left (by simp;omega),List.getElem_take]
       ·rw [List.getElem_append_right (by simp;omega),List.getElem_drop]
        congr 1
        simp
        omega
      simp only [e1]
      obtain ⟨p1,p2,p3⟩:=h.2 i hi
      refine ⟨p1,p2,fun j hj=>?_⟩
      obtain ⟨v,q1,q2⟩:=p3 j hj
      refine ⟨v,?_,q2⟩
      rw [List.getElem?_toArray,hcut j (by omega),if_neg hin,Array.getElem?_toList]
      exact q1
   ·cases ha
  | _=>cases ha
 | map kd m=>exact h.elim
 | limb e l =>
  cases y with
  | nat ys =>
   simp only [OV.over]at ha
   split at ha
   ·rename_i hle
    cases ha
    obtain ⟨rfl,n2⟩:=hn
    simp only [OV.len,OV.k,AV.cnt,Nat.mul_one]at hs ⊢
    have hlen:(l.take off ++ ys ++ l.drop (off+ys.length)).length=l.length:=by simp;omega
    refine ⟨by simp,hle,hlen,(by first|rfl|trivial),rfl,rfl,fun x hx=>?_,fun i hi=>?_⟩
    ·rcases List.mem_append.1 hx with hx|hx
     ·rcases List.mem_append.1 hx with hx|hx
      ·exact h.1 x (List.mem_of_mem_take hx)
      ·exact n2 x hx
     ·exact h.1 x (List.mem_of_mem_drop hx)
    ·rw [hlen]at hi
     rw [List.getElem?_toArray,splice_get? (by simp;omega)]
     simp only [List.length_map]
     by_cases hin:off≤i∧i<off+ys.length
     ·rw [if_pos hin,List.getElem?_map,List.getElem?_eq_getElem (by omega)]
      have e1:(l.take off ++ ys ++ l.drop (off+ys.length))[i]'(by omega)=ys[i-off]:=by
       rw [List.getElem_append_left (by simp;omega),List.getElem_append_right (by simp;omega)]
       congr 1
       simp
       omega
      rw [e1]
      rfl
     ·rw [if_neg hin,Array.getElem?_toList,h.2 i hi]
      have e1:(l.take off ++ ys ++ l.drop (off+ys.length))[i]'(by omega)=l[i]:=by
       by_cases hlo:i<off
       ·rw [List.getElem_append_left (by simp;omega),List.getElem_append_left (by simp;omega),List.getElem_take]
       ·rw [List.getElem_append_right (by simp;omega),List.getElem_drop]
        congr 1
        simp
        omega
      rw [e1]
   ·cases ha
  | _=>cases ha
theorem news_of {T:TyTab} (S:Sim1 u w0 Z0 σ a w Z β κ) {ty:TypeId} {x:TV} {y:AV} {v:Value} (hx:RepT w Z β κ x v) (h:σ.argT T ty x=some y) {k:Nat} (hk:0<k) (hy:y.slK k) (hpos:0<y.cnt) :
  ∃b off c news,v=.slice (some ⟨b,off,none⟩) y.cnt c∧news.length=y.cnt*k∧(∀j u,news[j]? = some u→w.cell? ((⟨b,off,none⟩:Addr).add j)=some u)∧NewsR w Z news y:=by
 have av:∀{y:AV},Rep w Z y v→y.slK k→0<y.cnt→∃b off c news,v=.slice (some ⟨b,off,none⟩) y.cnt c∧news.length=y.cnt*k∧(∀j u,news[j]? = some u→w.cell? ((⟨b,off,none⟩:Addr).add j)=some u)∧NewsR w Z news y:=fun {y} hr hy hpos=>by
  cases y with
  | sl k2 ys =>
   have hy:k2=k:=hy
   subst hy
   cases hr with
   | nil=>simp [AV.cnt]at hpos
   | sl vs hb hc hkk hm hr =>
    rename_i b off c
    refine ⟨b,off,c,(List.range (ys.length*k2)).map fun q=>vs (q / k2) (q % k2),rfl,by simp [AV.cnt],fun j u hj=>?_,by simp,fun i hi=>⟨hkk i hi,fun j hj=>?_⟩⟩
    ·obtain ⟨q1,q2⟩:=List.getElem?_eq_some_iff.1 hj
     simp at q1
     simp at q2
     subst q2
     have hdiv:j / k2<ys.length:=Nat.div_lt_of_lt_mul (by rw [Nat.mul_comm];exact q1)
     have:=(hm (j / k2) (j % k2) hdiv (Nat.mod_lt _ hk)).1
     have e1:j / k2*k2+j % k2=j:=by rw [Nat.mul_comm];exact Nat.div_add_mod j k2
     rw [Nat.add_assoc,e1]at this
     rw [add_addr]
     exact this
    ·have hjk:j<k2:=by rw [←hkk i hi];exact hj
     refine ⟨vs i j,?_,hr i hi j hj⟩
     rw [List.getElem?_map,List.getElem?_range (row_lt hi hjk)]
     have e1:(i*k2+j) / k2=i:=by rw [Nat.mul_comm,Nat.mul_add_div hk,Nat.div_eq_of_lt hjk];rfl
     have e2:(i*k2+j) % k2=j:=by rw [Nat.mul_comm,Nat.mul_add_mod,Nat.mod_eq_of_lt hjk]
     simp [e1,e2]
  | nat l =>
   have hy:k=1:=hy
   subst hy
   cases hr with
   | nat hr hc hz =>
    obtain ⟨b,off,rfl,hb,hcell⟩:=hr.2 hpos
    refine ⟨b,off,_,l.map fun x=>Value.int .u32 (x:Nat),rfl,by simp [AV.cnt],fun j u hj=>?_,rfl,hr.1⟩
    rw [List.getElem?_map]at hj
    simp only [Option.map_eq_some_iff]at hj
    obtain ⟨x,h1,rfl⟩:=hj
    obtain ⟨h2,rfl⟩:=List.getElem?_eq_some_iff.1 h1
    rw [add_addr]
    exact hcell j h2
  | _=>exact hy.elim
 cases x with
 | av b =>
  cases h
  exact av (normA_sound hx) hy hpos
 | osl t k' off len =>
  simp only [AS.argT]at h
  split at h
  ·rename_i ov hov
   split at h
   ·rename_i hh
    cases h
    obtain ⟨rfl,hle⟩:=hh
    obtain ⟨r1,r2⟩:=hx
    obtain ⟨_,hO⟩:=S.own t ov hov
    have hm:ov.isMap=false:=by
     cases ov <;> first|rfl|(exfalso;simp [OV.part,AV.cnt]at hpos)
    obtain ⟨cur,c1,c2,c3,c4,c5,c6,c7⟩:=hO.to hm
    have hb:Box w (κ t).1 cur ov.e:=c1
    cases ov with
    | row e k2 es =>
     simp only [OV.part,OV.k,OV.len]at *
     have hkk:k2=k:=hy
     subst hkk
     have hcnt:((es.drop off).take len).length=len:=by simp;omega
     simp only [AV.cnt,hcnt]
     have hsz:(off+len)*k2≤cur.size:=by rw [c2];exact Nat.mul_le_mul_right k2 (by omega)
     rw [Nat.add_mul]at hsz
     refine ⟨(κ t).1,off*k2,_,(cur.toList.drop (off*k2)).take (len*k2),r2,by simp;omega,fun j u hj=>?_,by rw [hcnt];simp;omega,fun i hi=>?_⟩
     ·have hjl:=(List.getElem?_eq_some_iff.1 hj).1
      simp at hjl
      rw [List.getElem?_take_of_lt (by omega),List.getElem?_drop]at hj
      rw [add_addr,hb.cell,←Array.getElem?_toList]
      exact hj
     ·rw [hcnt]at hi
      have e1:((es.drop off).take len)[i]'(by omega)=es[off+i]:=by rw [List.getElem_take,List.getElem_drop]
      simp only [e1]
      obtain ⟨p1,p2,p3⟩:=c7.2 (off+i) (by omega)
      refine ⟨p1,fun j hj=>?_⟩
      obtain ⟨v,q1,q2⟩:=p3 j hj
      refine ⟨v,?_,q2⟩
      rw [List.getElem?_take_of_lt (row_lt hi (by omega)),List.getElem?_drop,Array.getElem?_toList]
      rw [Nat.add_mul]at q1
      rw [←Nat.add_assoc]
      exact q1
    | map kd m=>cases hm
    | limb e l =>
     simp only [OV.part,OV.k,OV.len]at *
     have hkk:k=1:=hy
     subst hkk
     have hcnt:((l.drop off).take len).length=len:=by simp;omega
     simp only [AV.cnt,hcnt]
     refine ⟨(κ t).1,off*1,_,((l.drop off).take len).map fun x=>Value.int .u32 (x:Nat),r2,by simp;omega,fun j u hj=>?_,rfl,dig_take (dig_drop c7.1 off) len⟩
     rw [List.getElem?_map]at hj
     simp only [Option.map_eq_some_iff]at hj
     obtain ⟨x,h1,rfl⟩:=hj
     obtain ⟨h2,h3⟩:=List.getElem?_eq_some_iff.1 h1
     rw [hcnt]at h2
     rw [add_addr,hb.cell,Nat.mul_one,c7.2 (off+j) (by omega)]
     rw [List.getElem_take,List.getElem_drop]at h3
     rw [h3]
   ·cases h
  ·cases h
 | _=>cases h
end
end Go.Proofs.YtmekiphpjpblpaaGreat
