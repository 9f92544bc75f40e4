import Derived.Test.YtcaahphghaddgaaGreatDoorDX4
/- Text X5. -/
set_option linter.unusedSimpArgs false
set_option linter.unusedVariables false
namespace Go.Proofs.YtcaahphghaddgaaGreatDoor
open Go.RowKit Lim
section
variable {R:Type} {r:R} {C:Ctx} {E s:VS}
theorem ti_eta {i:TI} {fs:List (Nat × Nat × TypeId)} (h:i.kind=.strct fs):i=⟨.strct fs,i.zero,i.bytes⟩:=by cases i;simp only at h;subst h;rfl
theorem ti_str {i:TI} (h:i.kind=.str):i=⟨.str,i.zero,i.bytes⟩:=by cases i;simp only at h;subst h;rfl
theorem arr1 {α:Type} {a:Array α} {x:α} (h:a.toList=[x]):a=#[x]:=by
 have:=congrArg List.toArray h
 simpa using this
theorem arr2 {α:Type} {a:Array α} {x y:α} (h:a.toList=[x,y]):a=#[x,y]:=by
 have:=congrArg List.toArray h
 simpa using this
theorem okS_sound {x:SV} {k:SV→Option R} (h:okS E s x k=some r):k x=some r∧∃v,eraSV (rowv E s) x=some v:=by
 unfold okS at h
 split at h
 ·obtain ⟨w,h1,h⟩:=bind_of h;exact ⟨h,_,by simp only [eraSV,h1,Option.map_some];rfl⟩
 ·obtain ⟨w,h1,h⟩:=bind_of h;exact ⟨h,_,by simp only [eraSV,h1,Option.map_some];rfl⟩
 ·rename_i h1 h2
  refine ⟨h,?_⟩
  cases x with
  | row t=>exact absurd rfl (h1 t)
  | oref t i o=>exact absurd rfl (h2 t i o)
  | _=>exact ⟨_,rfl⟩
theorem litB {c:Ce} {b:Bool} (h:c.bool? = some b):TV.av c.av=.av (.lit (.bool b)):=by rw [Ce.bool_some h]
theorem fromAV_some {t:VT} {a:AV} {c:Ce} (h:fromAV t a=some c):c.av=a:=by
 unfold fromAV at h
 split at h
 ·split at h
  ·rename_i hk;cases h;subst hk;rfl
  ·cases h
 ·cases h;rfl
 ·cases h;exact congrArg (fun b=>AV.lit (.string b)) (const_bs _)
 ·cases h;rfl
 ·split at h
  ·rename_i hk;cases h;subst hk;rfl
  ·cases h
 ·split at h
  ·cases h;rfl
  ·cases h
 ·cases h
theorem fromAVs_some:∀(t:VT) (l:List AV) {p:List Ce × List AV},fromAVs t l=some p→l=p.1.map Ce.av ++ p.2:=by
 intro t
 have leaf:∀(t:VT) (l:List AV) {p:List Ce × List AV},(match l with|a :: l=>(fromAV t a).map fun c=>([c],l)|[]=>none)=some p→l=p.1.map Ce.av ++ p.2:=fun t l p h=>by
  cases l with
  | nil=>cases h
  | cons a l =>
   obtain ⟨c,h1,rfl⟩:=Option.map_eq_some_iff.1 h
   simp [fromAV_some h1]
 induction t with
 | unit=>intro l p h;unfold fromAVs at h;cases h;rfl
 | pair a b iha ihb =>
  intro l p h
  unfold fromAVs at h
  obtain ⟨p1,h1,h⟩:=bind_of h
  obtain ⟨q,h2,h⟩:=bind_of h
  cases h
  have e1:=iha _ h1
  have e2:=ihb _ h2
  simp only [List.map_append,List.append_assoc]
  rw [←e2];exact e1
 | byte=>intro l p h;exact leaf (.int .u8) l (by cases l <;> exact h)
 | int k=>intro l p h;exact leaf (.int k) l (by cases l <;> exact h)
 | bool=>intro l p h;exact leaf .bool l (by cases l <;> exact h)
 | str=>intro l p h;exact leaf .str l (by cases l <;> exact h)
 | nat=>intro l p h;exact leaf .nat l (by cases l <;> exact h)
 | natz=>intro l p h;exact leaf .natz l (by cases l <;> exact h)
 | sl k e _=>intro l p h;exact leaf (.sl k e) l (by cases l <;> exact h)
 | slz k e _=>intro l p h;exact leaf (.slz k e) l (by cases l <;> exact h)
 | raw=>intro l p h;exact leaf .raw l (by cases l <;> exact h)
theorem zeroC_some {t:VT} {i:TI} {cs:List Ce} (h:zeroC t i=some cs):i.zero=cs.map Ce.av:=by
 unfold zeroC at h
 obtain ⟨⟨c,l⟩,h1,h⟩:=bind_of h
 simp only at h
 split at h
 ·cases h;have:=fromAVs_some t _ h1;simpa using this
 ·cases h
theorem decC_some {a:AV} {c:Ce} (h:decC a=some c):c.av=a:=by
 unfold decC at h
 split at h
 ·cases h;rfl
 ·cases h;rfl
 ·rename_i b
  cases h
  show AV.lit (.string (bs b.data.toList))=_
  rw [const_bs]
 ·cases h;rfl
 ·split at h
  ·cases h;rfl
  ·cases h
theorem decL_some:∀{l:List AV} {m:List Ce},decL l=some m→m.map Ce.av=l
 | [],m,h=>by cases h;rfl
 | a :: l,m,h=>by
  obtain ⟨c,h1,h⟩:=bind_of h
  obtain ⟨m',h2,rfl⟩:=Option.map_eq_some_iff.1 h
  rw [List.map_cons,decC_some h1,decL_some h2]
theorem decV0_some {a:AV} {x:V0} (h:decV0 a=some x):x.av=a:=by
 unfold decV0 at h
 split at h
 ·obtain ⟨m,h1,rfl⟩:=Option.map_eq_some_iff.1 h
  exact congrArg AV.agg (decL_some h1)
 ·obtain ⟨m,h1,rfl⟩:=Option.map_eq_some_iff.1 h
  exact congrArg AV.ptr (decL_some h1)
 ·obtain ⟨m,h1,rfl⟩:=Option.map_eq_some_iff.1 h
  exact decC_some h1
theorem decVs_some:∀{l:List AV} {m:List V0},decVs l=some m→m.map V0.av=l
 | [],m,h=>by cases h;rfl
 | a :: l,m,h=>by
  obtain ⟨c,h1,h⟩:=bind_of h
  obtain ⟨m',h2,rfl⟩:=Option.map_eq_some_iff.1 h
  rw [List.map_cons,decV0_some h1,decVs_some h2]
theorem fnR_some {y:RawV} {f:FuncId} {a b:List V0} (h:fnR y=some (f,a,b)):y.1=.fn (.func f) (a.map V0.av) (b.map V0.av):=by
 unfold fnR at h
 split at h
 ·rename_i g u v he
  obtain ⟨a',h1,h⟩:=bind_of h
  obtain ⟨b',h2,h⟩:=Option.map_eq_some_iff.1 h
  cases h
  rw [he,decVs_some h1,decVs_some h2]
 ·cases h
theorem okR_some {y:RawV} (h:okR y=true):(∃t a,y.1=.ifc t a)∨∃f a b,y.1=.fn (.func f) a b:=by
 unfold okR at h
 split at h
 ·rename_i t a he;exact .inl ⟨t,a,he⟩
 ·rename_i f a b he;exact .inr ⟨f,a,b,he⟩
 ·cases h
theorem v0S_some {f:Nat→Option RW} {v:SV} {x:V0} (h:v0S v=some x):eraSV f v=some (.av x.av):=by
 unfold v0S at h
 split at h
 ·cases h;rfl
 ·cases h;rfl
 ·cases h
theorem v0sS_some:∀{xs:List Operand} {l:List V0},v0sS E s xs=some l→avsL (era E s) xs=some (l.map V0.av)
 | [],l,h=>by cases h;rfl
 | x :: xs,l,h=>by
  obtain ⟨v,h1,h⟩:=bind_of h
  obtain ⟨a,h2,h⟩:=bind_of h
  obtain ⟨m,h3,rfl⟩:=Option.map_eq_some_iff.1 h
  have hg:(era E s).get x=some (.av a.av):=by rw [getS_sound h1,v0S_some h2]
  simp only [avsL,hg,v0sS_some h3,List.map_cons]
theorem kdB_some {kt:VT} {kd:TK} (h:kdB kt kd=true) {key:kt.den}:kd=kdOf kt∧keyB kd (keyV kt key)=true:=by
 cases kt <;> cases kd <;> first|(cases h;done)|skip
 ·rename_i k k'
  simp only [kdB,decide_eq_true_eq]at h
  subst h
  exact ⟨rfl,by simp [keyB,keyV]⟩
 ·exact ⟨rfl,rfl⟩
 ·exact ⟨rfl,rfl⟩
theorem key_av {kt:VT} {kd:TK} {key:kt.den} (h:kd=kdOf kt) (h2:keyB kd (keyV kt key)=true):Ce.av ⟨kt,key⟩=.lit (keyV kt key):=by
 subst h
 cases kt <;> first|rfl|(cases h2;done)
theorem keyQ_eq {kt:VT} {kd:TK} (h:kdB kt kd=true) (a b:kt.den):keyEq (keyV kt a) (keyV kt b)=keyQ kt a b:=by
 cases kt <;> cases kd <;> first|(cases h;done)|skip
 ·simp [keyEq,keyV,keyQ]
 ·rfl
 ·show (bs a == bs b)=@BEq.beq (List UInt8) _ a b
  rw [Bool.eq_iff_iff]
  constructor
  ·intro hh
   have:=ba_beq hh
   simp only [bs,ByteArray.mk.injEq]at this
   simpa using this
  ·intro hh
   rw [eq_of_beq hh]
   exact ba_refl _
theorem mget_map (kt vt:VT) {kd:TK}:∀(l:List (kt.den × vt.den)) (q:kt.den),kdB kt kd=true→mgetA (l.map fun p=>(keyV kt p.1,Ce.av ⟨vt,p.2⟩)) (keyV kt q)=(mgetV kt l q).map fun x=>Ce.av ⟨vt,x⟩
 | [],_,_=>rfl
 | p :: l,q,h=>by
  simp only [List.map_cons,mgetA,mgetV,keyQ_eq h]
  cases keyQ kt q p.1 with
  | true=>rfl
  | false=>exact mget_map kt vt l q h
theorem mput_map (kt vt:VT) {kd:TK}:∀(l:List (kt.den × vt.den)) (q:kt.den) (d:vt.den),kdB kt kd=true→mputA (l.map fun p=>(keyV kt p.1,Ce.av ⟨vt,p.2⟩)) (keyV kt q) (Ce.av ⟨vt,d⟩)=(mputV kt l q d).map fun p=>(keyV kt p.1,Ce.av ⟨vt,p.2⟩)
 | [],_,_,_=>rfl
 | p :: l,q,d,h=>by
  simp only [List.map_cons,mputA,mputV,keyQ_eq h]
  cases keyQ kt q p.1 with
  | true=>rfl
  | false=>exact congrArg (_ :: ·) (mput_map kt vt l q d h)
theorem getD_av (vt:VT) (o:Option vt.den) (d:vt.den):Ce.av ⟨vt,o.getD d⟩=(o.map fun x=>Ce.av ⟨vt,x⟩).getD (Ce.av ⟨vt,d⟩):=by cases o <;> rfl
theorem ce_slot {f:Nat→Option RW} {v:SV} {c:Ce} (h:v.ce? = some c):eraSV f v=some (.av c.av):=by
 unfold SV.ce? at h
 split at h
 ·cases h;rfl
 ·cases h
theorem litI {c:Ce} {q:IntKind} {z:Int} (h:c.int? = some (q,z)):TV.av c.av=.av (.lit (.int q z)):=by rw [Ce.int_some h]
set_option maxHeartbeats 4000000 in
theorem valS_sound {o:Oper} {k:SV→Option R} (h:valS C.T E s o.op k=some r):∃sv v,k sv=some r∧eraSV (rowv E s) sv=some v∧aval C (era E s) o v:=by
 obtain ⟨dst,op,type,pos,after,guard⟩:=o
 simp only at h
 unfold valS at h
 split at h
 ·rename_i x
  obtain ⟨sv,h1,h⟩:=bind_of h
  obtain ⟨h,v,hv⟩:=okS_sound h
  exact ⟨sv,v,h,hv,by show (era E s).get x=some v;rw [getS_sound h1,hv]⟩
 ·rename_i x
  obtain ⟨sv,h1,h⟩:=bind_of h
  obtain ⟨h,v,hv⟩:=okS_sound h
  exact ⟨sv,v,h,hv,by show (era E s).get x=some v;rw [getS_sound h1,hv]⟩
 ·rename_i c x y
  obtain ⟨vc,h1,h⟩:=bind_of h
  obtain ⟨q,h2,h⟩:=bind_of h
  obtain ⟨b,h3,h⟩:=bind_of h
  have hc:(era E s).get c=some (.av (.lit (.bool b))):=by rw [get_ce h1 h2,litB h3]
  cases b with
  | true =>
   obtain ⟨sv,h4,h⟩:=bind_of h
   obtain ⟨h,v,hv⟩:=okS_sound h
   exact ⟨sv,v,h,hv,true,hc,by rw [if_pos rfl,getS_sound h4,hv]⟩
  | false =>
   obtain ⟨sv,h4,h⟩:=bind_of h
   obtain ⟨h,v,hv⟩:=okS_sound h
   exact ⟨sv,v,h,hv,false,hc,by rw [if_neg (by simp),getS_sound h4,hv]⟩
 ·rename_i ty x
  obtain ⟨v,h1,h⟩:=bind_of h
  obtain ⟨cs,rest,h,h2⟩:=lookS_sound h
  obtain ⟨i,h3,h⟩:=bind_of h
  obtain ⟨a,h4,h⟩:=bind_of h
  exact ⟨_,_,h,rfl,i,_,_,h3,by rw [getS_sound h1];exact h2,takeS_sound h4,rfl⟩
 ·rename_i ty x f
  obtain ⟨v,h1,h⟩:=bind_of h
  obtain ⟨i,h2,h⟩:=bind_of h
  split at h
  ·rename_i fs hk
   obtain ⟨⟨o,n,t⟩,h3,h⟩:=bind_of h
   obtain ⟨sv,h4,h⟩:=bind_of h
   obtain ⟨u,h5,h6⟩:=offS_sound h4
   exact ⟨sv,u,h,h5,fs,_,_,o,n,t,by rw [h2,ti_eta hk],h3,by rw [getS_sound h1];exact h6⟩
  ·cases h
 ·rename_i ty x f
  obtain ⟨v,h1,h⟩:=bind_of h
  obtain ⟨i,h2,h⟩:=bind_of h
  split at h
  ·rename_i fs cs hk _
   obtain ⟨⟨o,n,t⟩,h3,h⟩:=bind_of h
   obtain ⟨j,h4,h⟩:=bind_of h
   obtain ⟨a,h5,h⟩:=bind_of h
   refine ⟨_,_,h,rfl,fs,_,_,o,n,t,cs.map Ce.av,j,_,by rw [h2,ti_eta hk],h3,by rw [getS_sound h1];rfl,h4,?_,rfl⟩
   rw [←List.map_drop,←List.append_nil (List.map Ce.av _)]
   exact takeS_sound h5
  ·cases h
 ·rename_i x i
  obtain ⟨v,h1,h⟩:=bind_of h
  split at h
  ·rename_i l
   obtain ⟨a,h2,h⟩:=bind_of h
   exact ⟨_,_,h,rfl,l.map V0.av,a.av,by rw [getS_sound h1];rfl,by rw [List.getElem?_map,h2];rfl,rfl⟩
  ·cases h
 ·rename_i ty x y
  obtain ⟨v,h1,h⟩:=bind_of h
  obtain ⟨u,h2,h⟩:=bind_of h
  obtain ⟨c,h3,h⟩:=bind_of h
  obtain ⟨⟨q,z⟩,h4,h⟩:=bind_of h
  obtain ⟨i,h5,h⟩:=bind_of h
  obtain ⟨sv,xv,w,h6,h7,h8,h9,h10⟩:=idxS_sound h
  exact ⟨sv,w,h6,h7,i,xv,q,z,h5,by rw [getS_sound h1,h8],by rw [get_ce h2 h3,litI h4],h9,h10⟩
 ·rename_i ty x y
  obtain ⟨v,h1,h⟩:=bind_of h
  unfold arrS at h
  split at h
  ·rename_i cs
   obtain ⟨u,h4,h⟩:=bind_of h
   obtain ⟨d,h5,h⟩:=bind_of h
   obtain ⟨⟨q,z⟩,h6,h⟩:=bind_of h
   obtain ⟨i,h7,h⟩:=bind_of h
   split at h
   ·rename_i m e kk hk
    obtain ⟨j,h8,h⟩:=bind_of h
    split at h
    ·rename_i hj
     obtain ⟨l,h9,h⟩:=bind_of h
     obtain ⟨h10,h⟩:=bif_of h
     obtain ⟨h11,h12⟩:=band_of h10
     obtain ⟨b,h13,h⟩:=bind_of h
     obtain ⟨h14,h15⟩:=ix_some h13
     have hkk:=beq_of h11
     have hm:=beq_of h12
     obtain ⟨hlt,hb⟩:=List.getElem?_eq_some_iff.1 h15
     refine ⟨_,_,h,rfl,.inr ⟨m,e,kk,i.zero,i.bytes,cs.map Ce.av,q,z,j,bsA b,by rw [h7];cases i;simp only at hk;subst hk;rfl,by rw [getS_sound h1];rfl,by rw [get_ce h4 h5,litI h6],h14,by omega,h8,?_,rfl⟩⟩
     unfold takeA
     rw [hj,strsC_some h9,hkk,Nat.mul_one,←List.map_drop,List.drop_eq_getElem_cons hlt]
     simp [hb]
    ·cases h
   ·cases h
  obtain ⟨c,h2,h⟩:=bind_of h
  obtain ⟨l,h3,h⟩:=bind_of h
  obtain ⟨u,h4,h⟩:=bind_of h
  obtain ⟨d,h5,h⟩:=bind_of h
  obtain ⟨⟨q,z⟩,h6,h⟩:=bind_of h
  obtain ⟨i,h7,h⟩:=bind_of h
  split at h
  ·rename_i hk
   obtain ⟨b,h8,h⟩:=bind_of h
   obtain ⟨h9,h10⟩:=ix_some h8
   exact ⟨_,_,h,rfl,.inl ⟨i.zero,i.bytes,bs l,q,z,b,by rw [h7,ti_str hk],by rw [get_ce h1 h2,Ce.str_some h3],by rw [get_ce h4 h5,litI h6],h9,by simpa [bs]using h10,rfl⟩⟩
  ·cases h
 ·rename_i b ty x y yt
  obtain ⟨v,h1,h⟩:=bind_of h
  obtain ⟨c,h2,h⟩:=bind_of h
  obtain ⟨u,h3,h⟩:=bind_of h
  obtain ⟨d,h4,h⟩:=bind_of h
  obtain ⟨rc,u1,v1,w1,h5,h6,h7,h8,h9⟩:=binC_sound h
  exact ⟨_,_,h5,rfl,u1,v1,w1,by rw [get_ce h1 h2,h6],by rw [get_ce h3 h4,h7],h9,congrArg TV.av h8⟩
 ·rename_i b ty x
  obtain ⟨v,h1,h⟩:=bind_of h
  obtain ⟨c,h2,h⟩:=bind_of h
  obtain ⟨rc,u1,w1,h5,h6,h7,h8⟩:=unC_sound h
  exact ⟨_,_,h5,rfl,u1,w1,by rw [get_ce h1 h2,h6],h8,congrArg TV.av h7⟩
 ·rename_i a b x
  obtain ⟨v,h1,h⟩:=bind_of h
  obtain ⟨i,h2,h⟩:=bind_of h
  obtain ⟨j,h3,h⟩:=bind_of h
  obtain ⟨c,h4,h5⟩:=convS_sound (o:=⟨dst,.convert a b x,type,pos,after,guard⟩) rfl h2 h3 h1 h
  exact ⟨_,_,h4,rfl,h5⟩
 ·rename_i ty x lo hi
  obtain ⟨v,h1,h⟩:=bind_of h
  obtain ⟨i,h2,h⟩:=bind_of h
  obtain ⟨sv,w,h3,h4,h5⟩:=sliceS_sound (o:=⟨dst,.slice ty x lo hi none,type,pos,after,guard⟩) rfl h2 h1 h
  exact ⟨sv,w,h3,h4,h5⟩
 ·rename_i x
  obtain ⟨v,h1,h⟩:=bind_of h
  have hg:=getS_sound h1
  split at h
  ·exact ⟨_,_,h,rfl,by unfold aval;simp only;rw [hg];rfl⟩
  ·exact ⟨_,_,h,rfl,by unfold aval;simp only;rw [hg];rfl⟩
  ·obtain ⟨w,h2,h⟩:=bind_of h
   rw [oref_slot h2]at hg
   exact ⟨_,_,h,oref_slot h2,by unfold aval;simp only;rw [hg]⟩
  ·exact ⟨_,_,h,rfl,by unfold aval;simp only;rw [hg];rfl⟩
  ·rename_i y
   obtain ⟨h2,h⟩:=bif_of h
   refine ⟨_,_,h,rfl,?_⟩
   unfold aval
   simp only
   rw [hg]
   show (match some (TV.av y.1)with|some (.ref t off)=>_|some (.av (.ptr cs))=>_|some (.oref t k i o)=>_|some (.av (.ifc t a))=>_|some (.av (.fn (.func f) fs cs))=>_|_=>False)
   have e:Ce.av ⟨.raw,y⟩=y.1:=rfl
   rcases okR_some h2 with ⟨t,a,q⟩|⟨f,a,b,q⟩
   ·rw [q];show TV.av (Ce.av ⟨.raw,y⟩)=_;rw [e,q]
   ·rw [q];show TV.av (Ce.av ⟨.raw,y⟩)=_;rw [e,q]
  ·cases h
 ·rename_i ty x q ok
  obtain ⟨v,h1,h⟩:=bind_of h
  have hg:=getS_sound h1
  cases v with
  | row t =>
   obtain ⟨w,h2,h⟩:=bind_of h
   cases w with
   | map kt vt l =>
    obtain ⟨i,h3,h⟩:=bind_of h
    obtain ⟨kd,iz,ib⟩:=i
    cases kd with
    | map k' e =>
     obtain ⟨ki,h4,h⟩:=bind_of h
     obtain ⟨ei,h5,h⟩:=bind_of h
     obtain ⟨z,h6,h⟩:=bind_of h
     cases z with
     | nil=>cases h
     | cons z0 zs =>
      cases zs with
      | cons _ _=>cases h
      | nil =>
       obtain ⟨qv,h7,h⟩:=bind_of h
       obtain ⟨key,h8,h⟩:=bind_of h
       obtain ⟨c,h9,h10⟩:=bind_of h8
       obtain ⟨d,h11,h⟩:=bind_of h
       obtain ⟨h12,h⟩:=bif_of h
       obtain ⟨h12,h13⟩:=band_of h12
       obtain ⟨k1,k2⟩:=kdB_some h12 (key:=key)
       have hz0:z0.av=Ce.av ⟨vt,d⟩:=by rw [Ce.to_some h11]
       have hzz:ei.zero=[Ce.av ⟨vt,d⟩]:=by rw [zeroC_some h6,←hz0];rfl
       have hq:(era E s).get q=some (.av (.lit (keyV kt key))):=by
        rw [getS_sound h7,ce_slot h9,Ce.to_some h10,key_av k1 k2]
       have hx:(era E s).get x=some (.omap t):=by rw [hg];exact map_slot h2 rfl
       have ho:(era E s).own t=some (.map ki.kind (l.map fun p=>(keyV kt p.1,Ce.av ⟨vt,p.2⟩))):=by
        show (rowv E s t).bind RW.ov=_
        rw [h2,k1]
        rfl
       have hget:=mget_map kt vt l key h12
       have hv:=getD_av vt (mgetV kt l key) d
       cases ok with
       | false =>
        refine ⟨_,_,h,rfl,?_⟩
        show ∃k e z b ki ei t m kv a0,_
        refine ⟨k',e,iz,ib,ki,ei,t,_,_,_,h3,h4,h5,hzz,h13,hx,ho,hq,k2,?_⟩
        rw [hget]
        exact congrArg TV.av hv
       | true =>
        refine ⟨_,_,h,rfl,?_⟩
        show ∃k e z b ki ei t m kv a0,_
        refine ⟨k',e,iz,ib,ki,ei,t,_,_,_,h3,h4,h5,hzz,h13,hx,ho,hq,k2,?_⟩
        rw [hget,Option.isSome_map,←hv]
        rfl
    | _=>cases h
   | _=>cases h
  | _=>cases h
 ·rename_i ty x
  obtain ⟨v,h1,h⟩:=bind_of h
  obtain ⟨i,h2,h⟩:=bind_of h
  have hg:=getS_sound h1
  cases v with
  | v y =>
   obtain ⟨h3,h⟩:=bifn_of h
   refine ⟨_,_,h,rfl,i,y.av,h2,?_,hg,rfl⟩
   cases hk:i.kind <;> first|trivial|(rw [hk]at h3;cases h3)
  | _=>cases h
 ·rename_i f a b
  obtain ⟨u,h1,h⟩:=bind_of h
  obtain ⟨v,h2,h⟩:=bind_of h
  exact ⟨_,_,h,rfl,_,_,v0sS_some h1,v0sS_some h2,rfl⟩
 ·rename_i c
  split at h
  ·rename_i hc
   split at h
   ·rename_i x ty ha hb
    obtain ⟨v,h1,h⟩:=bind_of h
    obtain ⟨i,h2,h⟩:=bind_of h
    have hg:=getS_sound h1
    unfold lenS at h
    split at h
    ·rename_i l hk _
     refine ⟨_,_,h,rfl,?_⟩
     simp only [aval,hc]
     refine ⟨x,ty,i,arr1 ha,arr1 hb,h2,?_⟩
     rw [hk,hg]
     show TV.av _=TV.av (.lit (.int .i64 ((bs l).size:Nat)))
     rw [bs_size];rfl
    ·rename_i e q lm d hk _
     obtain ⟨n,h3,h⟩:=bind_of h
     refine ⟨_,_,h,rfl,?_⟩
     simp only [aval,hc]
     refine ⟨x,ty,i,arr1 ha,arr1 hb,h2,?_⟩
     rw [hk,hg]
     exact ⟨n,lenC_sound h3,rfl⟩
    ·rename_i e q lm t hk _
     obtain ⟨w,h3,h⟩:=bind_of h
     obtain ⟨hm,h⟩:=bifn_of h
     refine ⟨_,_,h,rfl,?_⟩
     simp only [aval,hc]
     refine ⟨x,ty,i,arr1 ha,arr1 hb,h2,?_⟩
     rw [hk,hg]
     simp only [eraSV,h3,Option.map_some]
     exact ⟨w.len,rowtv_len hm,rfl⟩
    ·cases h
   ·cases h
  ·rename_i hc
   split at h
   ·rename_i x y ha
    obtain ⟨v,h1,h⟩:=bind_of h
    obtain ⟨a,h2,h⟩:=bind_of h
    obtain ⟨u,h3,h⟩:=bind_of h
    obtain ⟨b,h4,h⟩:=bind_of h
    obtain ⟨q,m,n,c',h5,h6,h7,h8⟩:=mmC_sound h
    refine ⟨_,_,h5,rfl,?_⟩
    simp only [aval,hc]
    refine ⟨x,y,.int q m,.int q n,_,arr2 ha,by rw [get_ce h1 h2,h6],by rw [get_ce h3 h4,h7],?_,congrArg TV.av h8⟩
    exact ⟨rfl,rfl⟩
   ·cases h
  ·rename_i hc
   split at h
   ·rename_i x y ha
    obtain ⟨v,h1,h⟩:=bind_of h
    obtain ⟨a,h2,h⟩:=bind_of h
    obtain ⟨u,h3,h⟩:=bind_of h
    obtain ⟨b,h4,h⟩:=bind_of h
    obtain ⟨q,m,n,c',h5,h6,h7,h8⟩:=mmC_sound h
    refine ⟨_,_,h5,rfl,?_⟩
    simp only [aval,hc]
    refine ⟨x,y,.int q m,.int q n,_,arr2 ha,by rw [get_ce h1 h2,h6],by rw [get_ce h3 h4,h7],?_,congrArg TV.av h8⟩
    exact ⟨rfl,rfl⟩
   ·cases h
  ·cases h
 ·cases h
end
end Go.Proofs.YtcaahphghaddgaaGreatDoor
