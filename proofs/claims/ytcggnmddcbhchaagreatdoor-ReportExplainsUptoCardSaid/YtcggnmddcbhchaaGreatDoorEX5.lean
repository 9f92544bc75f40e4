import Derived.Test.YtcggnmddcbhchaaGreatDoorEX4
/- Text X5. -/
set_option linter.unusedSimpArgs false
set_option linter.unusedVariables false
namespace Go.Proofs.YtcggnmddcbhchaaGreatDoor
open Go.RowKit Lim
section
variable {R:Type} {r:R} {C:Ctx} {E s:VS}
theorem ti_eta {i:TI} {fs:List (Nat × Nat × TypeId)} (h:i.kind=.strct fs):i=⟨.strct fs,i.zero,i.bytes⟩:=by cases i;simp only at h;subst h;rfl
theorem ti_str {i:TI} (h:i.kind=.str):i=⟨.str,i.zero,i.bytes⟩:=by cases i;simp only at h;subst h;rfl
theorem arr1 {α:Type} {a:Array α} {x:α} (h:a.toList=[x]):a=#[x]:=by
 have:=congrArg List.toArray h
 simpa using this
theorem arr2 {α:Type} {a:Array α} {x y:α} (h:a.toList=[x,y]):a=#[x,y]:=by
 have:=congrArg List.toArray h
 simpa using this
theorem okS_sound {x:SV} {k:SV→Option R} (h:okS E s x k=some r):k x=some r∧∃v,eraSV (rowv E s) x=some v:=by
 unfold okS at h
 split at h
 ·obtain ⟨w,h1,h⟩:=bind_of h;exact ⟨h,_,by simp only [eraSV,h1,Option.map_some];rfl⟩
 ·obtain ⟨w,h1,h⟩:=bind_of h;exact ⟨h,_,by simp only [eraSV,h1,Option.map_some];rfl⟩
 ·rename_i h1 h2
  refine ⟨h,?_⟩
  cases x with
  | row t=>exact absurd rfl (h1 t)
  | oref t i o=>exact absurd rfl (h2 t i o)
  | _=>exact ⟨_,rfl⟩
theorem litB {c:Ce} {b:Bool} (h:c.bool? = some b):TV.av c.av=.av (.lit (.bool b)):=by rw [Ce.bool_some h]
theorem litI {c:Ce} {q:IntKind} {z:Int} (h:c.int? = some (q,z)):TV.av c.av=.av (.lit (.int q z)):=by rw [Ce.int_some h]
set_option maxHeartbeats 4000000 in
theorem valS_sound {o:Oper} {k:SV→Option R} (h:valS C.T E s o.op k=some r):∃sv v,k sv=some r∧eraSV (rowv E s) sv=some v∧aval C (era E s) o v:=by
 obtain ⟨dst,op,type,pos,after,guard⟩:=o
 simp only at h
 unfold valS at h
 split at h
 ·rename_i x
  obtain ⟨sv,h1,h⟩:=bind_of h
  obtain ⟨h,v,hv⟩:=okS_sound h
  exact ⟨sv,v,h,hv,by show (era E s).get x=some v;rw [getS_sound h1,hv]⟩
 ·rename_i x
  obtain ⟨sv,h1,h⟩:=bind_of h
  obtain ⟨h,v,hv⟩:=okS_sound h
  exact ⟨sv,v,h,hv,by show (era E s).get x=some v;rw [getS_sound h1,hv]⟩
 ·rename_i c x y
  obtain ⟨vc,h1,h⟩:=bind_of h
  obtain ⟨q,h2,h⟩:=bind_of h
  obtain ⟨b,h3,h⟩:=bind_of h
  have hc:(era E s).get c=some (.av (.lit (.bool b))):=by rw [get_ce h1 h2,litB h3]
  cases b with
  | true =>
   obtain ⟨sv,h4,h⟩:=bind_of h
   obtain ⟨h,v,hv⟩:=okS_sound h
   exact ⟨sv,v,h,hv,true,hc,by rw [if_pos rfl,getS_sound h4,hv]⟩
  | false =>
   obtain ⟨sv,h4,h⟩:=bind_of h
   obtain ⟨h,v,hv⟩:=okS_sound h
   exact ⟨sv,v,h,hv,false,hc,by rw [if_neg (by simp),getS_sound h4,hv]⟩
 ·rename_i ty x
  obtain ⟨v,h1,h⟩:=bind_of h
  obtain ⟨cs,rest,h,h2⟩:=lookS_sound h
  obtain ⟨i,h3,h⟩:=bind_of h
  obtain ⟨a,h4,h⟩:=bind_of h
  exact ⟨_,_,h,rfl,i,_,_,h3,by rw [getS_sound h1];exact h2,takeS_sound h4,rfl⟩
 ·rename_i ty x f
  obtain ⟨v,h1,h⟩:=bind_of h
  obtain ⟨i,h2,h⟩:=bind_of h
  split at h
  ·rename_i fs hk
   obtain ⟨⟨o,n,t⟩,h3,h⟩:=bind_of h
   obtain ⟨sv,h4,h⟩:=bind_of h
   obtain ⟨u,h5,h6⟩:=offS_sound h4
   exact ⟨sv,u,h,h5,fs,_,_,o,n,t,by rw [h2,ti_eta hk],h3,by rw [getS_sound h1];exact h6⟩
  ·cases h
 ·rename_i ty x f
  obtain ⟨v,h1,h⟩:=bind_of h
  obtain ⟨i,h2,h⟩:=bind_of h
  split at h
  ·rename_i fs cs hk _
   obtain ⟨⟨o,n,t⟩,h3,h⟩:=bind_of h
   obtain ⟨j,h4,h⟩:=bind_of h
   obtain ⟨a,h5,h⟩:=bind_of h
   refine ⟨_,_,h,rfl,fs,_,_,o,n,t,cs.map Ce.av,j,_,by rw [h2,ti_eta hk],h3,by rw [getS_sound h1];rfl,h4,?_,rfl⟩
   rw [←List.map_drop,←List.append_nil (List.map Ce.av _)]
   exact takeS_sound h5
  ·cases h
 ·rename_i x i
  obtain ⟨v,h1,h⟩:=bind_of h
  split at h
  ·rename_i l
   obtain ⟨a,h2,h⟩:=bind_of h
   exact ⟨_,_,h,rfl,l.map V0.av,a.av,by rw [getS_sound h1];rfl,by rw [List.getElem?_map,h2];rfl,rfl⟩
  ·cases h
 ·rename_i ty x y
  obtain ⟨v,h1,h⟩:=bind_of h
  obtain ⟨u,h2,h⟩:=bind_of h
  obtain ⟨c,h3,h⟩:=bind_of h
  obtain ⟨⟨q,z⟩,h4,h⟩:=bind_of h
  obtain ⟨i,h5,h⟩:=bind_of h
  obtain ⟨sv,xv,w,h6,h7,h8,h9,h10⟩:=idxS_sound h
  exact ⟨sv,w,h6,h7,i,xv,q,z,h5,by rw [getS_sound h1,h8],by rw [get_ce h2 h3,litI h4],h9,h10⟩
 ·rename_i ty x y
  obtain ⟨v,h1,h⟩:=bind_of h
  unfold arrS at h
  split at h
  ·rename_i cs
   obtain ⟨u,h4,h⟩:=bind_of h
   obtain ⟨d,h5,h⟩:=bind_of h
   obtain ⟨⟨q,z⟩,h6,h⟩:=bind_of h
   obtain ⟨i,h7,h⟩:=bind_of h
   split at h
   ·rename_i m e kk hk
    obtain ⟨j,h8,h⟩:=bind_of h
    split at h
    ·rename_i hj
     obtain ⟨l,h9,h⟩:=bind_of h
     obtain ⟨h10,h⟩:=bif_of h
     obtain ⟨h11,h12⟩:=band_of h10
     obtain ⟨b,h13,h⟩:=bind_of h
     obtain ⟨h14,h15⟩:=ix_some h13
     have hkk:=beq_of h11
     have hm:=beq_of h12
     obtain ⟨hlt,hb⟩:=List.getElem?_eq_some_iff.1 h15
     refine ⟨_,_,h,rfl,.inr ⟨m,e,kk,i.zero,i.bytes,cs.map Ce.av,q,z,j,bsA b,by rw [h7];cases i;simp only at hk;subst hk;rfl,by rw [getS_sound h1];rfl,by rw [get_ce h4 h5,litI h6],h14,by omega,h8,?_,rfl⟩⟩
     unfold takeA
     rw [hj,strsC_some h9,hkk,Nat.mul_one,←List.map_drop,List.drop_eq_getElem_cons hlt]
     simp [hb]
    ·cases h
   ·cases h
  obtain ⟨c,h2,h⟩:=bind_of h
  obtain ⟨l,h3,h⟩:=bind_of h
  obtain ⟨u,h4,h⟩:=bind_of h
  obtain ⟨d,h5,h⟩:=bind_of h
  obtain ⟨⟨q,z⟩,h6,h⟩:=bind_of h
  obtain ⟨i,h7,h⟩:=bind_of h
  split at h
  ·rename_i hk
   obtain ⟨b,h8,h⟩:=bind_of h
   obtain ⟨h9,h10⟩:=ix_some h8
   exact ⟨_,_,h,rfl,.inl ⟨i.zero,i.bytes,bs l,q,z,b,by rw [h7,ti_str hk],by rw [get_ce h1 h2,Ce.str_some h3],by rw [get_ce h4 h5,litI h6],h9,by simpa [bs]using h10,rfl⟩⟩
  ·cases h
 ·rename_i b ty x y yt
  obtain ⟨v,h1,h⟩:=bind_of h
  obtain ⟨c,h2,h⟩:=bind_of h
  obtain ⟨u,h3,h⟩:=bind_of h
  obtain ⟨d,h4,h⟩:=bind_of h
  obtain ⟨rc,u1,v1,w1,h5,h6,h7,h8,h9⟩:=binC_sound h
  exact ⟨_,_,h5,rfl,u1,v1,w1,by rw [get_ce h1 h2,h6],by rw [get_ce h3 h4,h7],h9,congrArg TV.av h8⟩
 ·rename_i b ty x
  obtain ⟨v,h1,h⟩:=bind_of h
  obtain ⟨c,h2,h⟩:=bind_of h
  obtain ⟨rc,u1,w1,h5,h6,h7,h8⟩:=unC_sound h
  exact ⟨_,_,h5,rfl,u1,w1,by rw [get_ce h1 h2,h6],h8,congrArg TV.av h7⟩
 ·rename_i a b x
  obtain ⟨v,h1,h⟩:=bind_of h
  obtain ⟨i,h2,h⟩:=bind_of h
  obtain ⟨j,h3,h⟩:=bind_of h
  obtain ⟨c,h4,h5⟩:=convS_sound (o:=⟨dst,.convert a b x,type,pos,after,guard⟩) rfl h2 h3 h1 h
  exact ⟨_,_,h4,rfl,h5⟩
 ·rename_i ty x lo hi
  obtain ⟨v,h1,h⟩:=bind_of h
  obtain ⟨i,h2,h⟩:=bind_of h
  obtain ⟨sv,w,h3,h4,h5⟩:=sliceS_sound (o:=⟨dst,.slice ty x lo hi none,type,pos,after,guard⟩) rfl h2 h1 h
  exact ⟨sv,w,h3,h4,h5⟩
 ·rename_i x
  obtain ⟨v,h1,h⟩:=bind_of h
  have hg:=getS_sound h1
  split at h
  ·exact ⟨_,_,h,rfl,by unfold aval;simp only;rw [hg];rfl⟩
  ·exact ⟨_,_,h,rfl,by unfold aval;simp only;rw [hg];rfl⟩
  ·obtain ⟨w,h2,h⟩:=bind_of h
   rw [oref_slot h2]at hg
   exact ⟨_,_,h,oref_slot h2,by unfold aval;simp only;rw [hg]⟩
  ·exact ⟨_,_,h,rfl,by unfold aval;simp only;rw [hg];rfl⟩
  ·cases h
 ·rename_i c
  split at h
  ·rename_i hc
   split at h
   ·rename_i x ty ha hb
    obtain ⟨v,h1,h⟩:=bind_of h
    obtain ⟨i,h2,h⟩:=bind_of h
    have hg:=getS_sound h1
    unfold lenS at h
    split at h
    ·rename_i l hk _
     refine ⟨_,_,h,rfl,?_⟩
     simp only [aval,hc]
     refine ⟨x,ty,i,arr1 ha,arr1 hb,h2,?_⟩
     rw [hk,hg]
     show TV.av _=TV.av (.lit (.int .i64 ((bs l).size:Nat)))
     rw [bs_size];rfl
    ·rename_i e q lm d hk _
     obtain ⟨n,h3,h⟩:=bind_of h
     refine ⟨_,_,h,rfl,?_⟩
     simp only [aval,hc]
     refine ⟨x,ty,i,arr1 ha,arr1 hb,h2,?_⟩
     rw [hk,hg]
     exact ⟨n,lenC_sound h3,rfl⟩
    ·rename_i e q lm t hk _
     obtain ⟨w,h3,h⟩:=bind_of h
     refine ⟨_,_,h,rfl,?_⟩
     simp only [aval,hc]
     refine ⟨x,ty,i,arr1 ha,arr1 hb,h2,?_⟩
     rw [hk,hg]
     simp only [eraSV,h3,Option.map_some]
     exact ⟨w.len,rowtv_len,rfl⟩
    ·cases h
   ·cases h
  ·rename_i hc
   split at h
   ·rename_i x y ha
    obtain ⟨v,h1,h⟩:=bind_of h
    obtain ⟨a,h2,h⟩:=bind_of h
    obtain ⟨u,h3,h⟩:=bind_of h
    obtain ⟨b,h4,h⟩:=bind_of h
    obtain ⟨q,m,n,c',h5,h6,h7,h8⟩:=mmC_sound h
    refine ⟨_,_,h5,rfl,?_⟩
    simp only [aval,hc]
    refine ⟨x,y,.int q m,.int q n,_,arr2 ha,by rw [get_ce h1 h2,h6],by rw [get_ce h3 h4,h7],?_,congrArg TV.av h8⟩
    exact ⟨rfl,rfl⟩
   ·cases h
  ·rename_i hc
   split at h
   ·rename_i x y ha
    obtain ⟨v,h1,h⟩:=bind_of h
    obtain ⟨a,h2,h⟩:=bind_of h
    obtain ⟨u,h3,h⟩:=bind_of h
    obtain ⟨b,h4,h⟩:=bind_of h
    obtain ⟨q,m,n,c',h5,h6,h7,h8⟩:=mmC_sound h
    refine ⟨_,_,h5,rfl,?_⟩
    simp only [aval,hc]
    refine ⟨x,y,.int q m,.int q n,_,arr2 ha,by rw [get_ce h1 h2,h6],by rw [get_ce h3 h4,h7],?_,congrArg TV.av h8⟩
    exact ⟨rfl,rfl⟩
   ·cases h
  ·cases h
 ·cases h
end
end Go.Proofs.YtcggnmddcbhchaaGreatDoor
