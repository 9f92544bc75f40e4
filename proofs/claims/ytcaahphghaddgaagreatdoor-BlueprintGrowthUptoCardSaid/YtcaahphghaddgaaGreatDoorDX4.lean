import Derived.Test.YtcaahphghaddgaaGreatDoorDX3
/- Text X4. -/
set_option linter.unusedSimpArgs false
set_option linter.unusedVariables false
namespace Go.Proofs.YtcaahphghaddgaaGreatDoor
open Go.RowKit Lim
section
variable {R:Type} {r:R} {C:Ctx} {E s:VS}
theorem band_of {a b:Bool} (h:(a && b)=true):a=true∧b=true:=by simpa using h
theorem beq_of {a b:Nat} (h:Nat.beq a b=true):a=b:=Nat.eq_of_beq_eq_true h
theorem slz_av {k:Nat} {e:VT} {l:List e.den} (h:l.isEmpty=false):Ce.av ⟨.slz k e,l⟩=.sl k (l.map (elA k e)):=by
 show (bif l.isEmpty then nilA else _)=_
 rw [h];rfl
theorem natz_av {l:List Nat} (h:l.isEmpty=false):Ce.av ⟨.natz,l⟩=.nat l:=by
 show (bif l.isEmpty then nilA else _)=_
 rw [h];rfl
theorem some_ne {α:Type} {l:List α} {n:Nat} {x:α} (h:l[n]? = some x):l.isEmpty=false:=by cases l <;> first|rfl|cases h
theorem row_slot {f:Nat→Option RW} {t:Nat} {w:RW} (h:f t=some w) (hn:w.nilB=false) (hm:w.isMap=false):eraSV f (.row t)=some (.osl t w.k 0 w.len):=by simp [eraSV,h,RW.tv,hn,hm]
theorem map_slot {f:Nat→Option RW} {t:Nat} {w:RW} (h:f t=some w) (hm:w.isMap=true):eraSV f (.row t)=some (.omap t):=by
 have hn:w.nilB=false:=by cases w <;> first|rfl|cases hm
 simp [eraSV,h,RW.tv,hn,hm]
theorem row_nil {f:Nat→Option RW} {t:Nat} {w:RW} (h:f t=some w) (hn:w.nilB=true):eraSV f (.row t)=some (.av nilA):=by simp [eraSV,h,RW.tv,hn]
theorem oref_slot {f:Nat→Option RW} {t i o:Nat} {w:RW} (h:f t=some w):eraSV f (.oref t i o)=some (.oref t w.k i o):=by simp [eraSV,h]
theorem nilB_len {w:RW} (h:w.nilB=true):w.len=0:=by
 cases w with
 | row z e k t l=>simp only [RW.nilB,Bool.and_eq_true]at h;cases l <;> first|rfl|cases h.2
 | map kt vt l=>cases h
 | limb z e l=>simp only [RW.nilB,Bool.and_eq_true]at h;cases l <;> first|rfl|cases h.2
set_option maxHeartbeats 2000000 in
theorem idxS_sound {i:TI} {x:SV} {n:Int} {k:SV→Option R} (h:idxS E s i x n k=some r):∃sv xv v,k sv=some r∧eraSV (rowv E s) sv=some v∧eraSV (rowv E s) x=some xv∧0≤n∧idxT i xv n.toNat v:=by
 unfold idxS at h
 split at h
 ·rename_i e0 q lm q' e l hk
  obtain ⟨h1,h⟩:=bif_of h
  obtain ⟨y,h2,h⟩:=bind_of h
  obtain ⟨h3,h4⟩:=band_of h1
  obtain ⟨h5,h6⟩:=ix_some h2
  refine ⟨_,_,_,h,rfl,rfl,h5,?_⟩
  unfold idxT
  rw [hk]
  refine ⟨elA q' e y,⟨beq_of h3,by rw [List.getElem?_map,h6];rfl⟩,?_⟩
  rw [elA_cells _ _ _ ((beq_of h4).trans (beq_of h3).symm)]
  rfl
 ·rename_i e0 q lm q' e l hk
  obtain ⟨h1,h⟩:=bif_of h
  obtain ⟨y,h2,h⟩:=bind_of h
  obtain ⟨h3,h4⟩:=band_of h1
  obtain ⟨h5,h6⟩:=ix_some h2
  refine ⟨_,_,_,h,rfl,congrArg (fun a=>some (TV.av a)) (slz_av (some_ne h6)),h5,?_⟩
  unfold idxT
  rw [hk]
  refine ⟨elA q' e y,⟨beq_of h3,by rw [List.getElem?_map,h6];rfl⟩,?_⟩
  rw [elA_cells _ _ _ ((beq_of h4).trans (beq_of h3).symm)]
  rfl
 ·rename_i e0 q lm l hk
  obtain ⟨h1,h⟩:=bif_of h
  obtain ⟨y,h2,h⟩:=bind_of h
  obtain ⟨h5,h6⟩:=ix_some h2
  refine ⟨_,_,_,h,rfl,rfl,h5,?_⟩
  unfold idxT
  rw [hk]
  exact ⟨.lit (.int .u32 (y:Nat)),⟨beq_of h1,y,h6,rfl⟩,rfl⟩
 ·rename_i e0 q lm l hk
  obtain ⟨h1,h⟩:=bif_of h
  obtain ⟨y,h2,h⟩:=bind_of h
  obtain ⟨h5,h6⟩:=ix_some h2
  refine ⟨_,_,_,h,rfl,congrArg (fun a=>some (TV.av a)) (natz_av (some_ne h6)),h5,?_⟩
  unfold idxT
  rw [hk]
  exact ⟨.lit (.int .u32 (y:Nat)),⟨beq_of h1,y,h6,rfl⟩,rfl⟩
 ·rename_i e0 q lm t hk
  obtain ⟨w,h1,h⟩:=bind_of h
  obtain ⟨h2,h⟩:=bif_of h
  obtain ⟨h3,h4⟩:=band_of h2
  obtain ⟨h5,h6⟩:=band_of h4
  have hn:w.nilB=false:=by
   cases hw:w.nilB with
   | false=>rfl
   | true=>have:=nilB_len hw;simp at h6;omega
  have hm:w.isMap=false:=by
   cases hw:w.isMap with
   | false=>rfl
   | true=>have:=RW.map_len hw;simp at h6;omega
  refine ⟨_,_,_,h,oref_slot h1,row_slot h1 hn hm,by simpa using h5,?_⟩
  unfold idxT
  rw [hk]
  refine ⟨beq_of h3,by simpa using h6,?_⟩
  rw [Nat.zero_add,beq_of h3]
 ·rename_i m e0 q t off hk
  obtain ⟨h1,h⟩:=bif_of h
  obtain ⟨h2,h3⟩:=band_of h1
  refine ⟨_,_,_,h,rfl,rfl,by simpa using h2,?_⟩
  unfold idxT
  rw [hk]
  exact ⟨by simpa using h3,rfl⟩
 ·rename_i m e0 q g _ off hk
  obtain ⟨h1,h⟩:=bif_of h
  obtain ⟨h2,h3⟩:=band_of h1
  refine ⟨_,_,_,h,rfl,rfl,by simpa using h2,?_⟩
  unfold idxT
  rw [hk]
  exact ⟨by simpa using h3,rfl⟩
 ·rename_i m e0 q cs hk
  obtain ⟨h1,h⟩:=bif_of h
  obtain ⟨h2,h3⟩:=band_of h1
  refine ⟨_,_,_,h,rfl,rfl,by simpa using h2,?_⟩
  unfold idxT
  rw [hk]
  exact ⟨by simpa using h3,by simp [V.av,V0.av,List.map_drop]⟩
 ·cases h
set_option maxHeartbeats 2000000 in
theorem convS_sound {i j:TI} {src dst:TypeId} {y:Operand} {x:SV} {k:Ce→Option R} {o:Oper} (ho:o.op=.convert src dst y) (hi:C.T src=some i) (hj:C.T dst=some j) (hx:getS E s y=some x) (h:convS C.T i j E s x k=some r):∃c,k c=some r∧aval C (era E s) o (.av c.av):=by
 have hg:=getS_sound hx
 unfold convS at h
 split at h
 ·rename_i q0 q c h1 h2
  obtain ⟨⟨p,z⟩,h3,h⟩:=bind_of h
  refine ⟨_,h,?_⟩
  unfold aval
  rw [ho]
  refine ⟨i,j,hi,hj,?_⟩
  rw [h1,h2,hg,show eraSV (rowv E s) (SV.v (.o (.c c)))=some (.av (.lit (.int p z)))from congrArg (fun a=>some (TV.av a)) (Ce.int_some h3)]
  rfl
 ·rename_i c h1 h2
  obtain ⟨m,h3,h⟩:=bind_of h
  refine ⟨_,h,?_⟩
  unfold aval
  rw [ho]
  refine ⟨i,j,hi,hj,?_⟩
  rw [h1,h2,hg,show eraSV (rowv E s) (SV.v (.o (.c c)))=some (.av (bsA m))from congrArg (fun a=>some (TV.av a)) (Ce.str_some h3)]
  rfl
 ·rename_i e0 lm l h1 h2
  obtain ⟨hb,h⟩:=bif_of h
  refine ⟨_,h,?_⟩
  unfold aval
  rw [ho]
  refine ⟨i,j,hi,hj,?_⟩
  rw [h1,h2,hg]
  exact ⟨hb,rfl,rfl,l,rfl,rfl⟩
 ·rename_i e0 lm l h1 h2
  obtain ⟨hb,h⟩:=bif_of h
  refine ⟨_,h,?_⟩
  unfold aval
  rw [ho]
  refine ⟨i,j,hi,hj,?_⟩
  rw [h1,h2,hg]
  cases l with
  | nil=>exact ⟨hb,rfl,rfl⟩
  | cons a l=>exact ⟨hb,rfl,rfl,a :: l,rfl,rfl⟩
 ·rename_i e0 lm t h1 h2
  obtain ⟨w,h3,h⟩:=bind_of h
  split at h
  ·rename_i z e l
   obtain ⟨hb,h⟩:=bif_of h
   refine ⟨_,h,?_⟩
   unfold aval
   rw [ho]
   refine ⟨i,j,hi,hj,?_⟩
   rw [h1,h2,hg]
   cases hn:(RW.row z e 1 .byte l).nilB with
   | true =>
    rw [row_nil h3 hn]
    have hl:l=[]:=by have:=nilB_len hn;simpa [RW.len]using this
    subst hl
    exact ⟨hb,rfl,rfl⟩
   | false =>
    rw [row_slot h3 hn rfl]
    refine ⟨hb,rfl,rfl,e,l,?_,rfl,rfl,rfl⟩
    show (rowv E s t).bind RW.ov=_
    rw [h3]
    simp only [Option.bind_some,RW.ov,hn,cond_false]
    rfl
  ·cases h
 ·cases h
theorem optI_sound {x:Option Operand} {d:Int} {k:Int→Option R} (h:optI E s x d k=some r):∃z v,k z=some r∧optGet (era E s) x=some v∧(v=none∧z=d∨∃q,v=some (.av (.lit (.int q z)))):=by
 unfold optI at h
 split at h
 ·exact ⟨_,none,h,rfl,.inl ⟨rfl,rfl⟩⟩
 ·obtain ⟨v,h1,h⟩:=bind_of h
  obtain ⟨c,h2,h⟩:=bind_of h
  obtain ⟨⟨q,z⟩,h3,h⟩:=bind_of h
  refine ⟨z,_,h,?_,.inr ⟨q,rfl⟩⟩
  simp only [optGet,get_ce h1 h2,Ce.int_some h3,Option.map_some]
theorem bound_of {n m:Nat} {d:Nat} {z:Int} {v:Option TV} (h:v=none∧z=(d:Int)∨∃q,v=some (.av (.lit (.int q z)))) (h0:0≤z) (hn:z≤n) (hm:m=z.toNat):boundR n m d v:=by
 rcases h with ⟨rfl,rfl⟩|⟨q,rfl⟩
 ·simp only [boundR];omega
 ·exact ⟨h0,hn,hm⟩
theorem extract_bs (l:List UInt8) (a b:Nat):(bs l).extract a b=bs ((l.take b).drop a):=by
 have:((bs l).extract a b).data.toList=(bs ((l.take b).drop a)).data.toList:=by
  simp [bs,ByteArray.data_extract,List.extract_eq_take_drop,List.drop_take]
 have h2:=congrArg List.toArray this
 simp only [Array.toArray_toList]at h2
 cases h3:(bs l).extract a b
 rw [h3]at h2
 simp only at h2
 rw [h2]
set_option maxHeartbeats 2000000 in
theorem strsC_some:∀{cs:List Ce} {l:List (List UInt8)},strsC cs=some l→cs.map Ce.av=l.map bsA
 | [],l,h=>by cases h;rfl
 | c :: cs,l,h=>by
  unfold strsC at h
  split at h
  ·rename_i heq;cases heq
  ·rename_i s l' heq
   cases heq
   obtain ⟨m,h1,rfl⟩:=Option.map_eq_some_iff.1 h
   simp only [List.map_cons,strsC_some h1]
   rfl
  ·cases h
theorem chunk_one:∀(n:Nat) (l:List (List UInt8)),l.length=n→chunk 1 n (l.map bsA)=l.map (elA 1 .str)
 | 0,[],_=>rfl
 | n+1,x :: l,h=>by
  simp only [List.map_cons,chunk,List.take_succ_cons,List.take_zero,List.drop_succ_cons,List.drop_zero]
  rw [chunk_one n l (by simpa using h)]
  rfl
 | 0,_ :: _,h=>by cases h
 | _+1,[],h=>by cases h
theorem sliceS_sound {i:TI} {ty:TypeId} {y:Operand} {x:SV} {lo hi:Option Operand} {k:SV→Option R} {o:Oper} (ho:o.op=.slice ty y lo hi none) (hi':C.T ty=some i) (hx:getS E s y=some x) (h:sliceS E s i x lo hi k=some r):∃sv v,k sv=some r∧eraSV (rowv E s) sv=some v∧aval C (era E s) o v:=by
 have hg:=getS_sound hx
 unfold sliceS at h
 split at h
 ·rename_i l h1
  obtain ⟨a,va,h,h2,h3⟩:=optI_sound h
  obtain ⟨b,vb,h,h4,h5⟩:=optI_sound h
  obtain ⟨m,h6,h⟩:=bind_of h
  obtain ⟨h7,h8,h9,rfl⟩:=sub_some h6
  refine ⟨_,_,h,rfl,?_⟩
  unfold aval
  rw [ho]
  refine ⟨i,va,vb,hi',h2,h4,?_⟩
  rw [h1,hg]
  refine ⟨a.toNat,b.toNat,⟨bound_of h5 (by omega) (by rw [bs_size];exact h9) rfl,bound_of h3 h7 (by omega) rfl⟩,?_⟩
  rw [extract_bs]
  rfl
 ·rename_i e0 q lm q' e l h1
  obtain ⟨hq,h⟩:=bif_of h
  obtain ⟨a,va,h,h2,h3⟩:=optI_sound h
  obtain ⟨b,vb,h,h4,h5⟩:=optI_sound h
  obtain ⟨m,h6,h⟩:=bind_of h
  obtain ⟨h7,h8,h9,rfl⟩:=sub_some h6
  refine ⟨_,_,h,rfl,?_⟩
  unfold aval
  rw [ho]
  refine ⟨i,va,vb,hi',h2,h4,?_⟩
  rw [h1,hg]
  refine ⟨beq_of hq,a.toNat,b.toNat,⟨bound_of (by simpa using h5) (by omega) (by simpa using h9) rfl,bound_of h3 h7 (by omega) rfl⟩,?_⟩
  rw [beq_of hq]
  show TV.av (.sl q' _)=TV.av (.sl q' _)
  simp only [List.map_drop,List.map_take]
 ·rename_i e0 q lm l h1
  obtain ⟨hq,h⟩:=bif_of h
  obtain ⟨a,va,h,h2,h3⟩:=optI_sound h
  obtain ⟨b,vb,h,h4,h5⟩:=optI_sound h
  obtain ⟨m,h6,h⟩:=bind_of h
  obtain ⟨h7,h8,h9,rfl⟩:=sub_some h6
  refine ⟨_,_,h,rfl,?_⟩
  unfold aval
  rw [ho]
  refine ⟨i,va,vb,hi',h2,h4,?_⟩
  rw [h1,hg]
  exact ⟨beq_of hq,a.toNat,b.toNat,⟨bound_of h5 (by omega) h9 rfl,bound_of h3 h7 (by omega) rfl⟩,rfl⟩
 ·rename_i n e0 q cs h1
  obtain ⟨hq,h⟩:=bif_of h
  have hq:=beq_of hq
  subst hq
  obtain ⟨l,h10,h⟩:=bind_of h
  obtain ⟨hn,h⟩:=bif_of h
  have hn:=beq_of hn
  obtain ⟨a,va,h,h2,h3⟩:=optI_sound h
  obtain ⟨b,vb,h,h4,h5⟩:=optI_sound h
  obtain ⟨m,h6,h⟩:=bind_of h
  obtain ⟨h7,h8,h9,rfl⟩:=sub_some h6
  have h11:=strsC_some h10
  have hlen:n≤cs.length:=by
   have:=congrArg List.length h11
   simp only [List.length_map,List.length_take]at this
   omega
  refine ⟨_,_,h,rfl,?_⟩
  unfold aval
  rw [ho]
  refine ⟨i,va,vb,hi',h2,h4,?_⟩
  rw [h1,hg]
  have e1:(cs.map Ce.av).take (n*1)=l.map bsA:=by rw [Nat.mul_one,←List.map_take,h11]
  refine ⟨by simpa using hlen,?_,a.toNat,b.toNat,⟨bound_of h5 (by omega) (by omega) rfl,bound_of h3 h7 (by omega) rfl⟩,?_⟩
  ·rw [e1,List.all_eq_true]
   intro x hx
   obtain ⟨y,_,rfl⟩:=List.mem_map.1 hx
   rfl
  ·rw [e1,chunk_one n l hn]
   show TV.av (.sl 1 _)=TV.av (.sl 1 _)
   simp only [List.map_drop,List.map_take]
   rfl
 ·cases h
theorem lenC_sound {c:Ce} {n:Nat} (h:lenC c=some n):lenA c.av=some n:=by
 unfold lenC at h
 split at h
 ·cases h
  rename_i k e l
  show some ((l.map (elA k e)).length)=_
  simp
 ·cases h
  rename_i k e l
  cases l with
  | nil=>rfl
  | cons a l=>show some (((a :: l).map (elA k e)).length)=_;simp
 ·cases h;rfl
 ·cases h
  rename_i l
  cases l <;> rfl
 ·cases h;rfl
 ·cases h
theorem rowtv_len {t:Nat} {w:RW} (hm:w.isMap=false):lenT (w.tv t)=some w.len:=by
 unfold RW.tv
 cases h:w.nilB with
 | true=>rw [nilB_len h];rfl
 | false=>rw [hm];rfl
theorem mmC_sound {f:Int→Int→Int} {x y:Ce} {k:Ce→Option R} (h:mmC f x y k=some r):∃q m n c,k c=some r∧x.av=.lit (.int q m)∧y.av=.lit (.int q n)∧c.av=.lit (.int q (f m n)):=by
 unfold mmC at h
 obtain ⟨⟨q,m⟩,h1,h⟩:=bind_of h
 obtain ⟨⟨q',n⟩,h2,h⟩:=bind_of h
 obtain ⟨hq,h'⟩:=if_of h
 subst hq
 exact ⟨q,m,n,_,h',Ce.int_some h1,Ce.int_some h2,rfl⟩
end
end Go.Proofs.YtcaahphghaddgaaGreatDoor
