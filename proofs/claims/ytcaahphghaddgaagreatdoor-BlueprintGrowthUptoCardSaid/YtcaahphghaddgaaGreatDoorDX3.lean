import Derived.Test.YtcaahphghaddgaaGreatDoorDX2
/- Text X3. -/
set_option linter.unusedSimpArgs false
set_option linter.unusedVariables false
namespace Go.Proofs.YtcaahphghaddgaaGreatDoor
open Go.RowKit Lim
section
variable {R:Type} {r:R} {T:TyTab} {E s:VS}
theorem bind_of {α:Type} {o:Option α} {f:α→Option R} (h:o.bind f=some r):∃a,o=some a∧f a=some r:=Option.bind_eq_some_iff.1 h
theorem bif_of {b:Bool} {x:Option R} (h:(bif b then x else none)=some r):b=true∧x=some r:=by cases b <;> first|exact ⟨rfl,h⟩|cases h
theorem bifn_of {b:Bool} {x:Option R} (h:(bif b then none else x)=some r):b=false∧x=some r:=by cases b <;> first|exact ⟨rfl,h⟩|cases h
theorem if_of {p:Prop} [Decidable p] {x:Option R} (h:(if p then x else none)=some r):p∧x=some r:=by
 by_cases hp:p
 ·rw [if_pos hp]at h;exact ⟨hp,h⟩
 ·rw [if_neg hp]at h;cases h
theorem Ce.to_some {c:Ce} {t:VT} {x:t.den} (h:c.to t=some x):c=⟨t,x⟩:=by
 unfold Ce.to at h
 obtain ⟨u,y⟩:=c
 cases he:VT.eqv u t with
 | none=>simp [he]at h
 | some q =>
  obtain ⟨e⟩:=q
  subst e
  rw [he]at h
  simp only [Option.map_some,Option.some.injEq]at h
  rw [←h]
theorem Ce.int_some {c:Ce} {k:IntKind} {z:Int} (h:c.int? = some (k,z)):c.av=.lit (.int k z):=by
 obtain ⟨t,x⟩:=c
 cases t with
 | int k'=>simp only [Ce.int?,Option.some.injEq,Prod.mk.injEq]at h;obtain ⟨rfl,rfl⟩:=h;rfl
 | byte=>simp only [Ce.int?,Option.some.injEq,Prod.mk.injEq]at h;obtain ⟨rfl,rfl⟩:=h;rfl
 | _=>cases h
theorem Ce.bool_some {c:Ce} {b:Bool} (h:c.bool? = some b):c.av=.lit (.bool b):=by
 obtain ⟨t,x⟩:=c
 cases t with
 | bool=>simp only [Ce.bool?,Option.some.injEq]at h;subst h;rfl
 | _=>cases h
theorem Ce.str_some {c:Ce} {l:List UInt8} (h:c.str? = some l):c.av=bsA l:=by
 obtain ⟨t,x⟩:=c
 cases t with
 | str=>simp only [Ce.str?,Option.some.injEq]at h;subst h;rfl
 | _=>cases h
theorem byteR_of {z:Int} (h:byteR z=true):z=((UInt8.ofNat z.toNat).toNat:Nat):=by
 simp only [byteR,Bool.and_eq_true,decide_eq_true_eq]at h
 have:z.toNat<256:=by omega
 rw [UInt8.toNat_ofNat_of_lt' (by simpa using this)]
 omega
theorem Ce.byte_some {c:Ce} {b:UInt8} {l:List Ce} (h:c.byteT=some b) (hb:okBs (c :: l)=true):c.av=byteA b:=by
 obtain ⟨t,x⟩:=c
 cases t with
 | byte=>simp only [Ce.byteT,Option.some.injEq]at h;subst h;rfl
 | int k =>
  cases k <;> simp only [Ce.byteT]at h <;> first|(cases h;done)|skip
  cases h
  have hb:(byteR x && okBs l)=true:=hb
  have h1:=(Bool.and_eq_true _ _ ▸ hb:byteR x=true∧okBs l=true).1
  show AV.lit (.int .u8 x)=AV.lit (.int .u8 _)
  rw [←byteR_of h1]
 | _=>cases h
theorem okBs_tail {c:Ce} {l:List Ce} (h:okBs (c :: l)=true):okBs l=true:=by
 obtain ⟨t,x⟩:=c
 cases t with
 | int k =>
  cases k <;> first|exact h|skip
  have h:(byteR x && okBs l)=true:=h
  simp only [Bool.and_eq_true]at h
  exact h.2
 | _=>exact h
theorem SV.ce_some {x:SV} {c:Ce} (h:x.ce? = some c):x=.v (.o (.c c)):=by
 unfold SV.ce? at h
 split at h
 ·cases h;rfl
 ·cases h
theorem eraSV_ce {f:Nat→Option RW} {x:SV} {c:Ce} (h:x.ce? = some c):eraSV f x=some (.av c.av):=by rw [SV.ce_some h];rfl
theorem const_bs (b:ByteArray):bs b.data.toList=b:=by simp [bs]
theorem getS_sound {x:Operand} {sv:SV} (h:getS E s x=some sv):(era E s).get x=eraSV (rowv E s) sv:=by
 cases x with
 | tmp t=>simp only [getS]at h;show (slot E s t).bind _=_;rw [h];rfl
 | const v =>
  simp only [getS,constS]at h
  split at h <;> first
   | (cases h;done)
   | (cases h;rfl)
 | func f=>simp only [getS,Option.some.injEq]at h;subst h;rfl
 | global g=>simp only [getS,Option.some.injEq]at h;subst h;rfl
theorem get_ce {x:Operand} {sv:SV} {c:Ce} (h:getS E s x=some sv) (h2:sv.ce? = some c):(era E s).get x=some (.av c.av):=by rw [getS_sound h,eraSV_ce h2]
set_option maxHeartbeats 2000000 in
theorem binC_sound {b:Bool} {op:BinOp} {x y:Ce} {k:Ce→Option R} (h:binC b op x y k=some r):∃rc u v w,k rc=some r∧x.av=.lit u∧y.av=.lit v∧rc.av=.lit w∧binR b op u v w:=by
 unfold binC at h
 split at h
 ·rename_i q m q' n h1 h2
  have e1:=Ce.int_some h1
  have e2:=Ce.int_some h2
  cases op
  all_goals simp only at h
  all_goals first
   | (cases h;done)
   | (obtain ⟨hq,h'⟩:=if_of h;subst hq;obtain ⟨h0,h'⟩:=bifn_of h';refine ⟨_,_,_,_,h',e1,e2,rfl,?_⟩;exact ⟨rfl,by simpa using h0,rfl⟩)
   | (obtain ⟨hq,h'⟩:=if_of h;subst hq;refine ⟨_,_,_,_,h',e1,e2,rfl,?_⟩;exact ⟨rfl,rfl⟩)
   | (obtain ⟨hq,h⟩:=bif_of h;refine ⟨_,_,_,_,h,e1,e2,rfl,?_⟩;exact ⟨by simpa using hq,rfl⟩)
 ·split at h
  ·rename_i m n h1 h2
   have e1:=Ce.str_some h1
   have e2:=Ce.str_some h2
   cases op <;> simp only at h <;> first
    | (cases h;done)
    | (refine ⟨_,_,_,_,h,e1,e2,rfl,?_⟩;simp only [binR,toList_bs];done)
    | skip
   obtain ⟨hq,h⟩:=bif_of h
   refine ⟨_,_,_,_,h,e1,e2,rfl,?_,?_⟩
   ·have:=Nat.le_of_ble_eq_true hq
    rw [bs_size,bs_size];omega
   ·rw [bs_app]
  ·split at h
   ·rename_i m n h1 h2
    have e1:=Ce.bool_some h1
    have e2:=Ce.bool_some h2
    cases op <;> simp only at h <;> first
     | (cases h;done)
     | (obtain ⟨hq,h⟩:=bif_of h;refine ⟨_,_,_,_,h,e1,e2,rfl,?_⟩;exact ⟨hq,rfl⟩)
   ·cases h
theorem unC_sound {op:UnOp} {x:Ce} {k:Ce→Option R} (h:unC op x k=some r):∃rc u w,k rc=some r∧x.av=.lit u∧rc.av=.lit w∧unR op u w:=by
 unfold unC at h
 split at h
 ·obtain ⟨⟨q,z⟩,h1,h⟩:=bind_of h
  exact ⟨_,_,_,h,Ce.int_some h1,rfl,rfl⟩
 ·obtain ⟨z,h1,h⟩:=bind_of h
  exact ⟨_,_,_,h,Ce.bool_some h1,rfl,rfl⟩
 ·cases h
theorem ix_some {α:Type} {l:List α} {i:Int} {x:α} (h:ix l i=some x):0≤i∧l[i.toNat]? = some x:=by
 obtain ⟨h1,h2⟩:=bif_of h
 exact ⟨by simpa using h1,h2⟩
theorem sub_some {α:Type} {l m:List α} {lo hi:Int} (h:sub l lo hi=some m):0≤lo∧lo≤hi∧hi≤(l.length:Nat)∧m=(l.take hi.toNat).drop lo.toNat:=by
 obtain ⟨h1,h2⟩:=bif_of h
 simp only [Bool.and_eq_true,decide_eq_true_eq]at h1
 cases h2
 exact ⟨h1.1,h1.2.1,h1.2.2,rfl⟩
theorem strsOf_some:∀{vs:List Value} {l:List (List UInt8)},strsOf vs=some l→vs.map AV.lit=l.map bsA
 | [],l,h=>by cases h;rfl
 | v :: vs,l,h=>by
  unfold strsOf at h
  split at h
  ·rename_i heq;cases heq
  ·rename_i b l' heq
   cases heq
   obtain ⟨m,h1,rfl⟩:=Option.map_eq_some_iff.1 h
   simp only [List.map_cons,strsOf_some h1]
   rw [bsA,const_bs]
  ·cases h
theorem lookS_sound {x:SV} {k:List Ce→Option R} (h:lookS E s x k=some r):∃cs rest,k cs=some r∧(era E s).lookG (eraSV (rowv E s) x)=some (cs.map Ce.av ++ rest):=by
 unfold lookS at h
 split at h
 ·obtain ⟨cs,h1,h⟩:=bind_of h
  refine ⟨_,[],h,?_⟩
  show (((memv E s _).map (List.map Ce.av)).map _)=_
  rw [h1]
  simp
 ·exact ⟨_,[],h,by rw [List.append_nil];rfl⟩
 ·rename_i g off
  obtain ⟨vs,h1,h⟩:=bind_of h
  obtain ⟨l,h2,h⟩:=bind_of h
  obtain ⟨y,h3,h⟩:=bind_of h
  refine ⟨_,(l.drop (off+1)).map bsA,h,?_⟩
  show (globT g).map (fun cs=>(cs.drop off).map AV.lit)=_
  rw [h1,Option.map_some,List.map_drop,strsOf_some h2,←List.map_drop]
  obtain ⟨hlt,rfl⟩:=List.getElem?_eq_some_iff.1 h3
  rw [List.drop_eq_getElem_cons hlt]
  rfl
 ·rename_i g off
  obtain ⟨vs,h1,h⟩:=bind_of h
  obtain ⟨l,h2,h⟩:=bind_of h
  refine ⟨_,[],h,?_⟩
  show (globT g).map (fun cs=>(cs.drop off).map AV.lit)=_
  rw [h1,Option.map_some,List.map_drop,strsOf_some h2,←List.map_drop,List.append_nil,List.map_map]
  rfl
 ·rename_i t i o
  obtain ⟨rw',h1,h⟩:=bind_of h
  cases rw' with
  | row z e q ty l =>
   simp only at h
   obtain ⟨h3,h⟩:=bif_of h
   obtain ⟨y,h4,h⟩:=bind_of h
   have h3:ty.size=q:=Nat.eq_of_beq_eq_true h3
   refine ⟨_,[],h,?_⟩
   have hn:(RW.row z e q ty l).nilB=false:=by
    cases l with
    | nil=>cases h4
    | cons a l=>simp [RW.nilB]
   simp only [eraSV,h1,Option.map_some,AS.lookG,AS.look,List.append_nil]
   show ((rowv E s t).bind RW.ov).bind _=_
   rw [h1]
   simp only [Option.bind_some,RW.ov,hn,cond_false,RW.ov1,OV.look,RW.k,if_true,List.getElem?_map,h4,Option.map_some]
   rw [elA_cells _ _ _ h3,List.map_drop]
  | map kt vt l=>cases h
  | limb z e l =>
   simp only at h
   obtain ⟨h3,h⟩:=bif_of h
   obtain ⟨y,h4,h⟩:=bind_of h
   have h3:o=0:=Nat.eq_of_beq_eq_true h3
   refine ⟨_,[],h,?_⟩
   have hn:(RW.limb z e l).nilB=false:=by
    cases l with
    | nil=>cases h4
    | cons a l=>simp [RW.nilB]
   simp only [eraSV,h1,Option.map_some,AS.lookG,AS.look,List.append_nil]
   show ((rowv E s t).bind RW.ov).bind _=_
   rw [h1]
   simp only [Option.bind_some,RW.ov,hn,cond_false,RW.ov1,OV.look,RW.k,h3,and_self,if_true,h4,Option.map_some]
   rfl
 ·cases h
theorem takeS_sound {i:TI} {cs:List Ce} {rest:List AV} {a:V0} (h:takeS i cs=some a):takeA i (cs.map Ce.av ++ rest)=some a.av:=by
 unfold takeS at h
 unfold takeA
 split at h
 ·rename_i fs hk
  obtain ⟨h1,h⟩:=bif_of h
  cases h
  rw [hk]
  simp only
  have h1:=Nat.le_of_ble_eq_true h1
  rw [if_pos (by simp;omega),List.take_append_of_le_length (by simpa using h1)]
  simp [V0.av]
 ·rename_i fs hk
  obtain ⟨h1,h⟩:=bif_of h
  cases h
  rw [hk]
  simp only
  have h1:=Nat.le_of_ble_eq_true h1
  rw [if_pos (by simp;omega),List.take_append_of_le_length (by simpa using h1)]
  simp [V0.av]
 ·rename_i h1 h2
  obtain ⟨c,h3,rfl⟩:=Option.map_eq_some_iff.1 h
  have:(cs.map Ce.av ++ rest).head? = some c.av:=by cases cs <;> simp_all
  split
  ·rename_i fs hk;exact absurd hk (h1 fs)
  ·rename_i n e k hk;exact absurd hk (h2 n e k)
  ·exact this
theorem offS_sound {o:Nat} {x y:SV} (h:offS E s o x=some y):∃v,eraSV (rowv E s) y=some v∧offT o (eraSV (rowv E s) x)=some v:=by
 unfold offS at h
 split at h
 ·cases h;exact ⟨_,rfl,rfl⟩
 ·cases h;exact ⟨_,rfl,by simp [eraSV,V.av,V0.av,offT,List.map_drop]⟩
 ·rename_i t i q
  obtain ⟨w,h1,h2⟩:=Option.map_eq_some_iff.1 h
  subst h2
  exact ⟨.oref t w.k i (q+o),by simp [eraSV,h1],by simp [eraSV,h1,offT]⟩
 ·cases h
end
end Go.Proofs.YtcaahphghaddgaaGreatDoor
