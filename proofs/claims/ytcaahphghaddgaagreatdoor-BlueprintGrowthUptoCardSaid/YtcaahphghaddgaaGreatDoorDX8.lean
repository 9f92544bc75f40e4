import Derived.Test.YtcaahphghaddgaaGreatDoorDX7
/- Text X8. -/
set_option linter.unusedSimpArgs false
set_option linter.unusedVariables false
namespace Go.Proofs.YtcaahphghaddgaaGreatDoor
open Go.RowKit Lim
section
variable {R:Type} {r:R} {E s:VS} {T:TyTab} {el:TypeId→Option VT}
def liveB (E s:VS) (t:Nat):Bool:=match rowv E s t with|some w=>!w.nilB|none=>false
def liveU (E s:VS) (us:List Nat):List Nat:=us.filter (liveB E s)
theorem frz_same {σ:AS} {A B:List Nat} (h:∀t,A.contains t=B.contains t):σ.frz A=σ.frz B:=by
 obtain ⟨tm,mem,own⟩:=σ
 have e:frzT ⟨tm,mem,own⟩ A=frzT ⟨tm,mem,own⟩ B:=by
  funext v
  cases v <;> simp only [frzT,h]
 simp only [AS.frz,e,h]
theorem frz_frz (σ:AS) (A B:List Nat):(σ.frz A).frz B=σ.frz (A ++ B):=by
 have hc:∀t,(A ++ B).contains t=(A.contains t || B.contains t):=fun t=>by simp
 have h1:∀x,((σ.frz A).frz B).tm x=(σ.frz (A ++ B)).tm x:=fun x=>by
  show ((σ.tm x).bind (frzT σ A)).bind (frzT (σ.frz A) B)=(σ.tm x).bind (frzT σ (A ++ B))
  cases σ.tm x with
  | none=>rfl
  | some v =>
   simp only [Option.bind_some]
   cases v with
   | osl t k off len =>
    simp only [frzT,hc]
    cases ha:A.contains t with
    | true =>
     simp only [if_true,Bool.true_or]
     split
     ·split <;> rfl
     ·rfl
    | false =>
     simp only [Bool.false_eq_true,if_false,Bool.false_or,Option.bind_some,frzT,AS.frz,ha]
   | oref t k i o =>
    simp only [frzT,hc]
    cases ha:A.contains t with
    | true=>simp
    | false=>simp [frzT]
   | _=>rfl
 have h2:∀x,((σ.frz A).frz B).own x=(σ.frz (A ++ B)).own x:=fun x=>by
  show (if B.contains x then none else if A.contains x then none else σ.own x)=if (A ++ B).contains x then none else σ.own x
  rw [hc]
  cases A.contains x <;> cases B.contains x <;> rfl
 have e1:((σ.frz A).frz B).tm=(σ.frz (A ++ B)).tm:=funext h1
 have e2:((σ.frz A).frz B).own=(σ.frz (A ++ B)).own:=funext h2
 have e3:((σ.frz A).frz B).mem=(σ.frz (A ++ B)).mem:=rfl
 cases hx:(σ.frz A).frz B
 cases hy:σ.frz (A ++ B)
 rw [hx,hy]at e1 e2 e3
 simp only at e1 e2 e3
 rw [e1,e2,e3]
theorem isRow_some {t:Nat} {v:SV} (h:isRow t v=true):v=.row t:=by
 cases v with
 | row t'=>simp only [isRow]at h;rw [Nat.eq_of_beq_eq_true h]
 | _=>cases h
theorem frz1_le {t:Nat} {s':VS} (h:frz1 E s t=some s'):AS.le0 (era E s') ((era E s).frz (liveU E s [t]))∧∀y,rowv E s' y=if y=t then none else rowv E s y:=by
 unfold frz1 at h
 obtain ⟨w,hw,h⟩:=bind_of h
 obtain ⟨h1,h⟩:=bif_of h
 obtain ⟨h1,hm⟩:=band_of h1
 obtain ⟨h2,h3⟩:=band_of h1
 have hm:w.isMap=false:=by simpa using hm
 have hE:lk E.own t=none:=by simpa using h3
 cases h
 have hr:∀y,rowv E ⟨thaw t w.ce s.tm,s.mem,rmv t s.own⟩ y=if y=t then none else rowv E s y:=fun y=>by
  rw [rowv_rmv _ _ _ _ hE];rfl
 have hrw:rowv E s t=some w:=by unfold rowv;rw [hw]
 refine ⟨?_,hr⟩
 have hslot:∀x v,slot E ⟨thaw t w.ce s.tm,s.mem,rmv t s.own⟩ x=some v→∃v0,slot E s x=some v0∧(v0=.row t∧v=.v (.o (.c w.ce))∨usesR t v0=false∧v=v0):=fun x v hv=>by
  rcases slot_some.1 hv with q|⟨q1,q2⟩
  ·simp only [lk_thaw]at q
   obtain ⟨u,q3,q4⟩:=Option.map_eq_some_iff.1 q
   cases u with
   | none=>cases q4
   | some u =>
    simp only [Option.bind_some]at q4
    refine ⟨u,slot_some.2 (.inl q3),?_⟩
    cases hi:isRow t u with
    | true=>rw [hi]at q4;cases q4;exact .inl ⟨isRow_some hi,rfl⟩
    | false =>
     rw [hi]at q4
     cases hu:usesR t u with
     | true=>rw [hu]at q4;cases q4
     | false=>rw [hu]at q4;cases q4;exact .inr ⟨rfl,rfl⟩
  ·simp only [lk_thaw,Option.map_eq_none_iff]at q1
   exact ⟨v,slot_some.2 (.inr ⟨q1,q2⟩),.inr ⟨noneUses_of h2 q2,rfl⟩⟩
 have hcon:∀y,(liveU E s [t]).contains y=(!w.nilB && decide (y=t)):=fun y=>by
  simp only [liveU,List.filter_cons,List.filter_nil,liveB,hrw]
  cases w.nilB with
  | true=>simp
  | false=>simp
 refine ⟨fun x u hx=>?_,fun x u hx=>hx,fun x u hx=>?_,fun x u hx hh=>?_⟩
 ·have hx:(slot E ⟨thaw t w.ce s.tm,s.mem,rmv t s.own⟩ x).bind (eraSV (rowv E ⟨thaw t w.ce s.tm,s.mem,rmv t s.own⟩))=some u:=hx
  obtain ⟨v,q1,q2⟩:=bind_of hx
  obtain ⟨v0,q3,q4⟩:=hslot x v q1
  show ((slot E s x).bind (eraSV (rowv E s))).bind (frzT (era E s) (liveU E s [t]))=some u
  rw [q3,Option.bind_some]
  rcases q4 with ⟨rfl,rfl⟩|⟨q5,rfl⟩
  ·have q2:some (TV.av w.ce.av)=some u:=q2
   cases q2
   cases hn:w.nilB with
   | true =>
    rw [row_nil hrw hn,RW.ce_nil hn]
    rfl
   | false =>
    rw [row_slot hrw hn hm,Option.bind_some]
    simp only [frzT,hcon,hn,Bool.not_false,decide_true,Bool.and_self,if_true,era_own,hrw,Option.bind_some,ov_live hn,RW.ov1_k,RW.ov1_len,Nat.zero_add,Nat.le_refl,and_self]
    rw [RW.ov1_part _ hm,RW.ce_full hn]
  ·have e:eraSV (rowv E s) v=some u:=by
    rw [←q2]
    refine eraSV_congr fun y hy=>?_
    have hyt:y≠t:=fun e=>by subst e;rw [q5]at hy;cases hy
    rw [hr,if_neg hyt]
   rw [e,Option.bind_some]
   cases v with
   | row y =>
    have hyt:y≠t:=fun e=>by subst e;simp [usesR]at q5
    simp only [eraSV]at e
    obtain ⟨w1,_,rfl⟩:=Option.map_eq_some_iff.1 e
    unfold RW.tv
    cases w1.nilB with
    | true=>rfl
    | false =>
    cases w1.isMap with
    | true=>rfl
    | false=>simp only [cond_false,Option.bind_some,frzT,hcon,hyt,decide_false,Bool.and_false,Bool.false_eq_true,if_false]
   | oref y i o =>
    have hyt:y≠t:=fun e=>by subst e;simp [usesR]at q5
    simp only [eraSV]at e
    obtain ⟨w1,_,rfl⟩:=Option.map_eq_some_iff.1 e
    simp only [Option.bind_some,frzT,hcon,hyt,decide_false,Bool.and_false,Bool.false_eq_true,if_false]
   | _=>cases e;rfl
 ·have hx:(rowv E ⟨thaw t w.ce s.tm,s.mem,rmv t s.own⟩ x).bind RW.ov=some u:=hx
  rw [hr]at hx
  show (if (liveU E s [t]).contains x then none else (rowv E s x).bind RW.ov)=some u
  by_cases he:x=t
  ·rw [if_pos he]at hx;cases hx
  ·rw [if_neg he]at hx
   rw [hcon]
   simp only [he,decide_false,Bool.and_false,Bool.false_eq_true,if_false]
   exact hx
 ·have hx:(if (liveU E s [t]).contains x then none else (rowv E s x).bind RW.ov)=some u:=hx
  show (rowv E ⟨thaw t w.ce s.tm,s.mem,rmv t s.own⟩ x).bind RW.ov=some u
  rw [hr]
  rw [hcon]at hx
  by_cases he:x=t
  ·subst he
   cases hn:w.nilB with
   | true=>simp only [hn,Bool.not_true,Bool.false_and,Bool.false_eq_true,if_false,hrw,Option.bind_some,ov_nil hn]at hx;cases hx
   | false=>simp [hn]at hx
  ·rw [if_neg he]
   simpa [he]using hx
theorem frzs_le:∀(us:List Nat) {s s':VS},frzs E us s=some s'→AS.le0 (era E s') ((era E s).frz (liveU E s us))
 | [],s,s',h=>by cases h;rw [show liveU E s []=[]from rfl,frz_nil];exact le0_refl _
 | t :: us,s,s',h=>by
  unfold frzs at h
  cases hw:lk s.own t with
  | none =>
   rw [hw]at h
   simp only [Option.elim_none]at h
   obtain ⟨h1,h⟩:=bif_of h
   have hE:lk E.own t=none:=by simpa using h1
   have:liveU E s (t :: us)=liveU E s us:=by
    have:liveB E s t=false:=by unfold liveB rowv;rw [hw];simp only;rw [hE]
    simp [liveU,this]
   rw [this]
   exact frzs_le us h
  | some w =>
   rw [hw]at h
   simp only [Option.elim_some]at h
   obtain ⟨s1,h1,h⟩:=bind_of h
   obtain ⟨q1,q2⟩:=frz1_le h1
   have q3:=frzs_le us h
   have q4:=frz_le0 q1 (liveU E s1 us)
   rw [frz_frz]at q4
   rw [frz_same (B:=liveU E s [t] ++ liveU E s1 us) fun y=>?_]
   ·exact q3.trans q4
   ·have hl:liveB E s1 y=(!decide (y=t) && liveB E s y):=by
     unfold liveB
     rw [q2]
     by_cases he:y=t <;> simp [he]
    rw [Bool.eq_iff_iff]
    simp only [liveU,List.contains_iff_mem,List.mem_append,List.mem_filter,List.mem_cons,List.not_mem_nil,or_false,hl,Bool.and_eq_true,Bool.not_eq_true',decide_eq_false_iff_not]
    constructor
    ·rintro ⟨rfl|h2,h3⟩
     ·exact .inl ⟨rfl,h3⟩
     ·by_cases he:y=t
      ·exact .inl ⟨he,h3⟩
      ·exact .inr ⟨h2,he,h3⟩
    ·rintro (⟨h2,h3⟩|⟨h2,_,h3⟩)
     ·exact ⟨.inl h2,h3⟩
     ·exact ⟨.inr h2,h3⟩
theorem normA_id {ty:TypeId} {a:AV} (h:a≠nilA):normA T ty a=a:=by
 unfold normA
 split
 ·exact absurd rfl h
 ·rfl
theorem normA_nilS {ty:TypeId} {i:TI} {e q:Nat} (h:T ty=some i) (hk:i.kind=.slc e q false):normA T ty nilA=.sl q []:=by
 obtain ⟨k,z,b⟩:=i
 simp only at hk
 subst hk
 simp [normA,h]
theorem normA_nilN {ty:TypeId} {i:TI} {e q:Nat} (h:T ty=some i) (hk:i.kind=.slc e q true):normA T ty nilA=.nat []:=by
 obtain ⟨k,z,b⟩:=i
 simp only at hk
 subst hk
 simp [normA,h]
theorem argRow {t:Nat} {w:RW} {ty:TypeId} (hw:rowv E s t=some w) (hm:w.isMap=false) (hn:w.nilB=true→normA T ty nilA=w.ca.av):∃tv,eraSV (rowv E s) (.row t)=some tv∧(era E s).argT T ty tv=some w.ca.av∧usedT (some tv)=liveU E s [t]:=by
 cases hb:w.nilB with
 | true =>
  refine ⟨_,row_nil hw hb,?_,?_⟩
  ·simp only [AS.argT,hn hb]
  ·simp [usedT,liveU,liveB,hw,hb]
 | false =>
  refine ⟨_,row_slot hw hb hm,?_,?_⟩
  ·simp only [AS.argT,era_own,hw,Option.bind_some,ov_live hb,RW.ov1_k,RW.ov1_len,Nat.zero_add,Nat.le_refl,and_self,if_true,RW.ov1_part _ hm]
  ·simp [usedT,liveU,liveB,hw,hb]
theorem rawNil_eq {y:RawV} (h:rawNil y=true):y.1=nilA:=by
 unfold rawNil at h
 split at h
 ·assumption
 ·cases h
theorem normA_nos {ty:TypeId} {i:TI} {a:AV} (h:T ty=some i) (hk:∀e q lm,i.kind=.slc e q lm→False):normA T ty a=a:=by
 unfold normA
 split
 ·rw [h]
  obtain ⟨kd,z,b⟩:=i
  cases kd <;> first|rfl|exact absurd rfl (hk _ _ _)
 ·rfl
set_option maxHeartbeats 2000000 in
theorem argS_sound {ty:TypeId} {v:SV} {k:V→List Nat→Option R} (h:argS T E s el ty v k=some r):∃a us tv,k a us=some r∧eraSV (rowv E s) v=some tv∧(era E s).argT T ty tv=some a.av∧usedT (some tv)=liveU E s us:=by
 unfold argS at h
 split at h
 ·rename_i y
  have ey:Ce.av ⟨.raw,y⟩=y.1:=rfl
  split at h
  ·cases h
  ·rename_i i h1
   split at h
   ·rename_i e q lm hk
    obtain ⟨hn,h⟩:=bif_of h
    have hy:y.1=nilA:=rawNil_eq hn
    have hv:∀f:Nat→Option RW,eraSV f (.v (.o (.c ⟨.raw,y⟩)))=some (.av nilA):=fun f=>by
     show some (TV.av (Ce.av ⟨.raw,y⟩))=_
     rw [ey,hy]
    cases lm with
    | true =>
     obtain ⟨_,h⟩:=bif_of h
     exact ⟨_,_,_,h,hv _,congrArg some (normA_nilN h1 hk),rfl⟩
    | false =>
     obtain ⟨t,h2,h⟩:=bind_of h
     exact ⟨_,_,_,h,hv _,congrArg some (normA_nilS h1 hk),rfl⟩
   ·rename_i hk
    exact ⟨_,_,_,h,rfl,congrArg some (normA_nos h1 hk),rfl⟩
 ·rename_i q e l
  obtain ⟨i,h1,h⟩:=bind_of h
  split at h
  ·rename_i e' q' hk
   obtain ⟨hq,h'⟩:=bif_of h
   have hq:=beq_of hq
   subst hq
   refine ⟨_,_,_,h',rfl,?_,rfl⟩
   cases l with
   | nil=>exact congrArg some (normA_nilS h1 hk)
   | cons a l=>rfl
  ·cases h
 ·rename_i l
  obtain ⟨i,h1,h⟩:=bind_of h
  split at h
  ·rename_i e' q' hk
   refine ⟨_,_,_,h,rfl,?_,rfl⟩
   cases l with
   | nil=>exact congrArg some (normA_nilN h1 hk)
   | cons a l=>rfl
  ·cases h
 ·cases h
 ·cases h
 ·cases h
 ·rename_i x h1 h2 h3 h4 h5 h6
  refine ⟨_,_,_,h,rfl,congrArg some (normA_id ?_),rfl⟩
  intro hx
  cases x with
  | o y =>
   cases y with
   | c c =>
    obtain ⟨t,x⟩:=c
    cases t with
    | raw=>exact h1 x rfl
    | slz q e=>exact h2 q e x rfl
    | natz=>exact h3 x rfl
    | unit=>exact h4 x rfl
    | pair a b=>exact h5 a b x rfl
    | _=>cases hx
   | _=>cases hx
  | _=>cases hx
 ·rename_i t
  obtain ⟨w,hw,h⟩:=bind_of h
  split at h
  ·exact ⟨_,_,_,h,argRow hw rfl (fun hn=>by simp [RW.nilB]at hn) |>.choose_spec⟩
  ·exact ⟨_,_,_,h,argRow hw rfl (fun hn=>by simp [RW.nilB]at hn) |>.choose_spec⟩
  ·rename_i e q vt l
   obtain ⟨i,h1,h⟩:=bind_of h
   split at h
   ·rename_i e' q' hk
    obtain ⟨hq,h'⟩:=bif_of h
    have hq:=beq_of hq
    subst hq
    refine ⟨_,_,_,h',argRow hw rfl (fun hn=>?_) |>.choose_spec⟩
    have hl:l=[]:=by have:=nilB_len hn;simpa [RW.len]using this
    subst hl
    exact normA_nilS h1 hk
   ·cases h
  ·rename_i e l
   obtain ⟨i,h1,h⟩:=bind_of h
   split at h
   ·rename_i e' q' hk
    refine ⟨_,_,_,h,argRow hw rfl (fun hn=>?_) |>.choose_spec⟩
    have hl:l=[]:=by have:=nilB_len hn;simpa [RW.len]using this
    subst hl
    exact normA_nilN h1 hk
   ·cases h
  ·cases h
 ·cases h
theorem argS_plain {ty:TypeId} {v:SV} {k:V→List Nat→Option R}:argS T E s el ty v k=argS T E s el ty v (fun a us=>bif a.plain then k a us else none):=by
 unfold argS
 split
 ·rename_i y
  cases T ty with
  | none=>rfl
  | some i =>
   simp only
   split
   ·rename_i e q lm hk
    cases rawNil y <;> cases lm <;> rfl
   ·rfl
 ·cases T ty with
  | none=>rfl
  | some i=>simp only [Option.bind_some];split <;> rfl
 ·cases T ty with
  | none=>rfl
  | some i=>simp only [Option.bind_some];split <;> rfl
 ·rfl
 ·rfl
 ·rfl
 ·rename_i x h1 h2 h3 h4 h5 h6
  have:x.plain=true:=by
   cases x with
   | lent off cs=>exact absurd rfl (h6 off cs)
   | _=>rfl
  simp only [this,cond_true]
 ·rename_i t
  cases rowv E s t with
  | none=>rfl
  | some w =>
   simp only [Option.bind_some]
   split
   ·rfl
   ·rfl
   ·cases T ty with
    | none=>rfl
    | some i=>simp only [Option.bind_some];split <;> rfl
   ·cases T ty with
    | none=>rfl
    | some i=>simp only [Option.bind_some];split <;> rfl
   ·rfl
 ·rfl
theorem argV_ofS {ty:TypeId} {x:Operand} {v:SV} {a:V} {us:List Nat} {tv:TV} (hx:getS E s x=some v) (h1:eraSV (rowv E s) v=some tv) (h2:(era E s).argT T ty tv=some a.av) (h3:usedT (some tv)=liveU E s us):(era E s).argV T ty x=some a.av∧(era E s).usedV x=liveU E s us:=by
 have hg:=getS_sound hx
 rw [h1]at hg
 exact ⟨by simp only [AS.argV,hg,Option.bind_some,h2],by simp only [AS.usedV,hg,h3]⟩
theorem liveU_app (a b:List Nat):liveU E s (a ++ b)=liveU E s a ++ liveU E s b:=List.filter_append ..
theorem argsS_sound:∀(xs:List Operand) (tys:List TypeId) {k:List V→List Nat→Option R},argsS T E s el xs tys k=some r→∃as' us,k as' us=some r∧(era E s).args T xs tys=some (as'.map V.av)∧(era E s).usedL xs=liveU E s us
 | [],_,k,h=>⟨[],[],h,rfl,rfl⟩
 | x :: xs,tys,k,h=>by
  unfold argsS at h
  obtain ⟨v,h1,h⟩:=bind_of h
  obtain ⟨a,us,tv,h,h2,h3,h4⟩:=argS_sound h
  obtain ⟨as',us',h,h5,h6⟩:=argsS_sound xs tys.tail h
  obtain ⟨h7,h8⟩:=argV_ofS h1 h2 h3 h4
  refine ⟨_,_,h,?_,?_⟩
  ·simp only [AS.args,h7,h5,Option.map_some,List.map_cons]
  ·simp only [AS.usedL,h8,h6,liveU_app]
theorem argsS_plain:∀(xs:List Operand) (tys:List TypeId) (k:List V→List Nat→Option R),argsS T E s el xs tys k=argsS T E s el xs tys (fun xs' us=>bif xs'.all V.plain then k xs' us else none)
 | [],_,k=>rfl
 | x :: xs,tys,k=>by
  unfold argsS
  cases getS E s x with
  | none=>rfl
  | some v =>
   simp only [Option.bind_some]
   rw [argS_plain (k:=fun a us=>argsS T E s el xs tys.tail fun as' us'=>k (a :: as') (us ++ us')),argS_plain (k:=fun a us=>argsS T E s el xs tys.tail fun as' us'=>bif (a :: as').all V.plain then k (a :: as') (us ++ us') else none)]
   congr 1
   funext a us
   cases ha:a.plain with
   | false=>rfl
   | true =>
    simp only [cond_true]
    rw [argsS_plain xs tys.tail]
    congr 1
    funext as' us'
    rw [List.all_cons,ha,Bool.true_and]
theorem map_splice {cs xs:List Ce} {o:Nat}:(splice cs o xs).map Ce.av=splice (cs.map Ce.av) o (xs.map Ce.av):=by simp [splice,List.map_take,List.map_drop]
theorem fillS_sound {fs:List (Nat × Nat × TypeId)}:∀(parts:List (Nat × Operand)) (cs:List Ce) {k:List Ce→List Nat→Option R},fillS T E s el fs cs parts k=some r→∃cs' us,k cs' us=some r∧fillV T (era E s) fs (cs.map Ce.av) parts=some (cs'.map Ce.av)∧(era E s).usedL (parts.map (·.2))=liveU E s us
 | [],cs,k,h=>⟨cs,[],h,rfl,rfl⟩
 | (f,x) :: rest,cs,k,h=>by
  unfold fillS at h
  obtain ⟨⟨o,n,t⟩,h1,h⟩:=bind_of h
  obtain ⟨v,h2,h⟩:=bind_of h
  obtain ⟨a,us,tv,h,h3,h4,h5⟩:=argS_sound h
  obtain ⟨ac,h6,h⟩:=bind_of h
  obtain ⟨h7,h⟩:=bif_of h
  obtain ⟨h8,h9⟩:=band_of h7
  obtain ⟨cs',us',h,h10,h11⟩:=fillS_sound rest _ h
  obtain ⟨h12,h13⟩:=argV_ofS h2 h3 h4 h5
  refine ⟨_,_,h,?_,?_⟩
  ·unfold fillV
   rw [h1]
   simp only [h12,V.cells_av h6]
   rw [if_pos ⟨by simpa using beq_of h8,by simpa using Nat.le_of_ble_eq_true h9⟩,←map_splice]
   exact h10
  ·simp only [List.map_cons,AS.usedL,h13,h11,liveU_app]
end
end Go.Proofs.YtcaahphghaddgaaGreatDoor
