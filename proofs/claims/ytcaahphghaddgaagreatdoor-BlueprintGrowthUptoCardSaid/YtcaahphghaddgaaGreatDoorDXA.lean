import Derived.Test.YtcaahphghaddgaaGreatDoorDX9
/- Text XA. -/
set_option linter.unusedSimpArgs false
set_option linter.unusedVariables false
namespace Go.Proofs.YtcaahphghaddgaaGreatDoor
open Go.RowKit Lim
def resO (g:Sig) (x:denL g.ts):AV:=packA ((unflat g (ces g.ts x)).map V0.av)
section
variable {R:Type} {r:R} {C:Ctx} {E s:VS} {el:TypeId→Option VT} {sig:SigM} {A A0:Ask} {dr:Bool}
theorem frzs_row:∀(us:List Nat) {s s':VS} {t:Nat},frzs E us s=some s'→us.contains t=false→rowv E s' t=rowv E s t
 | [],s,s',t,h,_=>by cases h;rfl
 | u :: us,s,s',t,h,hn=>by
  simp only [List.contains_cons,Bool.or_eq_false_iff,beq_eq_false_iff_ne]at hn
  unfold frzs at h
  cases hw:lk s.own u with
  | none =>
   rw [hw]at h
   simp only [Option.elim_none]at h
   exact frzs_row us (bif_of h).2 hn.2
  | some w =>
   rw [hw]at h
   simp only [Option.elim_some]at h
   obtain ⟨s1,h1,h⟩:=bind_of h
   rw [frzs_row us h hn.2,(frz1_le h1).2,if_neg hn.1]
theorem liveU_sub {us:List Nat} {t:Nat} (h:us.contains t=false):(liveU E s us).contains t=false:=by
 rw [Bool.eq_false_iff]at h ⊢
 intro hc
 refine h ?_
 simp only [liveU,List.contains_iff_mem,List.mem_filter]at hc ⊢
 exact hc.1
theorem dr_of {us:List Nat} (h:(!dr || us.isEmpty)=true):dr=true→liveU E s us=[]:=fun hd=>by
 rw [hd]at h
 simp only [Bool.not_true,Bool.false_or,List.isEmpty_iff]at h
 rw [h];rfl
theorem valStep {o:Oper} {k:VS→Option R} (h:valS C.T E s o.op (fun v=>k (s.put o.dst v))=some r):∃v,aval C (era E s) o v∧∃s',k s'=some r∧AS.le0 (era E s') ((era E s).put o.dst v):=by
 obtain ⟨sv,v,h1,h2,h3⟩:=valS_sound h
 exact ⟨v,h3,_,h1,put_le h2⟩
theorem nilAt_le {d:Nat} {w:RW} {s':VS} (h:nilAt E s d w=some s') (hn:w.nilB=true):AS.le0 (era E s') ((era E s).put (some d) (.av nilA)):=by
 unfold nilAt at h
 simp only at h
 obtain ⟨h1,h⟩:=bif_of h
 obtain ⟨h2,h3⟩:=band_of h1
 obtain ⟨h4,h5⟩:=band_of h2
 have hE:lk E.own (1000000+d)=none:=by simpa using h5
 cases h
 generalize 1000000+d=n at *
 have hr:∀x,rowv E ⟨(d,some (.row n)) :: wipe (usesR n) s.tm,s.mem,(n,w) :: rmv n s.own⟩ x=if x=n then some w else rowv E s x:=fun x=>by
  rw [rowv_cons,rowv_rmv _ _ _ _ hE]
  by_cases he:x=n <;> simp only [he,if_true,if_false] <;> rfl
 refine ⟨fun x u hx=>?_,fun x u hx=>hx,fun x u hx=>?_,fun x u hx hh=>?_⟩
 ·have hx:(slot E ⟨(d,some (.row n)) :: wipe (usesR n) s.tm,s.mem,(n,w) :: rmv n s.own⟩ x).bind (eraSV (rowv E ⟨(d,some (.row n)) :: wipe (usesR n) s.tm,s.mem,(n,w) :: rmv n s.own⟩))=some u:=hx
  rw [slot_cons]at hx
  show upd (era E s).tm d (some (.av nilA)) x=some u
  by_cases he:x=d
  ·subst he
   rw [if_pos rfl]at hx
   rw [upd_same]
   have:eraSV (rowv E ⟨(x,some (.row n)) :: wipe (usesR n) s.tm,s.mem,(n,w) :: rmv n s.own⟩) (.row n)=some u:=hx
   rw [row_nil (w:=w) (by rw [hr];simp) hn]at this
   exact this
  ·rw [if_neg he]at hx
   rw [upd_ne _ _ he]
   obtain ⟨v,q1,q2⟩:=bind_of hx
   obtain ⟨q3,q4⟩:=slot_wipe h4 q1
   show (slot E s x).bind _=_
   rw [q3,Option.bind_some,←q2]
   refine eraSV_congr fun y hy=>?_
   have hyn:y≠n:=fun e=>by subst e;rw [q4]at hy;cases hy
   rw [hr,if_neg hyn]
 ·have hx:(rowv E ⟨(d,some (.row n)) :: wipe (usesR n) s.tm,s.mem,(n,w) :: rmv n s.own⟩ x).bind RW.ov=some u:=hx
  rw [hr]at hx
  show (rowv E s x).bind RW.ov=some u
  by_cases he:x=n
  ·rw [if_pos he,Option.bind_some,ov_nil hn]at hx;cases hx
  ·rw [if_neg he]at hx;exact hx
 ·have hx:(rowv E s x).bind RW.ov=some u:=hx
  show (rowv E ⟨(d,some (.row n)) :: wipe (usesR n) s.tm,s.mem,(n,w) :: rmv n s.own⟩ x).bind RW.ov=some u
  rw [hr]
  by_cases he:x=n
  ·subst he
   exfalso
   obtain ⟨w1,q1,q2⟩:=bind_of hx
   unfold rowv at q1
   split at q1
   ·rename_i v hv
    cases q1
    rw [hv]at h3
    simp only at h3
    cases w1 with
    | row z e k vt l =>
     unfold RW.ov at q2
     cases hq:(RW.row z e k vt l).nilB with
     | true=>rw [hq]at q2;cases q2
     | false=>rw [hq]at q2;cases q2;cases hh
    | map kt vt l=>cases q2;cases hh
    | limb z e l =>
     have hn:(RW.limb z e l).nilB=true:=by simpa [hotB,RW.nilB]using h3
     unfold RW.ov at q2
     rw [hn]at q2;cases q2
   ·rw [hE]at q1;cases q1
  ·rw [if_neg he];exact hx
theorem elim_of {α:Type} {o:Option α} {a:Option R} {f:α→Option R} (h:o.elim a f=some r):o=none∧a=some r∨∃x,o=some x∧f x=some r:=by
 cases o with
 | none=>exact .inl ⟨rfl,h⟩
 | some x=>exact .inr ⟨x,rfl,h⟩
theorem isNil_era {f:Nat→Option RW} {v:SV} (h:isNil v=true):eraSV f v=some (.av nilA):=by
 unfold isNil at h
 split at h
 ·rfl
 ·cases h
theorem nilStep {x:Operand} {o:Oper} {k:VS→Option R} (ho:∀v,(era E s).get x=some v→aval C (era E s) o v)
  (h:((getS E s x).bind fun v=>asgS C.T el E o.dst o.type s v k)=some r):∃v,aval C (era E s) o v∧∃s',k s'=some r∧AS.le0 (era E s') ((era E s).put o.dst v):=by
 obtain ⟨v,h1,h⟩:=bind_of h
 have hg:=getS_sound h1
 have hok:okS E s v (fun v=>k (s.put o.dst v))=some r→∃v,aval C (era E s) o v∧∃s',k s'=some r∧AS.le0 (era E s') ((era E s).put o.dst v):=fun h=>by
  obtain ⟨h,u,hu⟩:=okS_sound h
  rw [hu]at hg
  exact ⟨u,ho u hg,_,h,put_le hu⟩
 unfold asgS at h
 cases hr:isRaw v with
 | false=>rw [hr]at h;exact hok h
 | true =>
  rw [hr]at h
  simp only [cond_true]at h
  rcases elim_of h with ⟨_,h⟩|⟨w,hw,h⟩
  ·exact hok h
  ·cases hn:isNil v with
   | false=>rw [hn]at h;exact hok h
   | true =>
    rw [hn]at h
    simp only [cond_true]at h
    obtain ⟨d,h2,h⟩:=bind_of h
    have e:=isNil_era (f:=rowv E s) hn
    rw [e]at hg
    refine ⟨_,ho _ hg,?_⟩
    obtain ⟨s',h3,h⟩:=bind_of h
    obtain ⟨i,_,hwn,_⟩:=nilRow_some hw
    rw [h2]
    exact ⟨s',h,nilAt_le h3 hwn⟩
theorem get_ofS {x:Operand} {sv:SV} {tv:TV} (h:getS E s x=some sv) (h2:eraSV (rowv E s) sv=some tv):(era E s).get x=some tv:=by rw [getS_sound h,h2]
theorem iVal_get {x:Operand} {v:SV} {n:Int} (h:getS E s x=some v) (h2:iVal v=some n):∃q,(era E s).get x=some (.av (.lit (.int q n))):=by
 unfold iVal at h2
 split at h2
 ·obtain ⟨⟨q,z⟩,h3,h4⟩:=Option.map_eq_some_iff.1 h2
  cases h4
  exact ⟨q,by rw [getS_sound h];exact congrArg some (litI h3)⟩
 ·cases h2
def MeOK (P:Program) (sig:SigM):Prop:=∀t name f r a a',sig.m t name=some (f,r)→r a=some a'→Meth P t name a f a'
theorem tgtI_some {P:Program} (hM:MeOK P sig) {y:RawV} {name:String} {f:FuncId} {v:V0} (h:tgtI sig y name=some (f,v)):∃t a,y.1=.ifc t a∧Meth P t name a f v.av:=by
 unfold tgtI at h
 split at h
 ·rename_i t a he
  obtain ⟨⟨g,rr⟩,h1,h⟩:=bind_of h
  obtain ⟨a',h2,h⟩:=bind_of h
  obtain ⟨w,h3,h⟩:=Option.map_eq_some_iff.1 h
  cases h
  exact ⟨t,a,he,by rw [decV0_some h3];exact hM t name _ _ a a' h1 h2⟩
 ·cases h
theorem callK_sound {c:Call} {dst:Option Nat} {f:FuncId} {pre post:List AV} {as':List V} {us:List Nat} {g:Sig} {ans:Option (denL g.ts)} {k:VS→Option R}
  (c1:tgt C (era E s) c.callee f pre post) (h2:(era E s).args C.T c.args.toList c.argTypes.toList=some (as'.map V.av)) (h3:(era E s).usedL c.args.toList=liveU E s us)
  (c2:∀x,ans=some x→Con C (era E s) f (pre ++ as'.map V.av ++ post) (resO g x))
  (h:callK E s dr dst us g ans k=some r):callS C dr dst c (era E s) (fun τ=>∃s',k s'=some r∧AS.le0 (era E s') τ):=by
 unfold callK at h
 obtain ⟨h5,h⟩:=bif_of h
 obtain ⟨x,h6,h⟩:=bind_of h
 have c2:=c2 x h6
 have c3:(resO g x).flat=true∨(dr=true→(era E s).usedL c.args.toList=[]):=by
  cases hf:g.fl with
  | true=>exact .inl (pack_fl hf x)
  | false =>
   rw [hf,Bool.false_or,Bool.or_eq_true,List.isEmpty_iff]at h5
   rcases h5 with h5|h5
   ·exact .inr fun _=>by rw [h3,h5];rfl
   ·exact .inr fun hd=>by rw [hd]at h5;cases h5
 cases hb:(g.fl || us.isEmpty)with
 | true =>
  rw [hb]at h
  refine ⟨f,pre,post,as'.map V.av,resO g x,c1,h2,c2,c3,_,h,?_⟩
  have e:(if (resO g x).flat=true then era E s else (era E s).frz ((era E s).usedL c.args.toList))=era E s:=by
   rw [Bool.or_eq_true,List.isEmpty_iff]at hb
   rcases hb with hf|hf
   ·exact if_pos (pack_fl hf x)
   ·rw [h3,hf,show liveU E s []=[]from rfl,frz_nil,ite_self]
  rw [e]
  exact put_le (packV_era _)
 | false =>
  rw [hb,cond_false]at h
  cases hq:flatO g x with
  | true =>
   rw [hq]at h
   refine ⟨f,pre,post,as'.map V.av,resO g x,c1,h2,c2,c3,_,h,?_⟩
   rw [if_pos (show (resO g x).flat=true from hq)]
   exact put_le (packV_era _)
  | false =>
   rw [hq]at h
   obtain ⟨s1,h7,h⟩:=bind_of h
   refine ⟨f,pre,post,as'.map V.av,resO g x,c1,h2,c2,c3,_,h,?_⟩
   have hn:¬(resO g x).flat=true:=fun hq2=>by
    have:flatO g x=true:=hq2
    rw [hq]at this;cases this
   rw [if_neg hn,h3]
   exact (put_le (E:=E) (s:=s1) (packV_era _)).trans (put_le0 (frzs_le us h7) _ _)
theorem plainA {pre post:List V0} {as':List V} (h:as'.all V.plain=true):(pre.map V.o ++ as' ++ post.map V.o).all V.plain=true:=by
 simp only [List.all_append,List.all_map,h,Bool.and_true,Bool.and_eq_true,List.all_eq_true]
 exact ⟨fun _ _=>rfl,fun _ _=>rfl⟩
theorem overS_map {w:RW} {y:V} {p:Nat × RW} (h:overS w y=some p):w.isMap=false∧p.2.isMap=false:=by
 unfold overS at h
 split at h
 ·obtain ⟨_,_,h⟩:=bind_of h
  obtain ⟨_,h⟩:=bif_of h
  cases h
  exact ⟨rfl,rfl⟩
 ·cases h
  exact ⟨rfl,rfl⟩
 ·cases h
theorem kdB_kd {kt:VT} {kd:TK} (h:kdB kt kd=true):kd=kdOf kt:=by
 cases kt <;> cases kd <;> first|(cases h;done)|skip
 ·simp only [kdB,decide_eq_true_eq]at h;subst h;rfl
 ·rfl
 ·rfl
theorem con_of (hA:∀f args g x,args.all V.plain=true→A f args g=some x→ACalls C.t f (args.map V.av) (resO g x)∨ACalls C f (args.map V.av) (resO g x)) (hA0:∀f args g x,args.all V.plain=true→A0 f args g=some x→ACalls C.t f (args.map V.av) (resO g x))
  {f:FuncId} {args:List V} {av:List AV} {g:Sig} {x:denL g.ts} (hp:args.all V.plain=true) (e:av=args.map V.av) (h:(bif cold E s then A f args g else A0 f args g)=some x):Con C (era E s) f av (resO g x):=by
 rw [e]
 cases hcd:cold E s with
 | true =>
  rw [hcd]at h
  exact (hA _ _ _ _ hp h).imp id fun q=>⟨q,fun t ov ho=>cold_own hcd t ov ho⟩
 | false =>
  rw [hcd]at h
  exact .inl (hA0 _ _ _ _ hp h)
set_option maxHeartbeats 4000000 in
theorem stepS_sound (hM:MeOK C.P sig) (hA:∀f args g x,args.all V.plain=true→A f args g=some x→ACalls C.t f (args.map V.av) (resO g x)∨ACalls C f (args.map V.av) (resO g x)) (hA0:∀f args g x,args.all V.plain=true→A0 f args g=some x→ACalls C.t f (args.map V.av) (resO g x))
  {o:Oper} {k:VS→Option R} (h:stepS C.T el sig A A0 E dr o s k=some r):astep C dr o (era E s) (fun τ=>∃s',k s'=some r∧AS.le0 (era E s') τ):=by
 obtain ⟨dst,op,type,pos,after,guard⟩:=o
 unfold stepS at h
 simp only at h
 split at h
 ·
  rename_i ty
  obtain ⟨t,h1,h⟩:=bind_of h
  obtain ⟨i,h2,h⟩:=bind_of h
  obtain ⟨vt,h3,h⟩:=bind_of h
  obtain ⟨cs,h4,h⟩:=bind_of h
  obtain ⟨h5,h⟩:=bif_of h
  obtain ⟨h6,h7⟩:=band_of h5
  have hz:=zeroC_some h4
  refine ⟨t,i,h1,h2,by rw [hz];exact cells_ces cs,by rw [hz];exact nlL_av h6,_,h,?_⟩
  rw [hz]
  exact new_le (band_of h7).1
 ·
  rename_i ty x
  obtain ⟨t,h1,h⟩:=bind_of h
  obtain ⟨v,h2,h⟩:=bind_of h
  obtain ⟨a,us,tv,h,h3,h4,h5⟩:=argS_sound h
  obtain ⟨cs,h6,h⟩:=bind_of h
  obtain ⟨h7,h⟩:=bif_of h
  obtain ⟨h8,h9⟩:=band_of h7
  obtain ⟨h10,h11⟩:=band_of h9
  obtain ⟨s1,h12,h⟩:=bind_of h
  obtain ⟨h13,h14⟩:=argV_ofS h2 h3 h4 h5
  have hc:=V.cells_av h6
  refine ⟨t,a.av,h1,h13,by rw [h14];exact dr_of h8,by rw [hc];exact cells_ces cs,by rw [hc];exact nlL_av h10,_,h,?_⟩
  rw [h14,hc]
  refine (new_le (band_of h11).1).trans (new_le0 (frzs_le us h12) _ _)
 ·
  rename_i ty x y
  obtain ⟨i,h1,h⟩:=bind_of h
  obtain ⟨v,h2,h⟩:=bind_of h
  obtain ⟨a,us,tv,h,h3,h4,h5⟩:=argS_sound h
  obtain ⟨cs,h6,h⟩:=bind_of h
  obtain ⟨h7,h⟩:=bif_of h
  obtain ⟨h8,h9⟩:=band_of h7
  obtain ⟨p,h10,h⟩:=bind_of h
  obtain ⟨h13,h14⟩:=argV_ofS h2 h3 h4 h5
  have hc:=V.cells_av h6
  have hg:=getS_sound h10
  refine ⟨i,a.av,h1,h13,by rw [h14];exact dr_of h8,by rw [hc];simpa using beq_of h9,by rw [hc];exact cells_ces cs,?_⟩
  split at h
  ·rename_i t off
   obtain ⟨h11,h⟩:=bif_of h
   obtain ⟨old,h12,h⟩:=bind_of h
   obtain ⟨h15,h⟩:=bif_of h
   obtain ⟨s1,h16,h⟩:=bind_of h
   rw [hg]
   refine ⟨by rw [hc];exact nlL_av h11,old.map Ce.av,by show (memv E s t).map _=_;rw [h12];rfl,by rw [hc];simpa using ble_of h15,_,h,?_⟩
   rw [hc,h14,←map_splice]
   refine (put_le (E:=E) (s:={ s1 with mem:=(t,splice old off cs) :: rmv t s1.mem }) (v:=.skip) rfl).trans (put_le0 (setMem_le.trans (setMem_le0 (frzs_le us h16) _ _)) _ _)
  ·rename_i t j q
   cases hu:us.contains t with
   | true=>rw [hu]at h;cases h
   | false =>
   rw [hu]at h
   simp only [cond_false]at h
   obtain ⟨w,h11,h⟩:=bind_of h
   rw [hg,oref_slot h11]
   refine ⟨by rw [h14];exact liveU_sub hu,?_⟩
   split at h
   ·rename_i z e kk vt l
    obtain ⟨h12,h⟩:=bif_of h
    obtain ⟨h15,h16⟩:=band_of h12
    obtain ⟨el',h17,h⟩:=bind_of h
    obtain ⟨h18,h⟩:=bif_of h
    obtain ⟨hob,h⟩:=bif_of h
    obtain ⟨⟨p1,p2⟩,h19,h⟩:=bind_of h
    simp only at h
    split at h
    ·rename_i p2
     obtain ⟨s1,h20,h⟩:=bind_of h
     obtain ⟨s2,h21,h⟩:=bind_of h
     have hn:(RW.row z e kk vt l).nilB=false:=by cases l with
      | nil=>cases h17
      | cons=>simp [RW.nilB]
     have hn2:(RW.row z e kk vt (l.set j p1)).nilB=false:=by cases l with
      | nil=>cases h17
      | cons a l=>cases j <;> simp [RW.nilB]
     rw [era_own,h11,Option.bind_some,ov_live hn]
     refine ⟨rfl,by rw [hc];exact nlL_av h15,elA kk vt el',by rw [List.getElem?_map,h17];rfl,by rw [hc,List.length_map];exact ble_of h18,_,h,?_⟩
     have e1:mkEl kk (splice (elA kk vt el').cells q a.av.cells)=elA kk vt p1:=by
      rw [elA_cells _ _ _ (beq_of h16),hc,←map_splice]
      exact asm_el hob h19
     show AS.le0 _ (AS.put (AS.setOwn _ t (OV.row e kk ((l.map (elA kk vt)).set j (mkEl kk (splice (elA kk vt el').cells q a.av.cells))))) _ _)
     rw [e1,←List.map_set,h14]
     refine (put_le (E:=E) (s:=s2) (v:=.skip) rfl).trans (put_le0 ?_ _ _)
     exact (setRow_le h21 (by rw [frzs_row us h20 hu,h11]) hn hn2 rfl (by simp [RW.len]) rfl).trans (setOwn_le0 (frzs_le us h20) _ _)
    ·cases h
   ·rename_i z e l
    obtain ⟨h12,h⟩:=bif_of h
    obtain ⟨h15,h16⟩:=band_of h12
    cases a with
    | fn _ _ _=>cases h
    | lent _ _=>cases h
    | o a0 =>
    cases a0 with
    | agg _=>cases h
    | ptr _=>cases h
    | c c0 =>
    obtain ⟨t0,n⟩:=c0
    cases t0 with
    | int k0 =>
     cases k0 <;> try cases h
     obtain ⟨h17,h⟩:=bif_of h
     obtain ⟨s1,h20,h⟩:=bind_of h
     obtain ⟨s2,h21,h⟩:=bind_of h
     simp only [u32B,Bool.and_eq_true,decide_eq_true_eq]at h17 h16
     have hn:(RW.limb z e l).nilB=false:=by cases l with
      | nil=>simp at h16
      | cons=>simp [RW.nilB]
     have hn2:(RW.limb z e (l.set j n.toNat)).nilB=false:=by cases l with
      | nil=>simp at h16
      | cons a l=>cases j <;> simp [RW.nilB]
     rw [era_own,h11,Option.bind_some,ov_live hn]
     refine ⟨rfl,beq_of h15,h16,n,rfl,h17.1,h17.2,_,h,?_⟩
     rw [h14]
     refine (put_le (E:=E) (s:=s2) (v:=.skip) rfl).trans (put_le0 ?_ _ _)
     exact (setRow_le h21 (by rw [frzs_row us h20 hu,h11]) hn hn2 rfl (by simp [RW.len]) rfl).trans (setOwn_le0 (frzs_le us h20) _ _)
    | _=>cases h
   ·cases h
  ·cases h
 ·
  rename_i ty parts
  obtain ⟨i,h1,h⟩:=bind_of h
  split at h
  ·rename_i fs hk
   obtain ⟨vt,h2,h⟩:=bind_of h
   obtain ⟨z,h3,h⟩:=bind_of h
   obtain ⟨cs,us,h,h4,h5⟩:=fillS_sound _ _ h
   obtain ⟨h6,h⟩:=bif_of h
   obtain ⟨s1,h7,h⟩:=bind_of h
   rw [←zeroC_some h3]at h4
   refine ⟨fs,_,_,_,by rw [h1,ti_eta hk],h4,by rw [h5];exact dr_of h6,_,h,?_⟩
   rw [h5]
   exact (put_le (E:=E) (s:=s1) (v:=.v (.o (.agg cs))) rfl).trans (put_le0 (frzs_le us h7) _ _)
  ·cases h
 ·
  rename_i ty n parts
  obtain ⟨i,h1,h⟩:=bind_of h
  split at h
  ·rename_i e q lm hk
   obtain ⟨j,h2,h⟩:=bind_of h
   obtain ⟨vt,h3,h⟩:=bind_of h
   obtain ⟨z,h4,h⟩:=bind_of h
   obtain ⟨h5,h⟩:=bif_of h
   obtain ⟨h6,h7⟩:=band_of h5
   obtain ⟨h8,h9⟩:=band_of h7
   obtain ⟨cs,us,h,h10,h11⟩:=fillS_sound _ _ h
   obtain ⟨h12,h⟩:=bif_of h
   obtain ⟨s1,h13,h⟩:=bind_of h
   have hz:(List.replicate n z).flatten.map Ce.av=(List.replicate n j.zero).flatten:=by
    rw [zeroC_some h4,List.map_flatten,List.map_replicate]
   rw [hz]at h10
   have hi:C.T ty=some ⟨.slc e q lm,i.zero,i.bytes⟩:=by rw [h1];cases i;simp only at hk;subst hk;rfl
   refine ⟨e,q,lm,_,_,j,_,hi,h2,beq_of h6,blt_of h8,ble_of h9,h10,cells_ces cs,by rw [h11];exact dr_of h12,?_⟩
   rw [h11]
   cases lm with
   | true =>
    obtain ⟨h14,h⟩:=bif_of h
    obtain ⟨ns,h15,h⟩:=bind_of h
    refine ⟨beq_of h14,ns,natsC_some h15,_,h,?_⟩
    exact (put_le (E:=E) (s:=s1) (v:=.v (.o (.c ⟨.nat,ns⟩))) rfl).trans (put_le0 (frzs_le us h13) _ _)
   | false =>
    obtain ⟨h14,h⟩:=bif_of h
    obtain ⟨h15,h16⟩:=band_of h14
    obtain ⟨hob,h⟩:=bif_of h
    obtain ⟨l,h17,h⟩:=bind_of h
    refine ⟨_,h,?_⟩
    rw [asmL_some (beq_of h15) n hob (beq_of h16) h17]
    exact (put_le (E:=E) (s:=s1) (v:=.v (.o (.c ⟨.sl q vt,l⟩))) rfl).trans (put_le0 (frzs_le us h13) _ _)
  ·cases h
 ·
  rename_i ty x y
  obtain ⟨d,h1,h⟩:=bind_of h
  obtain ⟨i,h2,h⟩:=bind_of h
  split at h
  ·rename_i e q lm hk
   obtain ⟨j,h3,h⟩:=bind_of h
   obtain ⟨vt,h4,h⟩:=bind_of h
   obtain ⟨z,h5,h⟩:=bind_of h
   obtain ⟨u,h6,h⟩:=bind_of h
   obtain ⟨n,h7,h⟩:=bind_of h
   obtain ⟨v,h8,h⟩:=bind_of h
   obtain ⟨m,h9,h⟩:=bind_of h
   obtain ⟨h10,h⟩:=bif_of h
   obtain ⟨h13,h14⟩:=band_of h10
   obtain ⟨h11,h⟩:=bif_of h
   have h12:(0≤n∧n≤m)∧m*(j.bytes:Nat)≤140737488355328∧m≤9223372036854775807:=by
    simp only [mkB,Bool.and_eq_true,decide_eq_true_eq]at h11
    obtain ⟨e1,e2,e3,e4⟩:=h11
    have e3:=ble_of e3
    have e4:=ble_of e4
    have e5:m=(m.toNat:Nat):=by omega
    refine ⟨⟨e1,e2⟩,?_,by omega⟩
    rw [e5,←Int.natCast_mul]
    omega
   obtain ⟨q1,g1⟩:=iVal_get h6 h7
   obtain ⟨q2,g2⟩:=iVal_get h8 h9
   have hi:C.T ty=some ⟨.slc e q lm,i.zero,i.bytes⟩:=by rw [h2];cases i;simp only at hk;subst hk;rfl
   refine ⟨d,e,q,lm,_,_,j,q1,q2,n,m,h1,hi,h3,beq_of h13,blt_of h14,g1,g2,h12.1.1,h12.1.2,h12.2.1,h12.2.2,?_⟩
   cases lm with
   | true =>
    obtain ⟨h15,h⟩:=bif_of h
    obtain ⟨h16,h17⟩:=band_of h15
    obtain ⟨s1,h18,h⟩:=bind_of h
    refine ⟨beq_of h16,?_,_,h,?_⟩
    ·split at h17
     ·rename_i hz;exact hz
     ·cases h17
    ·exact fresh_le h18 (by simp [RW.nilB]) rfl none rfl
   | false =>
    obtain ⟨h15,h⟩:=bif_of h
    obtain ⟨h16,h17⟩:=band_of h15
    obtain ⟨⟨p1,p2⟩,h18,h⟩:=bind_of h
    simp only at h
    split at h
    ·rename_i p2
     obtain ⟨s1,h19,h⟩:=bind_of h
     have hz:=zeroC_some h5
     refine ⟨by rw [hz];exact cells_ces z,by rw [hz];exact nlL_av h16,_,h,?_⟩
     have:=fresh_le h19 (by simp [RW.nilB]) rfl none rfl
     rw [hz,asm_el (band_of h17).2 h18]
     simpa [RW.ov1,List.map_replicate]using this
    ·cases h
  ·cases h
 ·
  rename_i ty r
  obtain ⟨d,h1,h⟩:=bind_of h
  obtain ⟨i,h2,h⟩:=bind_of h
  split at h
  ·rename_i k' e hk
   obtain ⟨ki,h3,h⟩:=bind_of h
   obtain ⟨kt,h4,h⟩:=bind_of h
   obtain ⟨vt,h5,h⟩:=bind_of h
   obtain ⟨h6,h⟩:=bif_of h
   obtain ⟨h6,h7⟩:=band_of h6
   obtain ⟨s1,h8,h⟩:=bind_of h
   have hi:C.T ty=some ⟨.map k' e,i.zero,i.bytes⟩:=by rw [h2];cases i;simp only at hk;subst hk;rfl
   refine ⟨d,k',e,_,_,ki,h1,hi,h3,fun x hx=>(by rw [hx]at h7;cases h7),_,h,?_⟩
   have:=freshMap_le h8 rfl
   rw [kdB_kd h6]
   exact this
  ·cases h
 ·
  rename_i ty x q y
  obtain ⟨v,h1,h⟩:=bind_of h
  have hg:=getS_sound h1
  cases v with
  | row t =>
   obtain ⟨w,h2,h⟩:=bind_of h
   cases w with
   | map kt vt l =>
    obtain ⟨i,h3,h⟩:=bind_of h
    obtain ⟨kd,iz,ib⟩:=i
    cases kd with
    | map k' e =>
     obtain ⟨ki,h4,h⟩:=bind_of h
     obtain ⟨qv,h5,h⟩:=bind_of h
     obtain ⟨key,h6,h⟩:=bind_of h
     obtain ⟨c,h7,h8⟩:=bind_of h6
     obtain ⟨yv,h9,h⟩:=bind_of h
     obtain ⟨a,us,tv,h,h10,h11,h12⟩:=argS_sound h
     obtain ⟨h13,h⟩:=bif_of h
     obtain ⟨h13,h14⟩:=band_of h13
     obtain ⟨g1,g2⟩:=argV_ofS h9 h10 h11 h12
     obtain ⟨k1,k2⟩:=kdB_some h14 (key:=key)
     have hu:us=[]:=List.isEmpty_iff.1 h13
     rw [hu]at g2
     have hq:(era E s).get q=some (.av (.lit (keyV kt key))):=by
      rw [getS_sound h5,ce_slot h7,Ce.to_some h8,key_av k1 k2]
     have hx:(era E s).get x=some (.omap t):=by rw [hg];exact map_slot h2 rfl
     have ho:(era E s).own t=some (.map ki.kind (l.map fun p=>(keyV kt p.1,Ce.av ⟨vt,p.2⟩))):=by
      show (rowv E s t).bind RW.ov=_
      rw [h2,k1]
      rfl
     have g2:(era E s).usedV y=[]:=g2
     cases a with
     | o a0 =>
      cases a0 with
      | c c0 =>
       obtain ⟨d,h15,h⟩:=bind_of h
       obtain ⟨s1,h16,h⟩:=bind_of h
       refine ⟨k',e,iz,ib,ki,t,_,_,_,h3,h4,hx,ho,hq,k2,g1,fun _=>g2,by rw [g2];rfl,_,h,?_⟩
       rw [g2,frz_nil]
       refine (put_le (E:=E) (s:=s1) (v:=.skip) rfl).trans (put_le0 ?_ _ _)
       have:=setRow_le h16 h2 rfl rfl rfl rfl rfl
       have e1:V.av (.o (.c c0))=Ce.av ⟨vt,d⟩:=by show c0.av=_;rw [Ce.to_some h15]
       rw [e1,mput_map kt vt l key d h14,kdB_kd h14]
       exact this
      | _=>cases h
     | _=>cases h
    | _=>cases h
   | _=>cases h
  | _=>cases h
 ·
  rename_i c
  split at h
  ·
   rename_i fo hc
   obtain ⟨fv,h1,h⟩:=bind_of h
   split at h
   ·rename_i f pre post
    rw [argsS_plain]at h
    obtain ⟨as',us,h,h2,h3⟩:=argsS_sound _ _ h
    obtain ⟨hpl,h⟩:=bif_of h
    obtain ⟨g,h4,h⟩:=bind_of h
    have hg:=getS_sound h1
    unfold astep
    simp only [hc]
    have c1:tgt C (era E s) c.callee f (pre.map V0.av) (post.map V0.av):=by unfold tgt;rw [hc];show (era E s).get fo=_;rw [hg];rfl
    refine callK_sound c1 h2 h3 (fun x hx=>con_of hA hA0 (plainA hpl) ?_ hx) h
    simp only [List.map_append,List.map_map]
    rfl
   ·rename_i y
    rw [argsS_plain]at h
    obtain ⟨as',us,h,h2,h3⟩:=argsS_sound _ _ h
    obtain ⟨hpl,h⟩:=bif_of h
    obtain ⟨g,h4,h⟩:=bind_of h
    have hg:=getS_sound h1
    unfold astep
    simp only [hc]
    cases hf:fnR y with
    | none =>
     unfold askF at h
     rw [hf]at h
     simp only [Option.bind_none,Bool.cond_self]at h
     unfold callK at h
     obtain ⟨_,h⟩:=bif_of h
     cases h
    | some p =>
     obtain ⟨f,pre,post⟩:=p
     have hy:=fnR_some hf
     have c1:tgt C (era E s) c.callee f (pre.map V0.av) (post.map V0.av):=by
      unfold tgt
      rw [hc]
      show (era E s).get fo=_
      rw [hg]
      exact congrArg (fun a=>some (TV.av a)) hy
     unfold askF at h
     rw [hf]at h
     refine callK_sound c1 h2 h3 (fun x hx=>con_of hA hA0 (plainA hpl) ?_ hx) h
     simp only [List.map_append,List.map_map]
     rfl
   ·cases h
  ·
   rename_i hc
   obtain ⟨d,h1,h⟩:=bind_of h
   split at h
   ·rename_i x y ty ty' ha hb
    obtain ⟨h2,h⟩:=bif_of h
    obtain ⟨i,h3,h⟩:=bind_of h
    split at h
    ·rename_i e q lm hk
     obtain ⟨j,h4,h⟩:=bind_of h
     obtain ⟨u,h5,h⟩:=bind_of h
     obtain ⟨v,h6,h⟩:=bind_of h
     obtain ⟨t,w,uv,t',h,h7,h8,h9,h10⟩:=baseS_sound h
     obtain ⟨a,us,tv,h,h11,h12,h13⟩:=argS_sound h
     obtain ⟨h14,h⟩:=bif_of h
     obtain ⟨h15,h16⟩:=band_of h14
     obtain ⟨h17,h18⟩:=band_of h15
     have hi:C.T ty=some ⟨.slc e q lm,i.zero,i.bytes⟩:=by rw [h3];cases i;simp only at hk;subst hk;rfl
     have hy:=argV_ofS h6 h11 h12 h13
     have hl:lm=false→j.zero.all AV.noLimb=true:=fun hl=>by rw [hl,Bool.false_or]at h16;exact h16
     unfold astep
     simp only [hc]
     cases w with
     | map kt vt l=>cases lm <;> cases h
     | row z e' q' vt l =>
      cases lm with
      | true=>cases h
      | false =>
      simp only at h
      obtain ⟨h19,h⟩:=bif_of h
      obtain ⟨h20,h21⟩:=band_of h19
      obtain ⟨h22,h23⟩:=band_of h20
      obtain ⟨h24,h25⟩:=band_of h21
      have he:=beq_of h22
      have hq:=beq_of h23
      obtain ⟨w',h,hw⟩:=appS_sound h (fun z2 e2 q2 vt2 l2 heq=>by cases heq;rw [hq];exact ⟨beq_of h25,h24⟩)
      obtain ⟨s1,h27,h⟩:=bind_of h
      have hbase:baseT (era E s) e q false uv=some (t',(RW.row z e' q' vt l).ov1):=by rw [←he,←hq];exact h9 z e' q' vt l rfl
      exact ⟨d,x,y,ty,ty',e,q,false,_,_,j,uv,t',_,_,_,h1,arr2 ha,arr2 hb,beq_of h2,hi,h4,beq_of h17,blt_of h18,get_ofS h5 h7,hbase,hy.1,hw.1,hw.2.1,hw.2.2.1,hw.2.2.2.1,hl,_,h,fresh_le h27 hw.2.2.2.2.1 hw.2.2.2.2.2 t' h8⟩
     | limb z e' l =>
      cases lm with
      | false=>cases h
      | true =>
      simp only at h
      obtain ⟨h19,h⟩:=bif_of h
      obtain ⟨h20,h21⟩:=band_of h19
      have he:=beq_of h20
      have hq:=beq_of h21
      obtain ⟨w',h,hw⟩:=appS_sound h (fun z2 e2 q2 vt2 l2 heq=>by cases heq)
      obtain ⟨s1,h27,h⟩:=bind_of h
      have hbase:baseT (era E s) e 1 true uv=some (t',(RW.limb z e' l).ov1):=by rw [←he];exact h10 z e' l rfl
      rw [hq]at hi h17 h18
      exact ⟨d,x,y,ty,ty',e,1,true,_,_,j,uv,t',_,_,_,h1,arr2 ha,arr2 hb,beq_of h2,hi,h4,beq_of h17,blt_of h18,get_ofS h5 h7,hbase,hy.1,hw.1,hw.2.1,hw.2.2.1,hw.2.2.2.1,hl,_,h,fresh_le h27 hw.2.2.2.2.1 hw.2.2.2.2.2 t' h8⟩
    ·cases h
   ·cases h
  ·
   rename_i hc
   split at h
   ·rename_i x y ty ty' ha hb
    obtain ⟨i,h3,h⟩:=bind_of h
    split at h
    ·rename_i e q lm hk
     obtain ⟨u,h5,h⟩:=bind_of h
     split at h
     ·rename_i t
      obtain ⟨w,h6,h⟩:=bind_of h
      obtain ⟨h7,h⟩:=bif_of h
      obtain ⟨h8,h9⟩:=band_of h7
      obtain ⟨v,h10,h⟩:=bind_of h
      obtain ⟨a,us,tv,h,h11,h12,h13⟩:=argS_sound h
      obtain ⟨⟨m,w'⟩,h14,h⟩:=bind_of h
      obtain ⟨s1,h15,h⟩:=bind_of h
      have hn:w.nilB=false:=by simpa using h9
      have hi:C.T ty=some ⟨.slc e q lm,i.zero,i.bytes⟩:=by rw [h3];cases i;simp only at hk;subst hk;rfl
      have hy:=argV_ofS h10 h11 h12 h13
      obtain ⟨y',o1,o2,o3,o4,o5⟩:=overS_sound h14
      obtain ⟨m1,m2⟩:=overS_map h14
      unfold astep
      simp only [hc]
      have hw:w.k=q:=beq_of h8
      refine ⟨x,y,ty,ty',e,q,lm,_,_,t,0,w.len,w.ov1,_,m,y',_,arr2 ha,arr2 hb,hi,by rw [get_ofS h5 (row_slot h6 hn m1),hw],by rw [era_own,h6,Option.bind_some,ov_live hn],by rw [RW.ov1_k,hw],by rw [RW.ov1_len];omega,hy.1,o1,o2,_,h,?_⟩
      exact (put_le (E:=E) (s:=s1) (v:=.v (.o (.c (cI .i64 (m:Nat))))) rfl).trans (put_le0 (setRow_le h15 h6 hn (o5 hn) o3 o4 (m2.trans m1.symm)) _ _)
     ·cases h
    ·cases h
   ·cases h
  ·
   rename_i x name hc
   obtain ⟨fv,h1,h⟩:=bind_of h
   split at h
   ·rename_i y
    rw [argsS_plain]at h
    obtain ⟨as',us,h,h2,h3⟩:=argsS_sound _ _ h
    obtain ⟨hpl,h⟩:=bif_of h
    obtain ⟨g,h4,h⟩:=bind_of h
    have hg:=getS_sound h1
    unfold astep
    simp only [hc]
    cases hf:tgtI sig y name with
    | none =>
     unfold askM at h
     rw [hf]at h
     simp only [Option.bind_none,Bool.cond_self]at h
     unfold callK at h
     obtain ⟨_,h⟩:=bif_of h
     cases h
    | some p =>
     obtain ⟨f,v⟩:=p
     obtain ⟨t,a,hy,hm⟩:=tgtI_some hM hf
     have c1:tgt C (era E s) c.callee f [v.av] []:=by
      unfold tgt
      rw [hc]
      refine ⟨t,a,v.av,?_,hm,rfl,rfl⟩
      show (era E s).get x=_
      rw [hg]
      exact congrArg (fun a=>some (TV.av a)) hy
     unfold askM at h
     rw [hf]at h
     refine callK_sound c1 h2 h3 (fun x hx=>con_of hA hA0 (args:=.o v :: as') (by simpa [V.plain]using hpl) ?_ hx) h
     simp only [List.map_cons,List.append_nil,List.cons_append,List.nil_append]
     rfl
   ·cases h
  ·rename_i h1 h2 h3 h4
   have hv:=valStep (o:=⟨dst,.call c,type,pos,after,guard⟩) h
   unfold astep
   simp only
   exact hv
 ·rename_i x
  exact nilStep (o:=⟨dst,.assign x,type,pos,after,guard⟩) (fun v hv=>hv) h
 ·rename_i x
  exact nilStep (o:=⟨dst,.move x,type,pos,after,guard⟩) (fun v hv=>hv) h
 ·rename_i h1 h2 h3 h4 h5 h6 h10 h11 h7 h8 h9
  have hv:=valStep (o:=⟨dst,op,type,pos,after,guard⟩) h
  unfold astep
  split
  ·rename_i ty hq;exact absurd hq (h1 ty)
  ·rename_i ty x hq;exact absurd hq (h2 ty x)
  ·rename_i ty x y hq;exact absurd hq (h3 ty x y)
  ·rename_i ty ps hq;exact absurd hq (h4 ty ps)
  ·rename_i ty n ps hq;exact absurd hq (h5 ty n ps)
  ·rename_i ty x y hq;exact absurd hq (h6 ty x y)
  ·rename_i ty r hq;exact absurd hq (h10 ty r)
  ·rename_i ty x q y hq;exact absurd hq (h11 ty x q y)
  ·rename_i c hq;exact absurd hq (h7 c)
  ·exact hv
end
end Go.Proofs.YtcaahphghaddgaaGreatDoor
