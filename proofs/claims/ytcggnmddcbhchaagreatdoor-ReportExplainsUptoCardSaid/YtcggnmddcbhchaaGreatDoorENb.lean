import Derived.Test.YtcggnmddcbhchaaGreatDoorENa
import Derived.Test.YtcggnmddcbhchaaGreatDoorEShelf
import Derived.Deep.LoopGhost
import Derived.Deep.RegionHeld3
import Derived.Deep.DrawnRows
/- Text Nb. -/
set_option linter.unusedSimpArgs false
set_option linter.unusedVariables false
namespace Go.Proofs.YtcggnmddcbhchaaGreatDoor
open Go.RowKit Lim
theorem bitLenAux_facts (f:Nat):∀x,x<2 ^ f→x<2 ^ Go.Lib.bitLenAux f x∧(x≠0→2 ^ (Go.Lib.bitLenAux f x-1)≤x∧1≤Go.Lib.bitLenAux f x)∧Go.Lib.bitLenAux f x≤f:=by
 induction f with
 | zero =>
  intro x hx
  simp at hx
  subst hx
  simp [Go.Lib.bitLenAux]
 | succ f ih =>
  intro x hx
  unfold Go.Lib.bitLenAux
  by_cases h0:x=0
  ·subst h0;simp
  ·rw [if_neg h0]
   have hp:2 ^ (f+1)=2*2 ^ f:=by rw [Nat.pow_succ];omega
   obtain ⟨h1,h2,h3⟩:=ih (x / 2) (by omega)
   have e:2 ^ (1+Go.Lib.bitLenAux f (x / 2))=2*2 ^ Go.Lib.bitLenAux f (x / 2):=by rw [Nat.add_comm,Nat.pow_succ];omega
   refine ⟨by omega,fun _=>⟨?_,by omega⟩,by omega⟩
   rw [Nat.add_sub_cancel_left]
   by_cases h4:x / 2=0
   ·rw [h4]at *
    have:Go.Lib.bitLenAux f 0=0:=by cases f <;> simp [Go.Lib.bitLenAux]
    rw [this];omega
   ·obtain ⟨h5,h6⟩:=h2 h4
    have e2:2 ^ Go.Lib.bitLenAux f (x / 2)=2*2 ^ (Go.Lib.bitLenAux f (x / 2)-1):=by
     rw [show Go.Lib.bitLenAux f (x / 2)=(Go.Lib.bitLenAux f (x / 2)-1)+1 from by omega,Nat.pow_succ,Nat.add_sub_cancel];omega
    omega
theorem lz_any (b:Nat) (h0:0<b) (hb:b<4294967296):∃s:Nat,s<32∧(b+1)*2 ^ s≤4294967296∧2147483648≤b*2 ^ s∧2 ^ s≤2147483648 ∧
  ∀w:World,Calls Tryz.prog 229 #[.int .u32 (b:Int)] w fun e w'=>e=.returned (.int .i64 (s:Int))∧w=w':=by
 obtain ⟨h1,h2,_⟩:=bitLenAux_facts 64 b (by omega)
 obtain ⟨h3,h4⟩:=h2 (by omega)
 have h5:Go.Lib.bitLenAux 64 b≤32:=by
  rcases Nat.lt_or_ge 32 (Go.Lib.bitLenAux 64 b)with h|h
  ·have:=Nat.pow_le_pow_right (show 0<2 by omega) (show 32≤Go.Lib.bitLenAux 64 b-1 by omega)
   omega
  ·exact h
 obtain ⟨f1,f2,f3⟩:=shift_facts h0 h3 h1 h4 h5
 refine ⟨32-Go.Lib.bitLenAux 64 b,by omega,f1,f2,f3,fun w=>?_⟩
 refine (Tryz.bits_LeadingZeros32 (b:Int) w (by omega) (by omega)).mono ?_
 rintro e w' ⟨rfl,rfl⟩
 refine ⟨ret_int ?_,rfl⟩
 unfold Go.Lib.bitLen
 rw [Int.toNat_natCast]
 omega
def DlgRel (w wr:World) (gD gR gQ n1 n2 s la m k:Nat) (V:List Nat):Prop :=
 ∃R q:List Nat,R.length=la+1∧q.length+k=la-(m+1)∧Dv (n1*s) (n2*s) R q k∧Blk wr gR R∧Blk wr gQ (List.replicate k 0 ++ q)∧Rd wr (some ⟨gD,0,none⟩) V∧Below w.heap.size w wr
theorem part_get (R:List Nat) (j n i:Nat) (hi:i<n):((R.drop j).take n).getD i 0=R.getD (j+i) 0:=by
 simp [List.getElem?_take,hi]
theorem Blk.cellD {w:World} {g:Nat} {l:List Nat} (h:Blk w g l) {i:Nat} (hi:i<l.length):w.cell? ⟨g,i,none⟩=some (.int .u32 ((l.getD i 0:Nat):Int)):=by
 rw [getD_of hi rfl];exact h.cell hi
theorem Rd.cellD {w:World} {b off:Nat} {l:List Nat} (h:Rd w (some ⟨b,off,none⟩) l) {i:Nat} (hi:i<l.length):w.cell? ⟨b,off+i,none⟩=some (.int .u32 ((l.getD i 0:Nat):Int)):=by
 obtain ⟨b',o',e,_,hc⟩:=h.at_ hi
 injection e with e
 injection e with e1 e2
 subst e1 e2
 rw [getD_of hi rfl];exact hc
theorem zeros_cell {w:World} {g j:Nat} {q:List Nat} (h:Blk w g (List.replicate (j+1) 0 ++ q)):w.cell? ⟨g,j,none⟩=some (.int .u32 0)∧w.frozen? ⟨g,j,none⟩=false:=by
 have h1:=h.cell (i:=j) (by simp;omega)
 rw [List.getElem_append_left (by simp)]at h1
 simp at h1
 exact ⟨h1,h.frozen _⟩
theorem zeros_set (j d:Nat) (q:List Nat):(List.replicate (j+1) 0 ++ q).set j d=List.replicate j 0 ++ d :: q:=by
 rw [List.replicate_succ',List.append_assoc,List.set_append_right _ _ (by simp)]
 simp
theorem DlgRel.store {w wr:World} {gD gR gQ n1 n2 s la m j d:Nat} {V R q:List Nat} (lR:R.length=la+1) (lq:q.length+(j+1)=la-(m+1)) (hdv:Dv (n1*s) (n2*s) R (d :: q) j) (hbR:Blk wr gR R) (hbQ:Blk wr gQ (List.replicate (j+1) 0 ++ q)) (hrV:Rd wr (some ⟨gD,0,none⟩) V) (hbe:Below w.heap.size w wr)
  (h1:gR≠gQ) (h2:gD≠gQ) (h3:w.heap.size≤gQ) {u:Int} (hu:u=(d:Int)):DlgRel w (wr.setCell ⟨gQ,j,none⟩ (.int .u32 u)) gD gR gQ n1 n2 s la m j V:=by
 refine ⟨R,d :: q,lR,by simp;omega,hdv,hbR.far h1 _,?_,hrV.only ((Only.refl gQ wr).setCell _ _) h2,hbe.setCell h3 _⟩
 have:=hbQ.set j d hu
 rw [zeros_set]at this
 exact this
theorem split_mid (R:List Nat) (j n:Nat):R.take j ++ (R.drop j).take n ++ R.drop (j+n)=R:=by
 rw [List.append_assoc,←List.drop_drop,List.take_append_drop,List.take_append_drop]
set_option maxHeartbeats 4000000 in
theorem divLong_any (A1 A2:Option Addr) (c1 c2 n1 n2:Nat) (w:World) (h1:In w A1 c1 (limbs n1) n1) (h2:In w A2 c2 (limbs n2) n2) (hle:n2≤n1) (hlen:2≤(limbs n2).length) :
  Calls Tryz.prog 211 #[.slice A1 (limbs n1).length c1,.slice A2 (limbs n2).length c2] w fun e w'=>∃B1 d1 B2 d2,e=.returned (.tuple #[.slice B1 (limbs (n1 / n2)).length d1,.slice B2 (limbs (n1 % n2)).length d2])∧Out w' B1 d1 (n1 / n2)∧Out w' B2 d2 (n1 % n2)∧Below w.heap.size w w':=by
 obtain ⟨m,hm⟩:∃m,(limbs n2).length=m+2:=⟨(limbs n2).length-2,by omega⟩
 obtain ⟨la,hla⟩:∃la,(limbs n1).length=la:=⟨_,rfl⟩
 have hge:m+2≤la:=by rw [←hm,←hla];exact nlen_mono hle
 have k1:la<1099511627776:=by rw [←hla];exact h1.lim
 obtain ⟨b,hb⟩:∃b,(limbs n2)[m+1]'(by omega)=b:=⟨_,rfl⟩
 have hb0:0<b:=by
  have:=nrm_limbs n2 (by omega)
  have e:(limbs n2)[(limbs n2).length-1]'(by omega)=(limbs n2)[m+1]'(by omega):=by congr 1;omega
  rw [e,hb]at this
  omega
 have hbb:b<4294967296:=by rw [←hb];exact dig_get (dig_limbs n2) (by omega)
 obtain ⟨b2,o2,rfl,hlt2,hcb⟩:=h2.rd.at_ (show m+1<(limbs n2).length by omega)
 rw [hb]at hcb
 obtain ⟨s,hs32,hs1,hs2,hs3,hlz⟩:=lz_any b hb0 hbb
 have hs0:=Nat.two_pow_pos s
 have hn2:n2=val ((limbs n2).take (m+1))+pw (m+1)*b:=by
  have:=val_last (l:=limbs n2) (n:=m+1) (by omega)
  rw [val_limbs,getD_of (by omega) hb]at this
  exact this
 have hlow:=val_take_lt (dig_limbs n2) (n:=m+1) (by omega)
 have hn2a:b*pw (m+1)≤n2:=by rw [hn2,Nat.mul_comm];omega
 have hn2b:n2<(b+1)*pw (m+1):=by rw [Nat.add_mul,Nat.one_mul,Nat.mul_comm b];omega
 clear hn2 hlow
 have hn1:n1<pw la:=by rw [←hla];exact lt_nlen n1
 have hB:=Lib.hid hb;clear hb
 have hM:=Lib.hid hm
 have hLA:=Lib.hid hla
 have hmk:=made (la-(m+2)+1) (by omega)
 rw [show ((la-(m+2)+1:Nat):Int)=(la:Int)-((m:Int)+2)+1 from by omega]at hmk
 have c2':m+2≤c2:=by rw [←hm];exact h2.cap
 have T1:=Lib.hid (fun W h=>shiftLeft_any A1 c1 n1 s (limbs n1) W h hs32)
 have T2:=Lib.hid (fun W h=>shiftLeft_any (some ⟨b2,o2,none⟩) c2 n2 s (limbs n2) W h hs32)
 rw [hla]at T1 ⊢
 rw [hm]at T2 ⊢
 clear hB hm hla
 have HLZ:=Lib.hid hlz;clear hlz
 go_enter Tryz.func211,Tryz.ntmps211
 go_wp2_with fail
 refine (HLZ.out _).mono ?_
 rintro e w' ⟨rfl,rfl⟩
 go_wp2_with fail
 refine (T2.out _ h2).mono ?_
 rintro e w1 ⟨rfl,D,lD,dD,bD,vD,hb1⟩
 obtain ⟨eV,nV⟩:=norm_divisor (m:=m+1) dD lD vD hn2a hn2b hs1 hs2 hs0
 obtain ⟨V,hVd⟩:∃V,D.take (m+1+1)=V:=⟨_,rfl⟩
 rw [hVd]at eV nV
 have lV:V.length=m+2:=by rw [←hVd];simp;omega
 have dV:Dig V:=by rw [←hVd];exact dig_take dD _
 have rV:Rd w1 (some ⟨w.heap.size,0,none⟩) V:=by rw [←hVd];exact (bD.rd dD).take _
 have vV:n2*2 ^ s<pw (m+2):=by rw [←eV,←lV];exact val_lt dV
 have gt1:=bD.lt
 have EV:=Lib.hid eV
 have LV:=Lib.hid lV
 clear eV lV hVd lD vD
 go_wp2_with fail
 refine (T1.out _ (h1.keep hb1)).mono ?_
 rintro e w2 ⟨rfl,R0,lR,dR,bR,vR,hb2⟩
 have gt2:=bR.lt
 have vlow:2147483648*pw (m+1)≤n2*2 ^ s:=by
  have e:=val_last (l:=V) (n:=m+1) LV.out
  rw [EV.out]at e
  have:=Nat.mul_le_mul_left (pw (m+1)) nV
  rw [Nat.mul_comm]at this
  omega
 have hst:=Lib.hid (Dv.start (n1:=n1) (n2:=n2) (s:=2 ^ s) (k:=la-(m+1)) (n:=m+1) dR vR hn1 hs3 (by omega) vlow (by omega) hs0)
 have LR:=Lib.hid lR
 clear lR vR vlow
 go_wp2_with fail
 go_loopw [11] (fun i wr=>∃k:Nat,k≤la-(m+1)∧i=.int .i64 ((k:Int)-1)∧DlgRel w wr w.heap.size w1.heap.size w2.heap.size n1 n2 (2 ^ s) la m k V) (fun i _=>(intOf i+1).toNat)
 case atStart =>
  have e:la-(m+2)+1=la-(m+1):=by omega
  refine ⟨la-(m+1),Nat.le_refl _,vint (by omega),R0,[],LR.out,by simp,hst.out,bR.alloc _,?_,(rV.keep hb2).keep ((Below.refl _ _).alloc (Nat.le_refl _) _),((hb1.trans (hb2.mono (by omega)))).alloc (by omega) _⟩
  rw [List.append_nil,←e]
  exact Blk.new w2 _
 case round =>
  obtain ⟨k,hk,rfl,hrel⟩:=hrel
  obtain ⟨R,q,lR,lq,hdv,hbR,hbQ,hrV,hbe⟩:=hrel
  have LR2:=Lib.hid lR
  have LQ:=Lib.hid lq
  clear lR lq
  rcases Nat.eq_zero_or_pos k with h0|h0
  ·subst h0
   obtain ⟨fq,fr⟩:=hdv.last (n:=m+2) hs0 vV (by have:=LR2.out;omega)
   have lq:q.length=la-(m+2)+1:=by have:=LQ.out;omega
   have hq:=hbQ.rd (dig_append.2 ⟨dig_replicate _,hdv.digq⟩)
   simp only [List.replicate_zero,List.nil_append]at hq
   have lT:(R.take (m+2)).length=m+2:=by have:=LR2.out;simp;omega
   have HQ:=Lib.hid (fun (W:World) (hW:Below wr.heap.size wr W)=>trim_raw _ (la-(m+2)+1) q (n1 / n2) W ⟨hq.keep hW,by omega,by omega,fq⟩ _ rfl)
   have HO:=Lib.hid (fun (W:World) (hW:Below wr.heap.size wr W)=>Raw.trim (n:=n1 / n2) (c:=la-(m+2)+1) ⟨hq.keep hW,by omega,by omega,fq⟩)
   have HS:=Lib.hid (fun (W:World) (hW:Below wr.heap.size wr W)=>shiftRight_any _ (la+1) _ s (R.take (m+2)) W ⟨((hbR.rd hdv.dig).take _).keep hW,by omega,by omega,rfl⟩ hs32)
   have HT:=Lib.hid (fun (W:World) (A:Option Addr) (l:List Nat) (hl:l.length=m+2) (hr:Raw W A (m+2) l (n1 % n2))=>hl ▸ trim_raw A (m+2) l (n1 % n2) W hr _ rfl)
   rw [lq]at HQ
   rw [lT,fr]at HS
   clear fq fr lq lT hq
   go_wp2_with fail
   go_region_with (first
    | (go_at_call 234;(with_reducible refine (HS.out _ ?_).mono ?_);exact (Below.refl _ _).drew;rintro e w6 ⟨rfl,l6,ll6,hr5,hb6⟩;have hr6:Raw w6 (some ⟨wr.heap.size,0,none⟩) (m+2) l6 (n1 % n2):=hr5;clear hr5)
    | (go_at_call 124;(with_reducible refine (HQ.out _ ?_).mono ?_);(first|exact (Below.refl _ _).drew|exact (Below.refl _ _).drew.trans hb6);rintro e w7 ⟨rfl,rfl⟩)
    | (go_at_call 124;(with_reducible refine (HT.out _ _ _ ll6 hr6).mono ?_);rintro e w7 ⟨rfl,rfl⟩))
   all_goals (go_wp2;go_ret2;have hbb6:Below wr.heap.size wr w6:=(Below.refl wr.heap.size wr).drew.trans hb6;exact ⟨_,_,_,_,rfl,HO.out _ hbb6,hr6.trim,hbe.trans (hbb6.mono hbe.size)⟩)
  ·obtain ⟨j,rfl⟩:∃j,k=j+1:=⟨k-1,by omega⟩
   rw [show (((j+1:Nat):Int)-1)=(j:Int)from by omega]
   have hne1:¬la+1=j:=by omega
   obtain ⟨p,hp⟩:∃p,(R.drop j).take (m+2+1)=p:=⟨_,rfl⟩
   have hRl:R.length=la+1:=LR2.out
   have lp:p.length=m+3:=by rw [←hp];simp;omega
   have dp:Dig p:=by rw [←hp];exact dig_take (dig_drop hdv.dig _) _
   obtain ⟨hz,hval,hUlt⟩:=hdv.part (n:=m+2) vV (by omega)
   rw [hp]at hval hUlt
   have hT:=top_of dp dV lp LV.out nV (by rw [EV.out];exact hUlt)
   have pg:∀i,i<m+3→p.getD i 0=R.getD (j+i) 0:=fun i hi=>by rw [←hp];exact part_get R j _ i hi
   have e0:wr.cell? ⟨w1.heap.size,j+(m+2),none⟩=some (.int .u32 ((p.getD (m+2) 0:Nat):Int)):=by rw [pg _ (by omega)];exact hbR.cellD (by omega)
   have e1:wr.cell? ⟨w1.heap.size,j+(m+1),none⟩=some (.int .u32 ((p.getD (m+1) 0:Nat):Int)):=by rw [pg _ (by omega)];exact hbR.cellD (by omega)
   have e2:wr.cell? ⟨w1.heap.size,j+m,none⟩=some (.int .u32 ((p.getD m 0:Nat):Int)):=by rw [pg _ (by omega)];exact hbR.cellD (by omega)
   have e3:wr.cell? ⟨w.heap.size,0+(m+1),none⟩=some (.int .u32 ((V.getD (m+1) 0:Nat):Int)):=hrV.cellD (by rw [LV.out];omega)
   have e4:wr.cell? ⟨w.heap.size,0+m,none⟩=some (.int .u32 ((V.getD m 0:Nat):Int)):=hrV.cellD (by rw [LV.out];omega)
   have hest:=estimate_any w1.heap.size j (la+1-j) w.heap.size 0 (m+2+1) m wr hT (by omega) e0 e1 e2 e3 e4
   have HEST:=Lib.hid hest
   clear hest pg e0 e1 e2 e3 e4
   have lpre:(R.take j).length=j:=by simp;omega
   have hsp:Blk wr w1.heap.size (R.take j ++ p ++ R.drop (j+(m+2)+1)):=by
    rw [←hp,show j+(m+2)+1=j+(m+2+1)from by omega,split_mid];exact hbR
   have LP:=Lib.hid lp
   have LPRE:=Lib.hid lpre
   have HP:=Lib.hid hp
   have HZ:=Lib.hid hz
   have HVAL:=Lib.hid hval
   clear lp lpre hp hz hval hRl
   go_wp2_with fail
   rw [show j+(m+2)+1-j=m+3 from by omega]
   refine HEST.out.mono ?_
   rintro e w3 ⟨d,rfl,hnear,nn,rfl⟩
   have hdb:=hnear.2.2
   by_cases hfit:d*val V≤val p
   ·have hsub:=subtract_no w1.heap.size w.heap.size 0 (la+1-j) (m+2+1) d (R.take j) p (R.drop (j+(m+2)+1)) V (wr.drewN nn) hsp dp (by rw [LP.out,LV.out]) (by omega) hrV (by rw [LV.out];omega) hdb (by rw [LV.out];omega) hfit
    rw [LPRE.out,LV.out]at hsub
    have HSUB:=Lib.hid hsub;clear hsub
    have HFIT:=Lib.hid hfit;clear hfit
    go_wp2_with fail
    rw [show j+(m+2)+1-j=m+3 from by omega]
    refine HSUB.out.mono ?_
    rintro e w4 ⟨rfl,p',lp',dp',bp',vp',ho⟩
    have ho':Only w1.heap.size wr w4:=ho.ofDrewN
    have hq4:=hbQ.only ho' (by omega)
    obtain ⟨hst1,hst2⟩:=zeros_cell hq4
    have hst3:=Lib.hid (fun (u:Int)=>DlgRel.store (u:=u) (m:=m) (w:=w) (gD:=w.heap.size) (gR:=w1.heap.size) (gQ:=w2.heap.size) (V:=V) (R:=R.take j ++ p' ++ R.drop (j+(m+2)+1)) (d:=d) (n1:=n1) (n2:=n2) (s:=2 ^ s) (la:=la)
     (by have:=LR2.out;have:=LP.out;simp;omega) LQ.out
     (hdv.step (n:=m+2) vV (by have:=LR2.out;omega) dp' (by rw [lp',LP.out]) hdb (by rw [HP.out,vp',EV.out];have:=HFIT.out;rw [EV.out]at this;omega)
      (by
       rcases hnear.eq_or with ⟨_,_,h⟩|⟨h,_⟩
       ·rw [vp',←h,←EV.out];exact Nat.mod_lt _ (by rw [EV.out];have:=hdv.top;omega)
       ·have:=HFIT.out;omega))
     bp' hq4 (hrV.only ho' (by omega)) (hbe.trans (ho'.below (by omega))) (by omega) (by omega) (by omega))
    clear lp' vp'
    go_wp2
    go_roundw
    case rel=>exact ⟨j,by omega,rfl,hst3.out _ (by omega)⟩
    case measure=>simp [intOf]
   ·have hsub:=subtract_yes w1.heap.size w.heap.size 0 (la+1-j) (m+2+1) d (R.take j) p (R.drop (j+(m+2)+1)) V (wr.drewN nn) hsp dp (by rw [LP.out,LV.out]) (by omega) hrV (by rw [LV.out];omega) hdb (by rw [LV.out];omega) (by omega)
    rw [LPRE.out,LV.out]at hsub
    have HSUB:=Lib.hid hsub;clear hsub
    have HFIT:=Lib.hid (show val p<d*val V by omega)
    have hd1:1≤d:=by
     rcases Nat.eq_zero_or_pos d with h0|h0
     ·subst h0;omega
     ·exact h0
    clear hfit
    go_wp2_with fail
    rw [show j+(m+2)+1-j=m+3 from by omega]
    refine HSUB.out.mono ?_
    rintro e w4 ⟨rfl,p',lp',dp',bp',vp',ho⟩
    have hadd:=addBack_any w1.heap.size w.heap.size 0 (la+1-j) (m+2+1) (R.take j) p' (R.drop (j+(m+2)+1)) V w4 bp' dp' (by rw [lp',LP.out,LV.out]) (by omega) (hrV.only ho.ofDrewN (by omega)) (by rw [LV.out];omega) (by rw [LV.out];omega)
    rw [LPRE.out,LV.out]at hadd
    have HADD:=Lib.hid hadd;clear hadd
    have LP':=Lib.hid lp'
    have VP':=Lib.hid vp'
    clear lp' vp'
    go_wp2_with fail
    rw [show j+(m+2)+1-j=m+3 from by omega]
    refine HADD.out.mono ?_
    rintro e w5 ⟨rfl,p2,lp2,dp2,bp2,vp2,ho2⟩
    have ho':Only w1.heap.size wr w5:=ho.ofDrewN.trans ho2
    have hq4:=hbQ.only ho' (by omega)
    obtain ⟨hst1,hst2⟩:=zeros_cell hq4
    have hrem:val p2=val p % val V∧d-1=val p / val V:=by
     obtain ⟨kk,hkk⟩:=vp2
     refine back_eq VP'.out (k:=kk) (by rw [LP'.out]at hkk;exact hkk) hnear HFIT.out ?_ ?_
     ·have:=val_lt dp2;rw [lp2,LP'.out]at this;exact this
     ·rw [EV.out]
      have h2:=pw_mono (a:=m+2) (b:=p.length) (by have:=LP.out;omega)
      omega
    have hst3:=Lib.hid (fun (u:Int)=>DlgRel.store (u:=u) (m:=m) (w:=w) (gD:=w.heap.size) (gR:=w1.heap.size) (gQ:=w2.heap.size) (V:=V) (R:=R.take j ++ p2 ++ R.drop (j+(m+2)+1)) (d:=d-1) (n1:=n1) (n2:=n2) (s:=2 ^ s) (la:=la)
     (by have:=LR2.out;have:=LP.out;have:=LP'.out;simp;omega) LQ.out
     (hdv.step (n:=m+2) vV (by have:=LR2.out;omega) dp2 (by rw [lp2,LP'.out,LP.out]) (by omega)
      (by rw [HP.out,hrem.1,hrem.2,←EV.out,Nat.mul_comm,Nat.add_comm];exact Nat.div_add_mod _ _)
      (by rw [hrem.1,←EV.out];exact Nat.mod_lt _ (by rw [EV.out];have:=hdv.top;omega)))
     bp2 hq4 (hrV.only ho' (by omega)) (hbe.trans (ho'.below (by omega))) (by omega) (by omega) (by omega))
    clear lp2 vp2 hrem
    go_wp2
    go_roundw
    case rel=>exact ⟨j,by omega,rfl,hst3.out _ (by omega)⟩
    case measure=>simp [intOf]
end Go.Proofs.YtcggnmddcbhchaaGreatDoor
namespace Go.Proofs.YtcggnmddcbhchaaGreatDoor
open Go.RowKit Lim
theorem In.limbs {w:World} {A:Option Addr} {c n:Nat} {l:List Nat} (h:In w A c l n):In w A c (limbs n) n:=h.trim.toIn h.nlen
def DivOut (w w':World) (e:Ending) (n1 n2:Nat):Prop :=
 ∃B1 d1 B2 d2,e=.returned (.tuple #[.slice B1 (limbs (n1 / n2)).length d1,.slice B2 (limbs (n1 % n2)).length d2,.bool true])∧Out w' B1 d1 (n1 / n2)∧Out w' B2 d2 (n1 % n2)∧Below w.heap.size w w'
set_option maxHeartbeats 1000000 in
theorem divmod_lt (A1 A2:Option Addr) (c1 c2 n1 n2:Nat) (l1 l2:List Nat) (w:World) (h1:In w A1 c1 l1 n1) (h2:In w A2 c2 l2 n2) (hlt:n1<n2) :
  Calls Tryz.prog 174 #[.slice A1 l1.length c1,.slice A2 l2.length c2] w fun e w'=>DivOut w w' e n1 n2:=by
 have i1:=h1.limbs
 have i2:=h2.limbs
 have hz:(((limbs n2).length:Int) == 0)=false:=by
  have h0:nlen n2≠0:=fun h=>by have:=nlen_eq_zero.1 h;omega
  simpa [nlen]using h0
 have hc:=cmpI_lt hlt
 go_enter Tryz.func174,Tryz.ntmps174
 go_wp2_with (first|(go_at_call 124;(first|(with_reducible refine (trim_in _ _ _ _ _ h1 _ rfl).mono ?_)|(with_reducible refine (trim_in _ _ _ _ _ h2 _ rfl).mono ?_));rintro e w' ⟨rfl,rfl⟩)|(go_at_call 62;(with_reducible refine (cmp_any _ _ _ _ _ _ _ _ _ i1 i2).mono ?_);rintro e w' ⟨rfl,m,rfl⟩)|(go_at_call 96;(with_reducible refine (norm_any _ _ _ _ _ (i1.keep (below_drewN (Below.refl _ _) _))).mono ?_);rintro e w' ⟨B2,d2,rfl,ho,hb⟩))
 go_ret3
 have e1:n1 / n2=0:=Nat.div_eq_of_lt hlt
 have e2:n1 % n2=n1:=Nat.mod_eq_of_lt hlt
 refine ⟨none,0,B2,d2,?_,?_,?_,(below_drewN (Below.refl _ _) m).trans hb⟩
 ·rw [e1,e2,limbs_zero];rfl
 ·rw [e1];exact Out.zero _ _ _
 ·rw [e2];exact ho
set_option maxHeartbeats 1000000 in
theorem divmod_one (A1 A2:Option Addr) (c1 c2 n1 n2:Nat) (l1 l2:List Nat) (w:World) (h1:In w A1 c1 l1 n1) (h2:In w A2 c2 l2 n2) (hge:n2≤n1) (hl:(limbs n2).length=1) :
  Calls Tryz.prog 174 #[.slice A1 l1.length c1,.slice A2 l2.length c2] w fun e w'=>DivOut w w' e n1 n2:=by
 have i1:=h1.limbs
 have i2:=h2.limbs
 have hc:¬cmpI n1 n2<0:=by unfold cmpI;rw [if_neg (by omega)];split <;> omega
 obtain ⟨b2,o2,rfl,hlt2,hcb⟩:=i2.rd.at_ (show 0<(limbs n2).length by omega)
 have hv:(limbs n2)[0]'(by omega)=n2:=by
  have h:=val_limbs n2
  have:∀l:List Nat,(hl:l.length=1)→val l=l[0]'(by omega):=by
   intro l hl
   match l,hl with
   | [x],_=>simp [val]
  rw [this _ hl]at h
  exact h
 rw [hv]at hcb
 have hb2:n2<4294967296:=by rw [←hv];exact dig_get (dig_limbs n2) _
 have hpos:0<n2:=by
  rcases Nat.eq_zero_or_pos n2 with h0|h0
  ·subst h0;rw [limbs_zero]at hl;simp at hl
  ·exact h0
 have hlim0:n1 % n2<18446744073709551616:=by have:=Nat.mod_lt n1 hpos;omega
 have hz:(((limbs n2).length:Int) == 0)=false:=by rw [hl];rfl
 have h1e:(((limbs n2).length:Int) == 1)=true:=by rw [hl];rfl
 have hp0:0<(limbs n2).length:=by omega
 rw [Nat.add_zero]at hcb
 clear hv hl
 go_enter Tryz.func174,Tryz.ntmps174
 go_wp2_with (first|(go_at_call 124;(first|(with_reducible refine (trim_in _ _ _ _ _ h1 _ rfl).mono ?_)|(with_reducible refine (trim_in _ _ _ _ _ h2 _ rfl).mono ?_));rintro e w' ⟨rfl,rfl⟩)|(go_at_call 62;(with_reducible refine (cmp_any _ _ _ _ _ _ _ _ _ i1 i2).mono ?_);rintro e w' ⟨rfl,m,rfl⟩)|(go_at_call 125;(with_reducible refine (divLimb_any _ _ _ _ _ _ (i1.keep (below_drewN (Below.refl _ _) _)) hpos hb2).mono ?_);rintro e w' ⟨B1,d1,r,rfl,hr,ho,hb⟩;have hlim:r<18446744073709551616:=by rw [hr.out];exact hlim0)|(go_at_call 63;(with_reducible refine (of_any _ hlim _).mono ?_);rintro e w'' ⟨B2,d2,rfl,ho2,hb3⟩))
 go_ret3
 rw [hr.out]at ho2
 exact ⟨B1,d1,B2,d2,by rw [←hr.out];rfl,ho.keep hb3,ho2,((below_drewN (Below.refl _ _) m).trans hb).trans (hb3.mono hb.size)⟩
set_option maxHeartbeats 1000000 in
theorem divmod_long (A1 A2:Option Addr) (c1 c2 n1 n2:Nat) (l1 l2:List Nat) (w:World) (h1:In w A1 c1 l1 n1) (h2:In w A2 c2 l2 n2) (hge:n2≤n1) (hl:2≤(limbs n2).length) :
  Calls Tryz.prog 174 #[.slice A1 l1.length c1,.slice A2 l2.length c2] w fun e w'=>DivOut w w' e n1 n2:=by
 have i1:=h1.limbs
 have i2:=h2.limbs
 have hc:¬cmpI n1 n2<0:=by unfold cmpI;rw [if_neg (by omega)];split <;> omega
 have hz:(((limbs n2).length:Int) == 0)=false:=by simp;intro h;rw [h]at hl;simp at hl
 have h1e:(((limbs n2).length:Int) == 1)=false:=by simp;omega
 go_enter Tryz.func174,Tryz.ntmps174
 go_wp2_with (first|(go_at_call 124;(first|(with_reducible refine (trim_in _ _ _ _ _ h1 _ rfl).mono ?_)|(with_reducible refine (trim_in _ _ _ _ _ h2 _ rfl).mono ?_));rintro e w' ⟨rfl,rfl⟩)|(go_at_call 62;(with_reducible refine (cmp_any _ _ _ _ _ _ _ _ _ i1 i2).mono ?_);rintro e w' ⟨rfl,m,rfl⟩)|(go_at_call 211;(with_reducible refine (divLong_any _ _ _ _ _ _ _ (i1.keep (below_drewN (Below.refl _ _) _)) (i2.keep (below_drewN (Below.refl _ _) _)) hge hl).mono ?_);rintro e w' ⟨B1,d1,B2,d2,rfl,ho,ho2,hb⟩))
 go_ret3
 exact ⟨B1,d1,B2,d2,rfl,ho,ho2,(below_drewN (Below.refl _ _) m).trans hb⟩
theorem divmod_any (A1 A2:Option Addr) (c1 c2 n1 n2:Nat) (l1 l2:List Nat) (w:World) (h1:In w A1 c1 l1 n1) (h2:In w A2 c2 l2 n2) (hpos:0<n2) :
  Calls Tryz.prog 174 #[.slice A1 l1.length c1,.slice A2 l2.length c2] w fun e w'=>DivOut w w' e n1 n2:=by
 rcases Nat.lt_or_ge n1 n2 with hlt|hge
 ·exact divmod_lt _ _ _ _ _ _ _ _ _ h1 h2 hlt
 ·have h0:nlen n2≠0:=fun h=>by have:=nlen_eq_zero.1 h;omega
  by_cases hl:(limbs n2).length=1
  ·exact divmod_one _ _ _ _ _ _ _ _ _ h1 h2 hge hl
  ·exact divmod_long _ _ _ _ _ _ _ _ _ h1 h2 hge (by unfold nlen at h0;omega)
theorem slen_pos (n:Nat) (h:0<n):0<(limbs n).length:=by
 have h0:nlen n≠0:=fun e=>by have:=nlen_eq_zero.1 e;omega
 unfold nlen at h0
 omega
def GcRel (w wr:World) (A B:Option Addr) (ca cb x y g:Nat):Prop :=
 In wr A ca (limbs x) x∧In wr B cb (limbs y) y∧Nat.gcd y x=g∧Below w.heap.size w wr
set_option maxHeartbeats 1000000 in
theorem gcd_any (A1 A2:Option Addr) (c1 c2 n1 n2:Nat) (l1 l2:List Nat) (w:World) (h1:In w A1 c1 l1 n1) (h2:In w A2 c2 l2 n2) :
  Calls Tryz.prog 173 #[.slice A1 l1.length c1,.slice A2 l2.length c2] w fun e w'=>∃A c,e=.returned (.slice A (limbs (Nat.gcd n1 n2)).length c)∧Out w' A c (Nat.gcd n1 n2)∧Below w.heap.size w w':=by
 have q1:=h1.nlen
 have q2:=h2.nlen
 go_enter Tryz.func173,Tryz.ntmps173
 go_wp2_with fail
 refine (norm_any _ _ _ _ _ h1).mono ?_
 rintro e w1 ⟨B1,d1,rfl,o1,b1⟩
 go_wp2_with fail
 refine (norm_any _ _ _ _ _ (h2.keep b1)).mono ?_
 rintro e w2 ⟨B2,d2,rfl,o2,b2⟩
 go_wp2_with fail
 go_loopg [0,1] n2 (fun gk a b wr=>∃(A B:Option Addr) (ca cb x:Nat),a=.slice A (limbs x).length ca∧b=.slice B (limbs gk).length cb∧GcRel w wr A B ca cb x gk (Nat.gcd n1 n2))
 case atStart=>exact ⟨B1,B2,d1,d2,n1,rfl,rfl,(o1.toIn q1).keep b2,o2.toIn q2,Nat.gcd_comm _ _,b1.trans (b2.mono b1.size)⟩
 case round =>
  obtain ⟨A,B,ca,cb,x,rfl,rfl,ha,hb,hg,hbe⟩:=hrel
  have HG:=Lib.hid hg;clear hg
  by_cases h0:gk=0
  ·have hz:¬0<(limbs gk).length:=by rw [h0,limbs_zero];simp
   have hzi:¬(0:Int)<((limbs gk).length:Int):=by omega
   have H0:=Lib.hid h0;clear h0
   go_wp2
   go_ret
   have e:x=Nat.gcd n1 n2:=by rw [←HG.out,H0.out,Nat.gcd_zero_left]
   exact ⟨A,ca,by rw [←e];rfl,by rw [←e];exact ⟨ha.rd,ha.cap⟩,hbe⟩
  ·have hp:=slen_pos gk (by omega)
   have hm:=Nat.mod_lt x (show 0<gk by omega)
   have hmn:nlen (x % gk)<1099511627776:=Nat.lt_of_le_of_lt (nlen_mono (Nat.le_of_lt hm)) hb.nlen
   have HM:=Lib.hid hm;clear hm
   go_wp2_with (go_at_call 174;(with_reducible refine (divmod_any _ _ _ _ _ _ _ _ _ ha hb (by omega)).mono ?_);rintro e w5 ⟨E1,f1,E2,f2,rfl,p1,p2,p3⟩)
   go_roundg (x % gk)
   case measure=>exact HM.out
   case rel=>exact ⟨B,E2,cb,f2,gk,rfl,rfl,hb.keep p3,p2.toIn hmn,by rw [←HG.out];exact (Nat.gcd_rec gk x).symm,hbe.trans (p3.mono hbe.size)⟩
theorem nlen_one:nlen 1=1:=by unfold nlen;rw [limbs_pos (by omega)];simp [limbs_zero]
theorem nlen_pow (a k:Nat):nlen (a ^ k)≤k*nlen a+1:=by
 induction k with
 | zero=>rw [Nat.pow_zero,nlen_one];omega
 | succ k ih =>
  have:=nlen_mul (a ^ k) a
  rw [Nat.pow_succ,Nat.add_mul]
  omega
theorem nlen_pow_lt {a k K:Nat} (hk:k≤K) (h:K*nlen a+1<1099511627776):nlen (a ^ k)<1099511627776:=by
 have h1:=nlen_pow a k
 have h2:=Nat.mul_le_mul_right (nlen a) hk
 omega
def PoRel (w wr:World) (A B:Option Addr) (ca cb n1 p q n k:Nat):Prop :=
 In wr A ca (limbs (n1 ^ p)) (n1 ^ p)∧In wr B cb (limbs (n1 ^ q)) (n1 ^ q)∧p+q*n=k∧Below w.heap.size w wr
set_option maxHeartbeats 2000000 in
theorem pow_any (A1:Option Addr) (c1 n1 k:Nat) (l1:List Nat) (w:World) (h1:In w A1 c1 l1 n1) (hk:k≤512) (hlim:k*nlen n1+1<1099511627776) :
  Calls Tryz.prog 204 #[.slice A1 l1.length c1,.int .i64 (k:Int)] w fun e w'=>∃A c,e=.returned (.tuple #[.slice A (limbs (n1 ^ k)).length c,.bool true])∧Out w' A c (n1 ^ k)∧Below w.heap.size w w':=by
 have q1:=h1.nlen
 have g1:decide ((k:Int)<0)=false:=by simp
 have g2:decide (512<(k:Int))=false:=by simp;omega
 have HLim:=Lib.hid hlim;clear hlim
 go_enter Tryz.func204,Tryz.ntmps204
 go_wp2_with fail
 refine (of_any 1 (by omega) _).mono ?_
 rintro e w1 ⟨B1,d1,rfl,o1,b1⟩
 go_wp2_with fail
 refine (norm_any _ _ _ _ _ (h1.keep b1)).mono ?_
 rintro e w2 ⟨B2,d2,rfl,o2,b2⟩
 go_wp2_with fail
 go_loopw [1,6,7] (fun i a b wr=>∃(A B:Option Addr) (ca cb n p q:Nat),n≤512∧i=.int .i64 (n:Int)∧a=.slice A (limbs (n1 ^ p)).length ca∧b=.slice B (limbs (n1 ^ q)).length cb∧PoRel w wr A B ca cb n1 p q n k) (fun i _ _ _=>(intOf i).toNat)
 case atStart =>
  refine ⟨B1,B2,d1,d2,k,0,1,hk,rfl,by rw [Nat.pow_zero],by rw [Nat.pow_one],?_,?_,by omega,b1.trans (b2.mono b1.size)⟩
  ·rw [Nat.pow_zero];exact (o1.toIn (by rw [nlen_one];omega)).keep b2
  ·rw [Nat.pow_one];exact o2.toIn q1
 case round =>
  obtain ⟨A,B,ca,cb,n,p,q,hn,rfl,rfl,rfl,ha,hb,hpq,hbe⟩:=hrel
  have HPQ:=Lib.hid hpq;clear hpq
  rcases Nat.eq_zero_or_pos n with h0|h0
  ·subst h0
   have e:p=k:=by have:=HPQ.out;omega
   subst e
   go_wp2
   go_ret2
   exact ⟨A,ca,rfl,⟨ha.rd,ha.cap⟩,hbe⟩
  ·have hpk:p≤k:=by have:=HPQ.out;omega
   have hq0:q≤q*n:=Nat.le_mul_of_pos_right q h0
   have hqk:p+q≤k:=by have:=HPQ.out;omega
   clear hq0
   obtain ⟨m,hm⟩:∃m,n=2*m∨n=2*m+1:=⟨n / 2,by omega⟩
   rcases hm with rfl|rfl
   ·have hm0:0<m:=by omega
    have hodd:(((2*m:Nat):Int) % 2 == 1)=false:=by simp
    have hdiv:((2*m:Nat):Int) / 2=(m:Int):=by omega
    have hq2:2*q≤k:=by
     have h1:=HPQ.out
     have h2:=Nat.mul_le_mul_left q (show 2≤2*m by omega)
     omega
    go_wp2_with fail
    refine (mul_any _ _ _ _ _ _ _ _ _ hb hb).mono ?_
    rintro e w3 ⟨E,f,rfl,o3,b3⟩
    go_wp2
    go_roundw
    case rel =>
     refine ⟨A,E,ca,f,m,p,q+q,by omega,rfl,rfl,by rw [Nat.pow_add],ha.keep b3,?_,?_,hbe.trans (b3.mono hbe.size)⟩
     ·rw [Nat.pow_add];exact o3.toIn (by rw [←Nat.pow_add];exact nlen_pow_lt (K:=k) (by omega) HLim.out)
     ·have:=HPQ.out;rw [←this];grind
    case measure=>simp [intOf];omega
   ·have hodd:(((2*m+1:Nat):Int) % 2 == 1)=true:=by simp
    have hdiv:((2*m+1:Nat):Int) / 2=(m:Int):=by omega
    go_wp2_with fail
    refine (mul_any _ _ _ _ _ _ _ _ _ ha hb).mono ?_
    rintro e w3 ⟨E,f,rfl,o3,b3⟩
    have i3:In w3 E f (limbs (n1 ^ (p+q))) (n1 ^ (p+q)):=by
     rw [Nat.pow_add];exact o3.toIn (by rw [←Nat.pow_add];exact nlen_pow_lt (K:=k) (by omega) HLim.out)
    have E0:=Lib.hid (show (limbs (n1 ^ p*n1 ^ q)).length=(limbs (n1 ^ (p+q))).length by rw [Nat.pow_add])
    rw [E0.out]
    rcases Nat.eq_zero_or_pos m with hm|hm
    ·subst hm
     go_wp2
     go_roundw
     case rel=>exact ⟨E,B,f,cb,0,p+q,q,by omega,rfl,rfl,rfl,i3,hb.keep b3,by have:=HPQ.out;rw [←this];grind,hbe.trans (b3.mono hbe.size)⟩
     case measure=>simp [intOf]
    ·have hq2:2*q≤k:=by
      have h1:=HPQ.out
      have h2:=Nat.mul_le_mul_left q (show 2≤2*m+1 by omega)
      omega
     go_wp2_with fail
     refine (mul_any _ _ _ _ _ _ _ _ _ (hb.keep b3) (hb.keep b3)).mono ?_
     rintro e w4 ⟨F,f4,rfl,o4,b4⟩
     go_wp2
     go_roundw
     case rel =>
      refine ⟨E,F,f,f4,m,p+q,q+q,by omega,vint (by omega),rfl,by rw [Nat.pow_add],i3.keep b4,?_,?_,(hbe.trans (b3.mono hbe.size)).trans (b4.mono (Nat.le_trans hbe.size b3.size))⟩
      ·rw [Nat.pow_add];exact o4.toIn (by rw [←Nat.pow_add];exact nlen_pow_lt (K:=k) (by omega) HLim.out)
      ·have:=HPQ.out;rw [←this];grind
     case measure=>simp [intOf];omega
end Go.Proofs.YtcggnmddcbhchaaGreatDoor
namespace Go.Proofs.YtcggnmddcbhchaaGreatDoor
open Go.RowKit Lim
def sg (t:Bool) (n:Nat):Int:=if t then -(n:Int) else (n:Int)
theorem sg_abs (t:Bool) (n:Nat):(sg t n).natAbs=n:=by unfold sg;split <;> omega
structure InI (w:World) (t:Bool) (A:Option Addr) (c:Nat) (l:List Nat) (z:Int):Prop where
 mag:In w A c l z.natAbs
 sgn:z=sg t z.natAbs
structure OutI (w:World) (t:Bool) (A:Option Addr) (c:Nat) (l:List Nat) (z:Int):Prop where
 mag:Out w A c z.natAbs
 sgn:t=decide (z<0)
 lim:l=limbs z.natAbs
theorem InI.keep {w w':World} {t:Bool} {A:Option Addr} {c:Nat} {l:List Nat} {z:Int} (h:InI w t A c l z) (hb:Below w.heap.size w w'):InI w' t A c l z:=⟨h.mag.keep hb,h.sgn⟩
theorem OutI.keep {w w':World} {t:Bool} {A:Option Addr} {c:Nat} {l:List Nat} {z:Int} (h:OutI w t A c l z) (hb:Below w.heap.size w w'):OutI w' t A c l z:=⟨h.mag.keep hb,h.sgn,h.lim⟩
theorem OutI.toIn {w:World} {t:Bool} {A:Option Addr} {c:Nat} {l:List Nat} {z:Int} (h:OutI w t A c l z) (hl:nlen z.natAbs<1099511627776):InI w t A c l z :=
 ⟨by rw [h.lim];exact h.mag.toIn hl,by rw [h.sgn];unfold sg;by_cases hz:z<0 <;> simp [hz] <;> omega⟩
theorem InI.of {w:World} {t:Bool} {A:Option Addr} {c:Nat} {l:List Nat} {n:Nat} (h:In w A c l n):InI w t A c l (sg t n):=⟨by rw [sg_abs];exact h,by rw [sg_abs]⟩
def RetI (w:World) (z:Int) (e:Ending) (w':World):Prop :=
 ∃t A c l,e=.returned (.agg #[.bool t,.slice A l.length c])∧OutI w' t A c l z∧Below w.heap.size w w'
def Box (w:World) (g:Nat) (cs:Array Value) (t:TypeId):Prop:=w.heap[g]? = some (.cells cs t (0,0))
theorem Box.lt {w:World} {g:Nat} {cs:Array Value} {t:TypeId} (h:Box w g cs t):g<w.heap.size:=by
 rcases Nat.lt_or_ge g w.heap.size with hlt|hge
 ·exact hlt
 ·unfold Box at h;rw [Array.getElem?_eq_none hge]at h;cases h
theorem Box.cell {w:World} {g:Nat} {cs:Array Value} {t:TypeId} (h:Box w g cs t) (i:Nat):w.cell? ⟨g,i,none⟩=cs[i]?:=cell_of_row w g i cs t (0,0) h
theorem Box.frozen {w:World} {g:Nat} {cs:Array Value} {t:TypeId} (h:Box w g cs t) (i:Nat):w.frozen? ⟨g,i,none⟩=false:=by
 unfold Box at h
 simp [World.frozen?,h]
theorem Box.new (w:World) (cs:Array Value) (t:TypeId):Box (w.alloc (.cells cs t)) w.heap.size cs t:=heap_alloc_new w _
theorem Box.alloc {w:World} {g:Nat} {cs:Array Value} {t:TypeId} (h:Box w g cs t) (o:Obj):Box (w.alloc o) g cs t:=(Below.heap_alloc w o g h.lt).trans h
theorem Box.keep {w w':World} {g:Nat} {cs:Array Value} {t:TypeId} (h:Box w g cs t) (hb:Below w.heap.size w w'):Box w' g cs t:=(hb.block g h.lt).trans h
theorem Box.drewN {w:World} {g:Nat} {cs:Array Value} {t:TypeId} (h:Box w g cs t) (n:Nat):Box (w.drewN n) g cs t:=h
theorem Box.set {w:World} {g:Nat} {cs:Array Value} {t:TypeId} (h:Box w g cs t) (i:Nat) (u:Value):Box (w.setCell ⟨g,i,none⟩ u) g (cs.setIfInBounds i u) t:=by
 unfold Box at h ⊢
 simp [World.setCell,Array.getElem?_modify,h]
theorem Box.far {w:World} {g:Nat} {cs:Array Value} {t:TypeId} (h:Box w g cs t) {p:Addr} (hp:g≠p.block) (u:Value):Box (w.setCell p u) g cs t:=(Below.heap_setCell w p u g hp).trans h
def noLimb:Value→Bool|.int .u32 _=>false|_=>true
theorem Rd.box {w:World} {A:Option Addr} {l:List Nat} {g:Nat} {cs:Array Value} {t:TypeId} (h:Rd w A l) (hb:Box w g cs t) (hn:cs.all noLimb=true) (i:Nat) (u:Value):Rd (w.setCell ⟨g,i,none⟩ u) A l :=
 ⟨h.1,fun hl=>by
  obtain ⟨b,off,e,hlt,hc⟩:=h.2 hl
  have hne:b≠g:=by
   rintro rfl
   have h0:=hc 0 hl
   rw [hb.cell]at h0
   have:=Array.all_eq_true'.1 hn _ (Array.mem_of_getElem? h0)
   simp [noLimb]at this
  refine ⟨b,off,e,by simpa [World.setCell]using hlt,fun j hj=>?_⟩
  rw [←hc j hj]
  exact World.cell?_of_block (w:=w) (a:=⟨b,off+j,none⟩) (Below.heap_setCell w ⟨g,i,none⟩ u b hne)⟩
theorem Out.box {w:World} {A:Option Addr} {c n:Nat} {g:Nat} {cs:Array Value} {t:TypeId} (h:Out w A c n) (hb:Box w g cs t) (hn:cs.all noLimb=true) (i:Nat) (u:Value):Out (w.setCell ⟨g,i,none⟩ u) A c n:=⟨h.rd.box hb hn i u,h.cap⟩
theorem In.box {w:World} {A:Option Addr} {c n:Nat} {l:List Nat} {g:Nat} {cs:Array Value} {t:TypeId} (h:In w A c l n) (hb:Box w g cs t) (hn:cs.all noLimb=true) (i:Nat) (u:Value):In (w.setCell ⟨g,i,none⟩ u) A c l n:=⟨h.rd.box hb hn i u,h.cap,h.lim,h.val⟩
theorem Out.box2 {w:World} {A:Option Addr} {c n:Nat} {g:Nat} {x y:Value} {t:TypeId} (h:Out w A c n) (hb:Box w g #[x,y] t) (hx:noLimb x=true) (hy:noLimb y=true) {u v:Value} (hu:noLimb u=true) :
  Out ((w.setCell ⟨g,0,none⟩ u).setCell ⟨g,1,none⟩ v) A c n∧Box ((w.setCell ⟨g,0,none⟩ u).setCell ⟨g,1,none⟩ v) g #[u,v] t:=by
 have h1:=h.box hb (by simp [hx,hy]) 0 u
 have b1:=hb.set 0 u
 exact ⟨h1.box b1 (by show (#[u,y]:Array Value).all noLimb=true;simp [hu,hy]) 1 v,b1.set 1 v⟩
theorem In.box2 {w:World} {A:Option Addr} {c n:Nat} {l:List Nat} {g:Nat} {x y:Value} {t:TypeId} (h:In w A c l n) (hb:Box w g #[x,y] t) (hx:noLimb x=true) (hy:noLimb y=true) {u v:Value} (hu:noLimb u=true) :
  In ((w.setCell ⟨g,0,none⟩ u).setCell ⟨g,1,none⟩ v) A c l n∧Box ((w.setCell ⟨g,0,none⟩ u).setCell ⟨g,1,none⟩ v) g #[u,v] t:=by
 have h1:=h.box hb (by simp [hx,hy]) 0 u
 have b1:=hb.set 0 u
 exact ⟨h1.box b1 (by show (#[u,y]:Array Value).all noLimb=true;simp [hu,hy]) 1 v,b1.set 1 v⟩
theorem Out.box3 {w:World} {A:Option Addr} {c n:Nat} {g:Nat} {x y z:Value} {t:TypeId} (h:Out w A c n) (hb:Box w g #[x,y,z] t) (hx:noLimb x=true) (hy:noLimb y=true) (hz:noLimb z=true) {u v s:Value} (hu:noLimb u=true) (hv:noLimb v=true) :
  Out (((w.setCell ⟨g,0,none⟩ u).setCell ⟨g,1,none⟩ v).setCell ⟨g,2,none⟩ s) A c n∧Box (((w.setCell ⟨g,0,none⟩ u).setCell ⟨g,1,none⟩ v).setCell ⟨g,2,none⟩ s) g #[u,v,s] t:=by
 have h1:=h.box hb (by simp [hx,hy,hz]) 0 u
 have b1:=hb.set 0 u
 have h2:=h1.box b1 (by show (#[u,y,z]:Array Value).all noLimb=true;simp [hu,hy,hz]) 1 v
 have b2:=b1.set 1 v
 exact ⟨h2.box b2 (by show (#[u,v,z]:Array Value).all noLimb=true;simp [hu,hv,hz]) 2 s,b2.set 2 s⟩
theorem Below.box3 {B g:Nat} {a w:World} (h:Below B a w) (hg:B≤g) (u v s:Value):Below B a (((w.setCell ⟨g,0,none⟩ u).setCell ⟨g,1,none⟩ v).setCell ⟨g,2,none⟩ s):=((h.setCell hg u).setCell hg v).setCell hg s
theorem Below.box2 {B g:Nat} {a w:World} (h:Below B a w) (hg:B≤g) (u v:Value):Below B a ((w.setCell ⟨g,0,none⟩ u).setCell ⟨g,1,none⟩ v):=(h.setCell hg u).setCell hg v
theorem results_int {fn:Func} {k:Tmp} (h:fn.results=#[.cell k 25]) {tmps:Array Value} {g:Nat} (hg:tmps.getD k undef=.pointer (some ⟨g,0,none⟩)) {W:World} {x y:Value} (hb:Box W g #[x,y] 25) :
  (results fn tmps).run Tryz.prog W=.ok (.agg #[x,y]) W:=by
 have q0:W.cell? ⟨g,0,none⟩=some x:=hb.cell 0
 have q1:W.cell? ⟨g,1,none⟩=some y:=hb.cell 1
 have hg':tmps[k]?.getD undef=.pointer (some ⟨g,0,none⟩):=by simpa using hg
 simp [results,h,go_sem,hg',q0,q1]
set_option maxHeartbeats 1000000 in
theorem make_any (t:Bool) (A:Option Addr) (c n:Nat) (l:List Nat) (w:World) (h:In w A c l n) :
  Calls Tryz.prog 130 #[.bool t,.slice A l.length c] w (RetI w (sg t n)):=by
 have h':In (w.alloc (.cells #[.bool false,.slice none 0 0] 25)) A c l n:=h.keep ((Below.refl _ _).alloc (Nat.le_refl _) _)
 have hbx:=Box.new w #[.bool false,.slice none 0 0] 25
 obtain ⟨t',ht'⟩:∃t',t'=decide (sg t n<0):=⟨_,rfl⟩
 have hg:(t=false→t'=false)∧(t=true→t'=decide (0<(limbs n).length)):=by
  subst ht'
  constructor
  ·rintro rfl;simp [sg]
  ·rintro rfl
   have:(0<(limbs n).length) ↔ 0<n:=by
    constructor
    ·intro h;rcases Nat.eq_zero_or_pos n with h0|h0
     ·rw [h0,limbs_zero]at h;simp at h
     ·exact h0
    ·exact slen_pos n
   rw [Bool.eq_iff_iff]
   simp [sg]
   omega
 have HT:=Lib.hid ht';clear ht'
 cases t
 ·obtain rfl:=hg.1 rfl
  clear hg
  go_enter Tryz.func130,Tryz.ntmps130
  go_wp2_with fail
  refine (norm_any _ _ _ _ _ h').mono ?_
  rintro e w1 ⟨B,d,rfl,o1,b1⟩
  have hb1:=hbx.keep b1
  have e0:w1.cell? ⟨w.heap.size,0,none⟩=some (.bool false):=hb1.cell 0
  have e1:w1.cell? ⟨w.heap.size,1,none⟩=some (.slice none 0 0):=hb1.cell 1
  have f0:=hb1.frozen 0
  have f1:=hb1.frozen 1
  go_wp2
  obtain ⟨o2,b2⟩:=o1.box2 hb1 rfl rfl (u:=.bool false) (v:=.slice B (limbs n).length d) rfl
  have b3:=Below.box2 (((Below.refl w.heap.size w).alloc (Nat.le_refl _) (.cells #[.bool false,.slice none 0 0] 25)).trans (b1.mono (by simp))) (Nat.le_refl _) (.bool false) (.slice B (limbs n).length d)
  exact bodyPost_ret (results_int Tryz.results130 rfl b2) rfl ⟨false,B,d,limbs n,rfl,⟨by rw [sg_abs];exact o2,HT.out,by rw [sg_abs]⟩,b3⟩
 ·have ht:=hg.2 rfl
  have ht2:=ht.symm
  clear hg ht
  go_enter Tryz.func130,Tryz.ntmps130
  go_wp2_with fail
  refine (norm_any _ _ _ _ _ h').mono ?_
  rintro e w1 ⟨B,d,rfl,o1,b1⟩
  have hb1:=hbx.keep b1
  have e0:w1.cell? ⟨w.heap.size,0,none⟩=some (.bool false):=hb1.cell 0
  have e1:w1.cell? ⟨w.heap.size,1,none⟩=some (.slice none 0 0):=hb1.cell 1
  have f0:=hb1.frozen 0
  have f1:=hb1.frozen 1
  go_wp2
  obtain ⟨o2,b2⟩:=o1.box2 hb1 rfl rfl (u:=.bool t') (v:=.slice B (limbs n).length d) rfl
  have b3:=Below.box2 (((Below.refl w.heap.size w).alloc (Nat.le_refl _) (.cells #[.bool false,.slice none 0 0] 25)).trans (b1.mono (by simp))) (Nat.le_refl _) (.bool t') (.slice B (limbs n).length d)
  exact bodyPost_ret (results_int Tryz.results130 rfl b2) rfl ⟨t',B,d,limbs n,rfl,⟨by rw [sg_abs];exact o2,HT.out,by rw [sg_abs]⟩,b3⟩
theorem OutI.stored {w1:World} {t:Bool} {A:Option Addr} {c:Nat} {l:List Nat} {z:Int} {g:Nat} {x y:Value} (h:OutI w1 t A c l z) (hb:Box w1 g #[x,y] 25) (hx:noLimb x=true) (hy:noLimb y=true) :
  OutI ((w1.setCell ⟨g,0,none⟩ (.bool t)).setCell ⟨g,1,none⟩ (.slice A l.length c)) t A c l z∧Box ((w1.setCell ⟨g,0,none⟩ (.bool t)).setCell ⟨g,1,none⟩ (.slice A l.length c)) g #[.bool t,.slice A l.length c] 25:=by
 obtain ⟨o2,b2⟩:=h.mag.box2 hb hx hy (u:=.bool t) (v:=.slice A l.length c) rfl
 exact ⟨⟨o2,h.sgn,h.lim⟩,b2⟩
def sgnI (z:Int):Int:=if z<0 then -1 else if 0<z then 1 else 0
theorem sgn_of {t:Bool} {z:Int} (h:z=sg t z.natAbs):sgnI z=if t then -(cmpI z.natAbs 0) else cmpI z.natAbs 0:=by
 unfold sg at h
 unfold sgnI cmpI
 cases t
 ·simp at h ⊢;omega
 ·simp at h ⊢;omega
set_option maxHeartbeats 1000000 in
theorem sign_any (t:Bool) (A:Option Addr) (c:Nat) (l:List Nat) (z:Int) (w:World) (h:InI w t A c l z) :
  Calls Tryz.prog 74 #[.agg #[.bool t,.slice A l.length c]] w fun e w'=>e=.returned (.int .i64 (sgnI z))∧Below w.heap.size w w':=by
 have hs:=sgn_of h.sgn
 obtain ⟨k0,k1⟩:=cmpI_bd z.natAbs 0
 have h':In (w.alloc (.cells #[.bool t,.slice A l.length c] 25)) A c l z.natAbs:=h.mag.keep ((Below.refl _ _).alloc (Nat.le_refl _) _)
 cases t
 all_goals
  simp only [if_true,Bool.false_eq_true,if_false]at hs
  have HS:=Lib.hid hs;clear hs
  go_enter Tryz.func74,Tryz.ntmps74
  go_wp2_with fail
  refine (cmp_any _ _ _ _ _ _ _ [] _ h' (In.zero _)).mono ?_
  rintro e w1 ⟨rfl,m,rfl⟩
  go_wp2
  go_ret
  exact ⟨by rw [HS.out];rfl,below_drewN ((Below.refl _ _).alloc (Nat.le_refl _) _) _⟩
set_option maxHeartbeats 1000000 in
theorem iof_any (z:Int) (hz1:-9223372036854775808≤z) (hz2:z≤9223372036854775807) (w:World) :
  Calls Tryz.prog 61 #[.int .i64 z] w (RetI w z):=by
 have hbx:=Box.new w #[.bool false,.slice none 0 0] 25
 have hlim:nlen z.natAbs<1099511627776:=by
  have h1:z.natAbs<pw 2:=by
   have:pw 2=18446744073709551616:=by decide
   omega
  have:=nlen_le h1
  omega
 by_cases hneg:z<0
 ·obtain ⟨n,hn⟩:∃n:Nat,z = -(n:Int):=⟨z.natAbs,by omega⟩
  have hb:n<18446744073709551616:=by omega
  have hw:IntKind.u64.wrap (-IntKind.u64.wrap z)=(n:Int):=by rw [IntKind.wrap_u64,IntKind.wrap_u64];omega
  have hsg:sg true n=z:=by unfold sg;simp [hn]
  have hlim':nlen n<1099511627776:=by
   have:z.natAbs=n:=by omega
   rw [←this];exact hlim
  have HS:=Lib.hid hsg;clear hsg hlim
  have HN:=Lib.hid hn;clear hn
  go_enter Tryz.func61,Tryz.ntmps61
  go_wp2_with fail
  refine (of_any n hb _).mono ?_
  rintro e w1 ⟨B,d,rfl,o1,b1⟩
  go_wp2_with fail
  refine (make_any _ _ _ _ _ _ (o1.toIn hlim')).mono ?_
  rw [HS.out]
  rintro e w2 ⟨t',B2,d2,l',rfl,o2,b2⟩
  have hb1:=(hbx.keep b1).keep b2
  have e0:w2.cell? ⟨w.heap.size,0,none⟩=some (.bool false):=hb1.cell 0
  have e1:w2.cell? ⟨w.heap.size,1,none⟩=some (.slice none 0 0):=hb1.cell 1
  have f0:=hb1.frozen 0
  have f1:=hb1.frozen 1
  go_wp2
  obtain ⟨o3,b3⟩:=o2.stored hb1 rfl rfl
  exact bodyPost_ret (results_int Tryz.results61 rfl b3) rfl ⟨t',B2,d2,l',rfl,o3,Below.box2 ((((Below.refl w.heap.size w).alloc (Nat.le_refl _) _).trans (b1.mono (by simp))).trans (b2.mono (Nat.le_trans (by simp) b1.size))) (Nat.le_refl _) _ _⟩
 ·obtain ⟨n,rfl⟩:∃n:Nat,z=(n:Int):=⟨z.natAbs,by omega⟩
  have hb:n<18446744073709551616:=by omega
  have HS:=Lib.hid (show sg false n=(n:Int)from rfl)
  have hlim':nlen n<1099511627776:=hlim
  clear hlim
  go_enter Tryz.func61,Tryz.ntmps61
  go_wp2_with fail
  refine (of_any n hb _).mono ?_
  rintro e w1 ⟨B,d,rfl,o1,b1⟩
  go_wp2_with fail
  refine (make_any _ _ _ _ _ _ (o1.toIn hlim')).mono ?_
  rw [HS.out]
  rintro e w2 ⟨t',B2,d2,l',rfl,o2,b2⟩
  have hb1:=(hbx.keep b1).keep b2
  have e0:w2.cell? ⟨w.heap.size,0,none⟩=some (.bool false):=hb1.cell 0
  have e1:w2.cell? ⟨w.heap.size,1,none⟩=some (.slice none 0 0):=hb1.cell 1
  have f0:=hb1.frozen 0
  have f1:=hb1.frozen 1
  go_wp2
  obtain ⟨o3,b3⟩:=o2.stored hb1 rfl rfl
  exact bodyPost_ret (results_int Tryz.results61 rfl b3) rfl ⟨t',B2,d2,l',rfl,o3,Below.box2 ((((Below.refl w.heap.size w).alloc (Nat.le_refl _) _).trans (b1.mono (by simp))).trans (b2.mono (Nat.le_trans (by simp) b1.size))) (Nat.le_refl _) _ _⟩
end Go.Proofs.YtcggnmddcbhchaaGreatDoor
namespace Go.Proofs.YtcggnmddcbhchaaGreatDoor
open Go.RowKit Lim
attribute [local go_sem ↓] Go.wp_at_zero Go.wp_at_succ
structure Boxes (W:World) (g:Nat) (t1 t2:Bool) (v1 v2:Value):Prop where
 a:Box W g #[.bool t1,v1] 25
 b:Box W (g+1) #[.bool t2,v2] 25
 r:Box W (g+2) #[.bool false,.slice none 0 0] 25
theorem Boxes.new (w:World) (t1 t2:Bool) (v1 v2:Value):Boxes (((w.alloc (.cells #[.bool t1,v1] 25)).alloc (.cells #[.bool t2,v2] 25)).alloc (.cells #[.bool false,.slice none 0 0] 25)) w.heap.size t1 t2 v1 v2 :=
 ⟨((Box.new w _ _).alloc _).alloc _,(by have:=(Box.new (w.alloc (.cells #[.bool t1,v1] 25)) #[.bool t2,v2] 25).alloc (.cells #[.bool false,.slice none 0 0] 25);rw [World.size_alloc]at this;exact this),
  (by have:=Box.new ((w.alloc (.cells #[.bool t1,v1] 25)).alloc (.cells #[.bool t2,v2] 25)) #[.bool false,.slice none 0 0] 25;rw [World.size_alloc,World.size_alloc]at this;exact this)⟩
theorem Boxes.keep {W W':World} {g:Nat} {t1 t2:Bool} {v1 v2:Value} (h:Boxes W g t1 t2 v1 v2) (hb:Below W.heap.size W W'):Boxes W' g t1 t2 v1 v2:=⟨h.a.keep hb,h.b.keep hb,h.r.keep hb⟩
theorem Boxes.drew {W:World} {g:Nat} {t1 t2:Bool} {v1 v2:Value} (h:Boxes W g t1 t2 v1 v2):Boxes W.drew g t1 t2 v1 v2:=⟨h.a,h.b,h.r⟩
theorem Boxes.cells {W:World} {g:Nat} {t1 t2:Bool} {v1 v2:Value} (h:Boxes W g t1 t2 v1 v2) :
  W.cell? ⟨g,0,none⟩=some (.bool t1)∧W.cell? ⟨g,1,none⟩=some v1∧W.cell? ⟨g+1,0,none⟩=some (.bool t2)∧W.cell? ⟨g+1,1,none⟩=some v2 :=
 ⟨h.a.cell 0,h.a.cell 1,h.b.cell 0,h.b.cell 1⟩
theorem Boxes.cells_after {W:World} {g:Nat} {t1 t2:Bool} {v1 v2:Value} (h:Boxes W g t1 t2 v1 v2) (x y:Value) :
  ((W.setCell ⟨g+1+1,0,none⟩ x).setCell ⟨g+1+1,1,none⟩ y).cell? ⟨g,0,none⟩=some (.bool t1)∧((W.setCell ⟨g+1+1,0,none⟩ x).setCell ⟨g+1+1,1,none⟩ y).cell? ⟨g,1,none⟩=some v1∧((W.setCell ⟨g+1+1,0,none⟩ x).setCell ⟨g+1+1,1,none⟩ y).cell? ⟨g+1,0,none⟩=some (.bool t2)∧((W.setCell ⟨g+1+1,0,none⟩ x).setCell ⟨g+1+1,1,none⟩ y).cell? ⟨g+1,1,none⟩=some v2:=by
 have ha:=(h.a.far (p:=⟨g+1+1,0,none⟩) (by simp;omega) x).far (p:=⟨g+1+1,1,none⟩) (by simp;omega) y
 have hb:=(h.b.far (p:=⟨g+1+1,0,none⟩) (by simp) x).far (p:=⟨g+1+1,1,none⟩) (by simp) y
 exact ⟨ha.cell 0,ha.cell 1,hb.cell 0,hb.cell 1⟩
theorem sg_mul {t1 t2:Bool} {z1 z2:Int} (h1:z1=sg t1 z1.natAbs) (h2:z2=sg t2 z2.natAbs):sg (!(t1 == t2)) (z1.natAbs*z2.natAbs)=z1*z2:=by
 generalize z1.natAbs=a at *
 generalize z2.natAbs=b at *
 subst h1 h2
 cases t1 <;> cases t2 <;> simp [sg,Int.neg_mul,Int.mul_neg]
set_option maxHeartbeats 1000000 in
theorem imul_any (t1 t2:Bool) (A1 A2:Option Addr) (c1 c2:Nat) (l1 l2:List Nat) (z1 z2:Int) (w:World) (h1:InI w t1 A1 c1 l1 z1) (h2:InI w t2 A2 c2 l2 z2) (hl:nlen z1.natAbs+nlen z2.natAbs<1099511627776) :
  Calls Tryz.prog 121 #[.agg #[.bool t1,.slice A1 l1.length c1],.agg #[.bool t2,.slice A2 l2.length c2]] w (RetI w (z1*z2)):=by
 have hbx:=Boxes.new w t1 t2 (.slice A1 l1.length c1) (.slice A2 l2.length c2)
 have hbel:Below w.heap.size w (((w.alloc (.cells #[.bool t1,.slice A1 l1.length c1] 25)).alloc (.cells #[.bool t2,.slice A2 l2.length c2] 25)).alloc (.cells #[.bool false,.slice none 0 0] 25)):=(((Below.refl _ _).alloc (Nat.le_refl _) _).alloc (by simp) _).alloc (by simp;omega) _
 go_enter Tryz.func121,Tryz.ntmps121
 go_wp2
 generalize hW:((w.alloc (.cells #[.bool t1,.slice A1 l1.length c1] 25)).alloc (.cells #[.bool t2,.slice A2 l2.length c2] 25)).alloc (.cells #[.bool false,.slice none 0 0] 25)=W at *
 clear hW
 obtain ⟨k0,k1,k2,k3⟩:=hbx.cells
 have i1:In W.drew A1 c1 l1 z1.natAbs:=h1.mag.keep hbel.drew
 have i2:In W.drew A2 c2 l2 z2.natAbs:=h2.mag.keep hbel.drew
 have hbd:=hbx.drew
 have hbeld:=hbel.drew
 have hlm:nlen (z1.natAbs*z2.natAbs)<1099511627776:=Nat.lt_of_le_of_lt (nlen_mul _ _) hl
 have HM:=Lib.hid (sg_mul h1.sgn h2.sgn)
 go_region_held3 (fun w'=>w'.cell? ⟨w.heap.size,0,none⟩=some (.bool t1)∧w'.cell? ⟨w.heap.size,1,none⟩=some (.slice A1 l1.length c1)∧w'.cell? ⟨w.heap.size+1,0,none⟩=some (.bool t2)∧w'.cell? ⟨w.heap.size+1,1,none⟩=some (.slice A2 l2.length c2)) (first|exact hbx.cells|exact hbd.cells|exact (hbd.keep b1).cells|exact ((hbd.keep b1).keep b2).cells|exact ((hbd.keep b1).keep b2).cells_after _ _)
  (first
   | (go_at_call 95;(with_reducible refine (mul_any _ _ _ _ _ _ _ _ _ i1 i2).mono ?_);rintro e w1 ⟨B,d,rfl,o1,b1⟩)
   | (go_at_call 130;(with_reducible refine (make_any _ _ _ _ _ _ (o1.toIn hlm)).mono ?_);rw [HM.out];rintro e w2 ⟨t',B2,d2,l',rfl,o2,b2⟩;have hb1:=((hbd.keep b1).keep b2).r;have e0:w2.cell? ⟨w.heap.size+1+1,0,none⟩=some (.bool false):=hb1.cell 0;have e1:w2.cell? ⟨w.heap.size+1+1,1,none⟩=some (.slice none 0 0):=hb1.cell 1;have f0:=hb1.frozen 0;have f1:=hb1.frozen 1))
 go_wp2
 obtain ⟨o3,b3⟩:=o2.stored hb1 rfl rfl
 exact bodyPost_ret (results_int Tryz.results121 rfl b3) rfl ⟨t',B2,d2,l',rfl,o3,Below.box2 ((hbeld.trans (b1.mono hbel.size)).trans (b2.mono (Nat.le_trans hbel.size b1.size))) (by omega) _ _⟩
def cmpZ (a b:Int):Int:=if a<b then -1 else if b<a then 1 else 0
theorem cmpZ_lt {a b:Int} (h:sgnI a<sgnI b):cmpZ a b = -1:=by
 unfold sgnI at h;unfold cmpZ;rw [if_pos];split at h <;> (try split at h) <;> (try split at h) <;> (try split at h) <;> omega
theorem cmpZ_gt {a b:Int} (h:sgnI b<sgnI a):cmpZ a b=1:=by
 unfold sgnI at h;unfold cmpZ;rw [if_neg,if_pos] <;> (split at h <;> (try split at h) <;> (try split at h) <;> (try split at h) <;> omega)
theorem cmpZ_eq {a b:Int} (h:sgnI a=sgnI b):sgnI a*cmpI a.natAbs b.natAbs=cmpZ a b:=by
 by_cases h1:a<0
 ·have h2:b<0:=by unfold sgnI at h;rw [if_pos h1]at h;split at h <;> (try split at h) <;> omega
  have:sgnI a = -1:=by unfold sgnI;rw [if_pos h1]
  rw [this]
  unfold cmpI cmpZ
  by_cases h3:a<b
  ·rw [if_neg (by omega),if_pos (by omega),if_pos h3];rfl
  ·rw [if_neg h3]
   by_cases h4:b<a
   ·rw [if_pos (by omega),if_pos h4];rfl
   ·rw [if_neg (by omega),if_neg (by omega),if_neg h4];rfl
 ·by_cases h0:0<a
  ·have h2:0<b:=by unfold sgnI at h;rw [if_neg h1,if_pos h0]at h;split at h <;> (try split at h) <;> omega
   have:sgnI a=1:=by unfold sgnI;rw [if_neg h1,if_pos h0]
   rw [this,Int.one_mul]
   unfold cmpI cmpZ
   by_cases h3:a<b
   ·rw [if_pos (by omega),if_pos h3]
   ·rw [if_neg (by omega),if_neg h3]
    by_cases h4:b<a
    ·rw [if_pos (by omega),if_pos h4]
    ·rw [if_neg (by omega),if_neg h4]
  ·have ha:a=0:=by omega
   subst ha
   have h2:b=0:=by unfold sgnI at h;rw [if_neg h1,if_neg h0]at h;split at h <;> (try split at h) <;> omega
   subst h2
   simp [sgnI,cmpZ]
set_option maxHeartbeats 2000000 in
theorem icmp_any (t1 t2:Bool) (A1 A2:Option Addr) (c1 c2:Nat) (l1 l2:List Nat) (z1 z2:Int) (w:World) (h1:InI w t1 A1 c1 l1 z1) (h2:InI w t2 A2 c2 l2 z2) :
  Calls Tryz.prog 120 #[.agg #[.bool t1,.slice A1 l1.length c1],.agg #[.bool t2,.slice A2 l2.length c2]] w fun e w'=>e=.returned (.int .i64 (cmpZ z1 z2))∧Below w.heap.size w w':=by
 have ba:Box ((w.alloc (.cells #[.bool t1,.slice A1 l1.length c1] 25)).alloc (.cells #[.bool t2,.slice A2 l2.length c2] 25)) w.heap.size #[.bool t1,.slice A1 l1.length c1] 25:=(Box.new w _ _).alloc _
 have bb:Box ((w.alloc (.cells #[.bool t1,.slice A1 l1.length c1] 25)).alloc (.cells #[.bool t2,.slice A2 l2.length c2] 25)) (w.heap.size+1) #[.bool t2,.slice A2 l2.length c2] 25:=by
  have:=Box.new (w.alloc (.cells #[.bool t1,.slice A1 l1.length c1] 25)) #[.bool t2,.slice A2 l2.length c2] 25
  rw [World.size_alloc]at this;exact this
 have hbel:Below w.heap.size w ((w.alloc (.cells #[.bool t1,.slice A1 l1.length c1] 25)).alloc (.cells #[.bool t2,.slice A2 l2.length c2] 25)):=((Below.refl _ _).alloc (Nat.le_refl _) _).alloc (by simp) _
 go_enter Tryz.func120,Tryz.ntmps120
 go_wp2
 generalize hW:(w.alloc (.cells #[.bool t1,.slice A1 l1.length c1] 25)).alloc (.cells #[.bool t2,.slice A2 l2.length c2] 25)=W at *
 clear hW
 have S1:=Lib.hid (fun (W':World) (hb:Below W.heap.size W W')=>sign_any t1 A1 c1 l1 z1 W' ((h1.keep hbel).keep hb))
 have S2:=Lib.hid (fun (W':World) (hb:Below W.heap.size W W')=>sign_any t2 A2 c2 l2 z2 W' ((h2.keep hbel).keep hb))
 have bd:Below W.heap.size W W.drew:=(Below.refl _ _).drew
 have KK:=Lib.hid (fun (W':World) (hb:Below W.heap.size W W')=>(⟨(ba.keep hb).cell 0,(ba.keep hb).cell 1,(bb.keep hb).cell 0,(bb.keep hb).cell 1⟩:W'.cell? ⟨w.heap.size,0,none⟩=some (.bool t1)∧W'.cell? ⟨w.heap.size,1,none⟩=some (.slice A1 l1.length c1)∧W'.cell? ⟨w.heap.size+1,0,none⟩=some (.bool t2)∧W'.cell? ⟨w.heap.size+1,1,none⟩=some (.slice A2 l2.length c2)))
 obtain ⟨k0,k1,k2,k3⟩:=KK.out W (Below.refl _ _)
 go_region_held3 (fun w'=>w'.cell? ⟨w.heap.size,0,none⟩=some (.bool t1)∧w'.cell? ⟨w.heap.size,1,none⟩=some (.slice A1 l1.length c1)∧w'.cell? ⟨w.heap.size+1,0,none⟩=some (.bool t2)∧w'.cell? ⟨w.heap.size+1,1,none⟩=some (.slice A2 l2.length c2)) (first|exact KK.out _ (Below.refl _ _)|exact KK.out _ bd|exact KK.out _ b1'|exact KK.out _ (b1'.trans (b2.mono b1'.size)))
  ((go_at_call 74;(first|((with_reducible refine (S1.out _ bd).mono ?_);rintro e w1 ⟨rfl,b1⟩;have b1':Below W.heap.size W w1:=bd.trans b1)|((with_reducible refine (S2.out _ bd).mono ?_);rintro e w1 ⟨rfl,b1⟩;have b1':Below W.heap.size W w1:=bd.trans b1)|((with_reducible refine (S1.out _ b1').mono ?_);rintro e w2 ⟨rfl,b2⟩)|((with_reducible refine (S2.out _ b1').mono ?_);rintro e w2 ⟨rfl,b2⟩))))
 all_goals
  have b2':Below W.heap.size W w2:=b1'.trans (b2.mono b1'.size)
  obtain ⟨k0,k1,k2,k3⟩:=KK.out w2 b2'
  have i1:In w2 A1 c1 l1 z1.natAbs:=(h1.mag.keep hbel).keep b2'
  have i2:In w2 A2 c2 l2 z2.natAbs:=(h2.mag.keep hbel).keep b2'
  have hfin:Below w.heap.size w w2:=hbel.trans (b2'.mono hbel.size)
  clear k0 k2
  by_cases hlt:sgnI z1<sgnI z2
  ·have hc:=Lib.hid (cmpZ_lt hlt)
   go_wp2
   go_ret
   exact ⟨by rw [hc.out];rfl,hfin⟩
  by_cases hgt:sgnI z2<sgnI z1
  ·have hc:=Lib.hid (cmpZ_gt hgt)
   go_wp2
   go_ret
   exact ⟨by rw [hc.out];rfl,hfin⟩
  have hc:=Lib.hid (cmpZ_eq (show sgnI z1=sgnI z2 by omega))
  have hbd:-1≤sgnI z1*cmpI z1.natAbs z2.natAbs∧sgnI z1*cmpI z1.natAbs z2.natAbs≤1:=by
   rw [hc.out];unfold cmpZ;split <;> (try split) <;> omega
  obtain ⟨d0,d1⟩:=hbd
  go_wp2_with (go_at_call 62;(with_reducible refine (cmp_any _ _ _ _ _ _ _ _ _ i1 i2).mono ?_);rintro e w3 ⟨rfl,m,rfl⟩)
  go_ret
  exact ⟨by rw [←hc.out];rfl,below_drewN hfin _⟩
end Go.Proofs.YtcggnmddcbhchaaGreatDoor
namespace Go.Proofs.YtcggnmddcbhchaaGreatDoor
open Go.RowKit Lim
attribute [local go_sem ↓] Go.wp_at_zero Go.wp_at_succ
theorem sg_add {t:Bool} {z1 z2:Int} (h1:z1=sg t z1.natAbs) (h2:z2=sg t z2.natAbs):sg t (z1.natAbs+z2.natAbs)=z1+z2:=by
 unfold sg at *;cases t <;> simp at*<;> omega
theorem sg_sub1 {t1 t2:Bool} {z1 z2:Int} (h1:z1=sg t1 z1.natAbs) (h2:z2=sg t2 z2.natAbs) (ht:t1≠t2) (hle:z2.natAbs≤z1.natAbs):sg t1 (z1.natAbs-z2.natAbs)=z1+z2:=by
 unfold sg at *;cases t1 <;> cases t2 <;> simp at*<;> omega
theorem sg_sub2 {t1 t2:Bool} {z1 z2:Int} (h1:z1=sg t1 z1.natAbs) (h2:z2=sg t2 z2.natAbs) (ht:t1≠t2) (hle:z1.natAbs≤z2.natAbs):sg t2 (z2.natAbs-z1.natAbs)=z1+z2:=by
 unfold sg at *;cases t1 <;> cases t2 <;> simp at*<;> omega
set_option maxHeartbeats 2000000 in
theorem iadd_same (t:Bool) (A1 A2:Option Addr) (c1 c2:Nat) (l1 l2:List Nat) (z1 z2:Int) (w:World) (h1:InI w t A1 c1 l1 z1) (h2:InI w t A2 c2 l2 z2) (hl:max (nlen z1.natAbs) (nlen z2.natAbs)+1<1099511627776) :
  Calls Tryz.prog 157 #[.agg #[.bool t,.slice A1 l1.length c1],.agg #[.bool t,.slice A2 l2.length c2]] w (RetI w (z1+z2)):=by
 have hbx:=Boxes.new w t t (.slice A1 l1.length c1) (.slice A2 l2.length c2)
 have hbel:Below w.heap.size w (((w.alloc (.cells #[.bool t,.slice A1 l1.length c1] 25)).alloc (.cells #[.bool t,.slice A2 l2.length c2] 25)).alloc (.cells #[.bool false,.slice none 0 0] 25)):=(((Below.refl _ _).alloc (Nat.le_refl _) _).alloc (by simp) _).alloc (by simp;omega) _
 have hlm:nlen (z1.natAbs+z2.natAbs)<1099511627776:=Nat.lt_of_le_of_lt (nlen_add _ _) hl
 have HM:=Lib.hid (sg_add h1.sgn h2.sgn)
 clear hl
 go_enter Tryz.func157,Tryz.ntmps157
 go_wp2
 generalize hW:((w.alloc (.cells #[.bool t,.slice A1 l1.length c1] 25)).alloc (.cells #[.bool t,.slice A2 l2.length c2] 25)).alloc (.cells #[.bool false,.slice none 0 0] 25)=W at *
 clear hW
 obtain ⟨k0,k1,k2,k3⟩:=hbx.cells
 have i1:In W.drew A1 c1 l1 z1.natAbs:=h1.mag.keep hbel.drew
 have i2:In W.drew A2 c2 l2 z2.natAbs:=h2.mag.keep hbel.drew
 have hbd:=hbx.drew
 have hbeld:=hbel.drew
 go_region_held3 (fun w'=>w'.cell? ⟨w.heap.size,0,none⟩=some (.bool t)∧w'.cell? ⟨w.heap.size,1,none⟩=some (.slice A1 l1.length c1)∧w'.cell? ⟨w.heap.size+1,0,none⟩=some (.bool t)∧w'.cell? ⟨w.heap.size+1,1,none⟩=some (.slice A2 l2.length c2)) (first|exact hbx.cells|exact hbd.cells|exact (hbd.keep b1).cells|exact ((hbd.keep b1).keep b2).cells|exact ((hbd.keep b1).keep b2).cells_after _ _)
  (first
   | (go_at_call 202;(with_reducible refine (add_any _ _ _ _ _ _ _ _ _ i1 i2).mono ?_);rintro e w1 ⟨B,d,rfl,o1,b1⟩)
   | (go_at_call 130;(with_reducible refine (make_any _ _ _ _ _ _ (o1.toIn hlm)).mono ?_);rw [HM.out];rintro e w2 ⟨t',B2,d2,l',rfl,o2,b2⟩;have hb1:=((hbd.keep b1).keep b2).r;have e0:w2.cell? ⟨w.heap.size+1+1,0,none⟩=some (.bool false):=hb1.cell 0;have e1:w2.cell? ⟨w.heap.size+1+1,1,none⟩=some (.slice none 0 0):=hb1.cell 1;have f0:=hb1.frozen 0;have f1:=hb1.frozen 1))
 go_wp2
 obtain ⟨o3,b3⟩:=o2.stored hb1 rfl rfl
 exact bodyPost_ret (results_int Tryz.results157 rfl b3) rfl ⟨t',B2,d2,l',rfl,o3,Below.box2 ((hbeld.trans (b1.mono hbel.size)).trans (b2.mono (Nat.le_trans hbel.size b1.size))) (by omega) _ _⟩
set_option maxHeartbeats 2000000 in
theorem iadd_diff (t1 t2:Bool) (A1 A2:Option Addr) (c1 c2:Nat) (l1 l2:List Nat) (z1 z2:Int) (w:World) (h1:InI w t1 A1 c1 l1 z1) (h2:InI w t2 A2 c2 l2 z2) (ht:t1≠t2) :
  Calls Tryz.prog 157 #[.agg #[.bool t1,.slice A1 l1.length c1],.agg #[.bool t2,.slice A2 l2.length c2]] w (RetI w (z1+z2)):=by
 have hbx:=Boxes.new w t1 t2 (.slice A1 l1.length c1) (.slice A2 l2.length c2)
 have hbel:Below w.heap.size w (((w.alloc (.cells #[.bool t1,.slice A1 l1.length c1] 25)).alloc (.cells #[.bool t2,.slice A2 l2.length c2] 25)).alloc (.cells #[.bool false,.slice none 0 0] 25)):=(((Below.refl _ _).alloc (Nat.le_refl _) _).alloc (by simp) _).alloc (by simp;omega) _
 have hne:(t1 == t2)=false:=by simpa using ht
 have q1:=h1.mag.nlen
 have q2:=h2.mag.nlen
 have i1:In (((w.alloc (.cells #[.bool t1,.slice A1 l1.length c1] 25)).alloc (.cells #[.bool t2,.slice A2 l2.length c2] 25)).alloc (.cells #[.bool false,.slice none 0 0] 25)) A1 c1 l1 z1.natAbs:=h1.mag.keep hbel
 have i2:In (((w.alloc (.cells #[.bool t1,.slice A1 l1.length c1] 25)).alloc (.cells #[.bool t2,.slice A2 l2.length c2] 25)).alloc (.cells #[.bool false,.slice none 0 0] 25)) A2 c2 l2 z2.natAbs:=h2.mag.keep hbel
 by_cases hle:z2.natAbs≤z1.natAbs
 ·have HM:=Lib.hid (sg_sub1 h1.sgn h2.sgn ht hle)
  have hlm:nlen (z1.natAbs-z2.natAbs)<1099511627776:=Nat.lt_of_le_of_lt (nlen_mono (Nat.sub_le _ _)) q1
  clear ht
  go_enter Tryz.func157,Tryz.ntmps157
  go_wp2_with fail
  refine (sub_yes _ _ _ _ _ _ _ _ _ i1 i2 hle).mono ?_
  rintro e w1 ⟨B,d,rfl,o1,b1⟩
  obtain ⟨k0,k1,k2,k3⟩:=(hbx.keep b1).cells
  clear k1 k3
  go_wp2_with fail
  refine (make_any _ _ _ _ _ _ (o1.toIn hlm)).mono ?_
  rw [HM.out]
  rintro e w2 ⟨t',B2,d2,l',rfl,o2,b2⟩
  have hb1:=((hbx.keep b1).keep b2).r
  have e0:w2.cell? ⟨w.heap.size+1+1,0,none⟩=some (.bool false):=hb1.cell 0
  have e1:w2.cell? ⟨w.heap.size+1+1,1,none⟩=some (.slice none 0 0):=hb1.cell 1
  have f0:=hb1.frozen 0
  have f1:=hb1.frozen 1
  go_wp2
  obtain ⟨o3,b3⟩:=o2.stored hb1 rfl rfl
  exact bodyPost_ret (results_int Tryz.results157 rfl b3) rfl ⟨t',B2,d2,l',rfl,o3,Below.box2 ((hbel.trans (b1.mono hbel.size)).trans (b2.mono (Nat.le_trans hbel.size b1.size))) (by omega) _ _⟩
 ·have HM:=Lib.hid (sg_sub2 h1.sgn h2.sgn ht (by omega))
  have hlm:nlen (z2.natAbs-z1.natAbs)<1099511627776:=Nat.lt_of_le_of_lt (nlen_mono (Nat.sub_le _ _)) q2
  clear ht
  go_enter Tryz.func157,Tryz.ntmps157
  go_wp2_with fail
  refine (sub_no _ _ _ _ _ _ _ _ _ i1 i2 (by omega)).mono ?_
  rintro e w1 ⟨rfl,b1⟩
  obtain ⟨k0,k1,k2,k3⟩:=(hbx.keep b1).cells
  clear k0 k2
  go_wp2_with fail
  refine (sub_yes _ _ _ _ _ _ _ _ _ (i2.keep b1) (i1.keep b1) (by omega)).mono ?_
  rintro e w2 ⟨B,d,rfl,o1,b2⟩
  obtain ⟨k0,_,k2,_⟩:=((hbx.keep b1).keep b2).cells
  go_wp2_with fail
  refine (make_any _ _ _ _ _ _ (o1.toIn hlm)).mono ?_
  rw [HM.out]
  rintro e w3 ⟨t',B2,d2,l',rfl,o2,b3⟩
  have hb1:=(((hbx.keep b1).keep b2).keep b3).r
  have e0:w3.cell? ⟨w.heap.size+1+1,0,none⟩=some (.bool false):=hb1.cell 0
  have e1:w3.cell? ⟨w.heap.size+1+1,1,none⟩=some (.slice none 0 0):=hb1.cell 1
  have f0:=hb1.frozen 0
  have f1:=hb1.frozen 1
  go_wp2
  obtain ⟨o3,b4⟩:=o2.stored hb1 rfl rfl
  exact bodyPost_ret (results_int Tryz.results157 rfl b4) rfl ⟨t',B2,d2,l',rfl,o3,Below.box2 (((hbel.trans (b1.mono hbel.size)).trans (b2.mono (Nat.le_trans hbel.size b1.size))).trans (b3.mono (Nat.le_trans (Nat.le_trans hbel.size b1.size) b2.size))) (by omega) _ _⟩
theorem iadd_any (t1 t2:Bool) (A1 A2:Option Addr) (c1 c2:Nat) (l1 l2:List Nat) (z1 z2:Int) (w:World) (h1:InI w t1 A1 c1 l1 z1) (h2:InI w t2 A2 c2 l2 z2) (hl:max (nlen z1.natAbs) (nlen z2.natAbs)+1<1099511627776) :
  Calls Tryz.prog 157 #[.agg #[.bool t1,.slice A1 l1.length c1],.agg #[.bool t2,.slice A2 l2.length c2]] w (RetI w (z1+z2)):=by
 by_cases ht:t1=t2
 ·subst ht;exact iadd_same t1 A1 A2 c1 c2 l1 l2 z1 z2 w h1 h2 hl
 ·exact iadd_diff t1 t2 A1 A2 c1 c2 l1 l2 z1 z2 w h1 h2 ht
end Go.Proofs.YtcggnmddcbhchaaGreatDoor
namespace Go.Proofs.YtcggnmddcbhchaaGreatDoor
open Go.RowKit Lim
attribute [local go_sem ↓] Go.wp_at_zero Go.wp_at_succ
theorem results_div {fn:Func} {k1 k2 k3:Tmp} (h:fn.results=#[.cell k1 25,.cell k2 25,.tmp k3]) {tmps:Array Value} {g1 g2:Nat} (hg1:tmps.getD k1 undef=.pointer (some ⟨g1,0,none⟩)) (hg2:tmps.getD k2 undef=.pointer (some ⟨g2,0,none⟩)) {W:World} {x y u v z:Value} (hz:tmps.getD k3 undef=z) (hb1:Box W g1 #[x,y] 25) (hb2:Box W g2 #[u,v] 25) :
  (results fn tmps).run Tryz.prog W=.ok (.tuple #[.agg #[x,y],.agg #[u,v],z]) W:=by
 have q0:W.cell? ⟨g1,0,none⟩=some x:=hb1.cell 0
 have q1:W.cell? ⟨g1,1,none⟩=some y:=hb1.cell 1
 have q2:W.cell? ⟨g2,0,none⟩=some u:=hb2.cell 0
 have q3:W.cell? ⟨g2,1,none⟩=some v:=hb2.cell 1
 have hg1':tmps[k1]?.getD undef=.pointer (some ⟨g1,0,none⟩):=by simpa using hg1
 have hg2':tmps[k2]?.getD undef=.pointer (some ⟨g2,0,none⟩):=by simpa using hg2
 have hz':tmps[k3]?.getD undef=z:=by simpa using hz
 simp [results,h,go_sem,hg1',hg2',hz',q0,q1,q2,q3]
theorem OutI.stored_far {w1:World} {t:Bool} {A:Option Addr} {c:Nat} {l:List Nat} {z:Int} {g:Nat} {x y:Value} (h:OutI w1 t A c l z) (hb:Box w1 g #[x,y] 25) (hx:noLimb x=true) (hy:noLimb y=true) {u:Value} (hu:noLimb u=true) (v:Value) :
  OutI ((w1.setCell ⟨g,0,none⟩ u).setCell ⟨g,1,none⟩ v) t A c l z:=⟨(h.mag.box2 hb hx hy hu).1,h.sgn,h.lim⟩
structure Boxes4 (W:World) (g:Nat) (t1 t2:Bool) (v1 v2:Value):Prop where
 a:Box W g #[.bool t1,v1] 25
 b:Box W (g+1) #[.bool t2,v2] 25
 q:Box W (g+1+1) #[.bool false,.slice none 0 0] 25
 r:Box W (g+1+1+1) #[.bool false,.slice none 0 0] 25
theorem Boxes4.keep {W W':World} {g:Nat} {t1 t2:Bool} {v1 v2:Value} (h:Boxes4 W g t1 t2 v1 v2) (hb:Below W.heap.size W W'):Boxes4 W' g t1 t2 v1 v2:=⟨h.a.keep hb,h.b.keep hb,h.q.keep hb,h.r.keep hb⟩
theorem Boxes4.new (w:World) (t1 t2:Bool) (v1 v2:Value):Boxes4 ((((w.alloc (.cells #[.bool t1,v1] 25)).alloc (.cells #[.bool t2,v2] 25)).alloc (.cells #[.bool false,.slice none 0 0] 25)).alloc (.cells #[.bool false,.slice none 0 0] 25)) w.heap.size t1 t2 v1 v2:=by
 have h:=Boxes.new w t1 t2 v1 v2
 refine ⟨h.a.alloc _,h.b.alloc _,h.r.alloc _,?_⟩
 have:=Box.new (((w.alloc (.cells #[.bool t1,v1] 25)).alloc (.cells #[.bool t2,v2] 25)).alloc (.cells #[.bool false,.slice none 0 0] 25)) #[.bool false,.slice none 0 0] 25
 rw [World.size_alloc,World.size_alloc,World.size_alloc]at this
 exact this
theorem Boxes4.cells {W:World} {g:Nat} {t1 t2:Bool} {v1 v2:Value} (h:Boxes4 W g t1 t2 v1 v2) :
  W.cell? ⟨g,0,none⟩=some (.bool t1)∧W.cell? ⟨g+1,0,none⟩=some (.bool t2)∧W.cell? ⟨g+1,1,none⟩=some v2 :=
 ⟨h.a.cell 0,h.b.cell 0,h.b.cell 1⟩
theorem Boxes4.two {W:World} {g:Nat} {t1 t2:Bool} {v1 v2:Value} (h:Boxes4 W g t1 t2 v1 v2):W.cell? ⟨g,0,none⟩=some (.bool t1)∧W.cell? ⟨g+1,0,none⟩=some (.bool t2):=⟨h.a.cell 0,h.b.cell 0⟩
theorem Boxes4.two2 {W:World} {g:Nat} {t1 t2:Bool} {v1 v2:Value} (h:Boxes4 W g t1 t2 v1 v2) (x y:Value) :
  ((W.setCell ⟨g+1+1,0,none⟩ x).setCell ⟨g+1+1,1,none⟩ y).cell? ⟨g,0,none⟩=some (.bool t1)∧((W.setCell ⟨g+1+1,0,none⟩ x).setCell ⟨g+1+1,1,none⟩ y).cell? ⟨g+1,0,none⟩=some (.bool t2) :=
 ⟨((h.a.far (p:=⟨g+1+1,0,none⟩) (by simp;omega) x).far (p:=⟨g+1+1,1,none⟩) (by simp;omega) y).cell 0,((h.b.far (p:=⟨g+1+1,0,none⟩) (by simp) x).far (p:=⟨g+1+1,1,none⟩) (by simp) y).cell 0⟩
theorem Boxes4.two4 {W:World} {g:Nat} {t1 t2:Bool} {v1 v2:Value} (h:Boxes4 W g t1 t2 v1 v2) (x y u v:Value) :
  ((((W.setCell ⟨g+1+1,0,none⟩ x).setCell ⟨g+1+1,1,none⟩ y).setCell ⟨g+1+1+1,0,none⟩ u).setCell ⟨g+1+1+1,1,none⟩ v).cell? ⟨g,0,none⟩=some (.bool t1)∧((((W.setCell ⟨g+1+1,0,none⟩ x).setCell ⟨g+1+1,1,none⟩ y).setCell ⟨g+1+1+1,0,none⟩ u).setCell ⟨g+1+1+1,1,none⟩ v).cell? ⟨g+1,0,none⟩=some (.bool t2) :=
 ⟨((((h.a.far (p:=⟨g+1+1,0,none⟩) (by simp;omega) x).far (p:=⟨g+1+1,1,none⟩) (by simp;omega) y).far (p:=⟨g+1+1+1,0,none⟩) (by simp;omega) u).far (p:=⟨g+1+1+1,1,none⟩) (by simp;omega) v).cell 0,
  ((((h.b.far (p:=⟨g+1+1,0,none⟩) (by simp) x).far (p:=⟨g+1+1,1,none⟩) (by simp) y).far (p:=⟨g+1+1+1,0,none⟩) (by simp <;> omega) u).far (p:=⟨g+1+1+1,1,none⟩) (by simp <;> omega) v).cell 0⟩
def RetQR (w:World) (q r:Int) (e:Ending) (w':World):Prop :=
 ∃t1 A1 c1 l1 t2 A2 c2 l2,e=.returned (.tuple #[.agg #[.bool t1,.slice A1 l1.length c1],.agg #[.bool t2,.slice A2 l2.length c2],.bool true])∧OutI w' t1 A1 c1 l1 q∧OutI w' t2 A2 c2 l2 r∧Below w.heap.size w w'
theorem div_same {n1 n2:Nat}:sg false (n1 / n2)=(n1:Int) / (n2:Int)∧sg false (n1 % n2)=(n1:Int) % (n2:Int):=by
 simp [sg]
theorem div_neg0 {n1 n2:Nat} (h:n1 % n2=0) (hp:0<n2):sg true (n1 / n2) = -(n1:Int) / (n2:Int)∧sg true (n1 % n2) = -(n1:Int) % (n2:Int):=by
 have e:=Nat.div_add_mod n1 n2
 rw [h,Nat.add_zero]at e
 have e':(n1:Int)=(n2:Int)*((n1 / n2:Nat):Int):=by rw [←Int.natCast_mul,e]
 rw [h]
 generalize n1 / n2=k at *
 have e2:-(n1:Int)=(n2:Int)*(-(k:Int)):=by rw [e',Int.mul_neg]
 rw [e2,Int.mul_ediv_cancel_left _ (by omega),Int.mul_emod_right]
 simp [sg]
theorem div_neg1 {n1 n2:Nat} (h:n1 % n2≠0) (hp:0<n2):sg true (n1 / n2+1) = -(n1:Int) / (n2:Int)∧sg false (n2-n1 % n2) = -(n1:Int) % (n2:Int):=by
 have e:=Nat.div_add_mod n1 n2
 have hm:=Nat.mod_lt n1 hp
 have e':(n1:Int)=(n2:Int)*((n1 / n2:Nat):Int)+((n1 % n2:Nat):Int):=by rw [←Int.natCast_mul,←Int.natCast_add,e]
 generalize n1 / n2=k at *
 generalize n1 % n2=m at *
 have e2:-(n1:Int)=((n2-m:Nat):Int)+(n2:Int)*(-((k:Int)+1)):=by
  rw [e',Int.natCast_sub (by omega)];grind
 have hq:(((n2-m:Nat):Int)+(n2:Int)*(-((k:Int)+1))) / (n2:Int) = -((k:Int)+1):=by
  rw [Int.add_mul_ediv_left _ _ (by omega),Int.ediv_eq_zero_of_lt (by omega) (by omega)];omega
 have hr:(((n2-m:Nat):Int)+(n2:Int)*(-((k:Int)+1))) % (n2:Int)=((n2-m:Nat):Int):=by
  rw [Int.add_mul_emod_self_left,Int.emod_eq_of_lt (by omega) (by omega)]
 rw [e2,hq,hr]
 simp [sg]
theorem RetQR.fin {w w3:World} {g:Nat} {t1 t2:Bool} {v1 v2:Value} {q r:Int} {tq tr:Bool} {Aq Ar:Option Addr} {cq cr:Nat} {lq lr:List Nat} (hbx:Boxes4 w3 g t1 t2 v1 v2) (oq:OutI w3 tq Aq cq lq q) (or:OutI w3 tr Ar cr lr r) (hb:Below w.heap.size w w3) (hg:w.heap.size≤g) {tmps:Array Value}
  (hg1:tmps.getD 4 undef=.pointer (some ⟨g+1+1,0,none⟩)) (hg2:tmps.getD 5 undef=.pointer (some ⟨g+1+1+1,0,none⟩)) (hz:tmps.getD 6 undef=.bool true) :
  bodyPost Tryz.prog Tryz.f155 (RetQR w q r) .ret ⟨tmps,[]⟩ ((((w3.setCell ⟨g+1+1,0,none⟩ (.bool tq)).setCell ⟨g+1+1,1,none⟩ (.slice Aq lq.length cq)).setCell ⟨g+1+1+1,0,none⟩ (.bool tr)).setCell ⟨g+1+1+1,1,none⟩ (.slice Ar lr.length cr)):=by
 obtain ⟨oq1,bq1⟩:=oq.stored hbx.q rfl rfl
 have or1:=or.stored_far hbx.q rfl rfl (u:=.bool tq) rfl (.slice Aq lq.length cq)
 have br1:Box ((w3.setCell ⟨g+1+1,0,none⟩ (.bool tq)).setCell ⟨g+1+1,1,none⟩ (.slice Aq lq.length cq)) (g+1+1+1) #[.bool false,.slice none 0 0] 25:=(hbx.r.far (p:=⟨g+1+1,0,none⟩) (by simp) _).far (p:=⟨g+1+1,1,none⟩) (by simp) _
 obtain ⟨or2,br2⟩:=or1.stored br1 rfl rfl
 have oq2:=oq1.stored_far br1 rfl rfl (u:=.bool tr) rfl (.slice Ar lr.length cr)
 have bq2:=(bq1.far (p:=⟨g+1+1+1,0,none⟩) (by simp) (.bool tr)).far (p:=⟨g+1+1+1,1,none⟩) (by simp) (.slice Ar lr.length cr)
 exact bodyPost_ret (results_div Tryz.results155 hg1 hg2 hz bq2 br2) rfl ⟨tq,Aq,cq,lq,tr,Ar,cr,lr,rfl,oq2,or2,Below.box2 (Below.box2 hb (by omega) _ _) (by omega) _ _⟩
set_option maxHeartbeats 2000000 in
theorem idivmod_any (t1 t2:Bool) (A1 A2:Option Addr) (c1 c2:Nat) (l1 l2:List Nat) (z1 z2:Int) (w:World) (h1:InI w t1 A1 c1 l1 z1) (h2:InI w t2 A2 c2 l2 z2) (hpos:0<z2) (hl1:nlen z1.natAbs+2<1099511627776) :
  Calls Tryz.prog 155 #[.agg #[.bool t1,.slice A1 l1.length c1],.agg #[.bool t2,.slice A2 l2.length c2]] w (RetQR w (z1 / z2) (z1 % z2)):=by
 have hbx:=Boxes4.new w t1 t2 (.slice A1 l1.length c1) (.slice A2 l2.length c2)
 have hbel:Below w.heap.size w ((((w.alloc (.cells #[.bool t1,.slice A1 l1.length c1] 25)).alloc (.cells #[.bool t2,.slice A2 l2.length c2] 25)).alloc (.cells #[.bool false,.slice none 0 0] 25)).alloc (.cells #[.bool false,.slice none 0 0] 25)):=((((Below.refl _ _).alloc (Nat.le_refl _) _).alloc (by simp) _).alloc (by simp;omega) _).alloc (by simp;omega) _
 have s1:=h1.sgn
 have s2:=h2.sgn
 have ht2:t2=false:=by
  cases t2
  ·rfl
  ·unfold sg at s2;simp at s2;omega
 subst ht2
 have q1:=h1.mag.nlen
 have q2:=h2.mag.nlen
 have i1:=h1.mag.keep hbel
 have i2:=h2.mag.keep hbel
 obtain ⟨n1,hn1⟩:∃n1,z1.natAbs=n1:=⟨_,rfl⟩
 obtain ⟨n2,hn2⟩:∃n2,z2.natAbs=n2:=⟨_,rfl⟩
 rw [hn1]at i1 q1 s1 hl1
 rw [hn2]at i2 q2 s2
 have hz2:z2=(n2:Int):=by unfold sg at s2;simpa using s2
 have hp:0<n2:=by omega
 have nq:nlen (n1 / n2)<1099511627776:=Nat.lt_of_le_of_lt (nlen_mono (Nat.div_le_self _ _)) q1
 have nr:nlen (n1 % n2)<1099511627776:=Nat.lt_of_le_of_lt (nlen_mono (Nat.mod_le _ _)) q1
 clear h1 h2 s2 hn1 hn2 hpos
 cases t1
 ·have hz1:z1=(n1:Int):=by unfold sg at s1;simpa using s1
  obtain ⟨e1,e2⟩:=div_same (n1:=n1) (n2:=n2)
  rw [←hz1,←hz2]at e1 e2
  have E1:=Lib.hid e1
  have E2:=Lib.hid e2
  clear e1 e2 s1 hz1 hz2
  go_enter Tryz.func155,Tryz.ntmps155
  go_wp2_with fail
  refine (divmod_any _ _ _ _ _ _ _ _ _ i1 i2 hp).mono ?_
  rintro e w1 ⟨B1,d1,B2,d2,rfl,o1,o2,b1⟩
  have hbx1:=hbx.keep b1
  obtain ⟨k0,k2,k3⟩:=hbx1.cells
  have hbel1:=hbel.trans (b1.mono hbel.size)
  have MQ:Hid (∀W':World,Below w1.heap.size w1 W'→Calls Tryz.prog 130 #[.bool false,.slice B1 (limbs (n1 / n2)).length d1] W' (RetI W' (z1 / z2))):=Lib.hid (fun W' hb=>by rw [←E1.out];exact make_any false B1 d1 _ _ W' ((o1.toIn nq).keep hb))
  have MR:Hid (∀W':World,Below w1.heap.size w1 W'→Calls Tryz.prog 130 #[.bool false,.slice B2 (limbs (n1 % n2)).length d2] W' (RetI W' (z1 % z2))):=Lib.hid (fun W' hb=>by rw [←E2.out];exact make_any false B2 d2 _ _ W' ((o2.toIn nr).keep hb))
  go_wp2_with fail
  have bd:Below w1.heap.size w1 w1.drew:=(Below.refl _ _).drew
  have hbx2:=hbx1.keep bd
  clear k3 hbx hbel i1 i2 b1 o1 o2 E1 E2 hl1 q1 q2 nq nr hp
  go_region_held3 (fun w'=>w'.cell? ⟨w.heap.size,0,none⟩=some (.bool false)∧w'.cell? ⟨w.heap.size+1,0,none⟩=some (.bool false)) (with_reducible first|exact hbx1.two|exact hbx2.two|exact (hbx1.keep b2').two|exact (hbx1.keep b3').two|exact (hbx1.keep b3').two2 _ _|exact (hbx1.keep b3').two4 _ _ _ _)
   ((go_at_call 130;(first
    | ((with_reducible refine (MQ.out _ bd).mono ?_);rintro e w2 ⟨tq,Aq,cq,lq,rfl,oq,b2⟩;have b2':Below w1.heap.size w1 w2:=bd.trans b2)
    | ((with_reducible refine (MR.out _ bd).mono ?_);rintro e w2 ⟨tr,Ar,cr,lr,rfl,orr,b2⟩;have b2':Below w1.heap.size w1 w2:=bd.trans b2)
    | ((with_reducible refine (MQ.out _ b2').mono ?_);rintro e w3 ⟨tq,Aq,cq,lq,rfl,oq,b3⟩;have b3':Below w1.heap.size w1 w3:=b2'.trans (b3.mono b2'.size);have orr:=orr.keep b3;have hb1:=(hbx1.keep b3').q;have e0:w3.cell? ⟨w.heap.size+1+1,0,none⟩=some (.bool false):=hb1.cell 0;have e1:w3.cell? ⟨w.heap.size+1+1,1,none⟩=some (.slice none 0 0):=hb1.cell 1;have f0:=hb1.frozen 0;have f1:=hb1.frozen 1;have hb2:=(hbx1.keep b3').r;have e2:w3.cell? ⟨w.heap.size+1+1+1,0,none⟩=some (.bool false):=hb2.cell 0;have e3:w3.cell? ⟨w.heap.size+1+1+1,1,none⟩=some (.slice none 0 0):=hb2.cell 1;have f2:=hb2.frozen 0;have f3:=hb2.frozen 1)
    | ((with_reducible refine (MR.out _ b2').mono ?_);rintro e w3 ⟨tr,Ar,cr,lr,rfl,orr,b3⟩;have b3':Below w1.heap.size w1 w3:=b2'.trans (b3.mono b2'.size);have oq:=oq.keep b3;have hb1:=(hbx1.keep b3').q;have e0:w3.cell? ⟨w.heap.size+1+1,0,none⟩=some (.bool false):=hb1.cell 0;have e1:w3.cell? ⟨w.heap.size+1+1,1,none⟩=some (.slice none 0 0):=hb1.cell 1;have f0:=hb1.frozen 0;have f1:=hb1.frozen 1;have hb2:=(hbx1.keep b3').r;have e2:w3.cell? ⟨w.heap.size+1+1+1,0,none⟩=some (.bool false):=hb2.cell 0;have e3:w3.cell? ⟨w.heap.size+1+1+1,1,none⟩=some (.slice none 0 0):=hb2.cell 1;have f2:=hb2.frozen 0;have f3:=hb2.frozen 1))))
  all_goals
   go_wp2
   exact RetQR.fin (hbx1.keep b3') oq orr (hbel1.trans (b3'.mono hbel1.size)) (Nat.le_refl _) rfl rfl rfl
 ·have hz1:z1 = -(n1:Int):=by unfold sg at s1;simpa using s1
  by_cases h0:n1 % n2=0
  ·obtain ⟨e1,e2⟩:=div_neg0 h0 hp
   rw [←hz1,←hz2]at e1 e2
   have E1:=Lib.hid e1
   have E2:=Lib.hid e2
   have hlen:(((limbs (n1 % n2)).length:Int) == 0)=true:=by rw [h0,limbs_zero];rfl
   clear e1 e2 s1 hz1 hz2 h0
   go_enter Tryz.func155,Tryz.ntmps155
   go_wp2_with fail
   refine (divmod_any _ _ _ _ _ _ _ _ _ i1 i2 hp).mono ?_
   rintro e w1 ⟨B1,d1,B2,d2,rfl,o1,o2,b1⟩
   have hbx1:=hbx.keep b1
   obtain ⟨k0,k2,k3⟩:=hbx1.cells
   have hbel1:=hbel.trans (b1.mono hbel.size)
   have MQ:Hid (∀W':World,Below w1.heap.size w1 W'→Calls Tryz.prog 130 #[.bool true,.slice B1 (limbs (n1 / n2)).length d1] W' (RetI W' (z1 / z2))):=Lib.hid (fun W' hb=>by rw [←E1.out];exact make_any true B1 d1 _ _ W' ((o1.toIn nq).keep hb))
   have MR:Hid (∀W':World,Below w1.heap.size w1 W'→Calls Tryz.prog 130 #[.bool true,.slice B2 (limbs (n1 % n2)).length d2] W' (RetI W' (z1 % z2))):=Lib.hid (fun W' hb=>by rw [←E2.out];exact make_any true B2 d2 _ _ W' ((o2.toIn nr).keep hb))
   go_wp2_with fail
   have bd:Below w1.heap.size w1 w1.drew:=(Below.refl _ _).drew
   have hbx2:=hbx1.keep bd
   clear k3 hbx hbel i1 i2 b1 o1 o2 E1 E2 hl1 q1 q2 nq nr hp
   go_region_held3 (fun w'=>w'.cell? ⟨w.heap.size,0,none⟩=some (.bool true)∧w'.cell? ⟨w.heap.size+1,0,none⟩=some (.bool false)) (with_reducible first|exact hbx1.two|exact hbx2.two|exact (hbx1.keep b2').two|exact (hbx1.keep b3').two|exact (hbx1.keep b3').two2 _ _|exact (hbx1.keep b3').two4 _ _ _ _)
    ((go_at_call 130;(first
     | ((with_reducible refine (MQ.out _ bd).mono ?_);rintro e w2 ⟨tq,Aq,cq,lq,rfl,oq,b2⟩;have b2':Below w1.heap.size w1 w2:=bd.trans b2)
     | ((with_reducible refine (MR.out _ bd).mono ?_);rintro e w2 ⟨tr,Ar,cr,lr,rfl,orr,b2⟩;have b2':Below w1.heap.size w1 w2:=bd.trans b2)
     | ((with_reducible refine (MQ.out _ b2').mono ?_);rintro e w3 ⟨tq,Aq,cq,lq,rfl,oq,b3⟩;have b3':Below w1.heap.size w1 w3:=b2'.trans (b3.mono b2'.size);have orr:=orr.keep b3;have hb1:=(hbx1.keep b3').q;have e0:w3.cell? ⟨w.heap.size+1+1,0,none⟩=some (.bool false):=hb1.cell 0;have e1:w3.cell? ⟨w.heap.size+1+1,1,none⟩=some (.slice none 0 0):=hb1.cell 1;have f0:=hb1.frozen 0;have f1:=hb1.frozen 1;have hb2:=(hbx1.keep b3').r;have e2:w3.cell? ⟨w.heap.size+1+1+1,0,none⟩=some (.bool false):=hb2.cell 0;have e3:w3.cell? ⟨w.heap.size+1+1+1,1,none⟩=some (.slice none 0 0):=hb2.cell 1;have f2:=hb2.frozen 0;have f3:=hb2.frozen 1)
     | ((with_reducible refine (MR.out _ b2').mono ?_);rintro e w3 ⟨tr,Ar,cr,lr,rfl,orr,b3⟩;have b3':Below w1.heap.size w1 w3:=b2'.trans (b3.mono b2'.size);have oq:=oq.keep b3;have hb1:=(hbx1.keep b3').q;have e0:w3.cell? ⟨w.heap.size+1+1,0,none⟩=some (.bool false):=hb1.cell 0;have e1:w3.cell? ⟨w.heap.size+1+1,1,none⟩=some (.slice none 0 0):=hb1.cell 1;have f0:=hb1.frozen 0;have f1:=hb1.frozen 1;have hb2:=(hbx1.keep b3').r;have e2:w3.cell? ⟨w.heap.size+1+1+1,0,none⟩=some (.bool false):=hb2.cell 0;have e3:w3.cell? ⟨w.heap.size+1+1+1,1,none⟩=some (.slice none 0 0):=hb2.cell 1;have f2:=hb2.frozen 0;have f3:=hb2.frozen 1))))
   all_goals
    go_wp2
    exact RetQR.fin (hbx1.keep b3') oq orr (hbel1.trans (b3'.mono hbel1.size)) (Nat.le_refl _) rfl rfl rfl
  ·obtain ⟨e1,e2⟩:=div_neg1 h0 hp
   rw [←hz1,←hz2]at e1 e2
   have E1:=Lib.hid e1
   have E2:=Lib.hid e2
   have hlen:(((limbs (n1 % n2)).length:Int) == 0)=false:=by
    have:=slen_pos (n1 % n2) (by omega)
    simp
    intro h
    rw [h]at this
    simp at this
   have hm:=Nat.mod_lt n1 hp
   have nq1:nlen (n1 / n2+1)<1099511627776:=by
    have a1:=nlen_add (n1 / n2) 1
    rw [nlen_one]at a1
    have a2:=nlen_mono (Nat.div_le_self n1 n2)
    omega
   have nr1:nlen (n2-n1 % n2)<1099511627776:=Nat.lt_of_le_of_lt (nlen_mono (Nat.sub_le _ _)) q2
   clear e1 e2 s1 hz1 hz2 h0
   go_enter Tryz.func155,Tryz.ntmps155
   go_wp2_with fail
   refine (divmod_any _ _ _ _ _ _ _ _ _ i1 i2 hp).mono ?_
   rintro e v1 ⟨B3,d3,B4,d4,rfl,o3,o4,b1⟩
   have hbv1:=hbx.keep b1
   have i2':=i2.keep b1
   obtain ⟨k0,k2,k3⟩:=hbv1.cells
   have hbel0:=hbel.trans (b1.mono hbel.size)
   clear hbx hbel i1 i2 b1
   clear k3
   go_wp2_with fail
   refine (of_any 1 (by omega) _).mono ?_
   rintro e v2 ⟨B5,d5,rfl,o5,b5⟩
   go_wp2_with fail
   refine (add_any _ _ _ _ _ _ _ _ _ ((o3.toIn nq).keep b5) (o5.toIn (by rw [nlen_one];omega))).mono ?_
   rintro e v3 ⟨B1,d1,rfl,o1',b6⟩
   have b7:Below v1.heap.size v1 v3:=b5.trans (b6.mono b5.size)
   obtain ⟨k0,k2,k3⟩:=(hbv1.keep b7).cells
   clear k0 k2
   go_wp2_with fail
   refine (sub_yes _ _ _ _ _ _ _ _ _ (i2'.keep b7) ((o4.toIn nr).keep b7) (Nat.le_of_lt hm)).mono ?_
   rintro e w1 ⟨B2,d2,rfl,o2,b8⟩
   have o1:=o1'.keep b8
   have hbx1:=(hbv1.keep b7).keep b8
   obtain ⟨k0,k2,k3⟩:=hbx1.cells
   have hbel1:=(hbel0.trans (b7.mono hbel0.size)).trans (b8.mono (Nat.le_trans hbel0.size b7.size))
   clear nq nr
   have nq:=nq1
   have nr:=nr1
   have MQ:Hid (∀W':World,Below w1.heap.size w1 W'→Calls Tryz.prog 130 #[.bool true,.slice B1 (limbs (n1 / n2+1)).length d1] W' (RetI W' (z1 / z2))):=Lib.hid (fun W' hb=>by rw [←E1.out];exact make_any true B1 d1 _ _ W' ((o1.toIn nq).keep hb))
   have MR:Hid (∀W':World,Below w1.heap.size w1 W'→Calls Tryz.prog 130 #[.bool false,.slice B2 (limbs (n2-n1 % n2)).length d2] W' (RetI W' (z1 % z2))):=Lib.hid (fun W' hb=>by rw [←E2.out];exact make_any false B2 d2 _ _ W' ((o2.toIn nr).keep hb))
   go_wp2_with fail
   have bd:Below w1.heap.size w1 w1.drew:=(Below.refl _ _).drew
   have hbx2:=hbx1.keep bd
   clear k3 o1 o2 E1 E2 hl1 q1 q2 nq nr nq1 nr1 hp o3 o4 o5 o1' b5 b6 b7 b8 i2' hbv1 hm
   go_region_held3 (fun w'=>w'.cell? ⟨w.heap.size,0,none⟩=some (.bool true)∧w'.cell? ⟨w.heap.size+1,0,none⟩=some (.bool false)) (with_reducible first|exact hbx1.two|exact hbx2.two|exact (hbx1.keep b2').two|exact (hbx1.keep b3').two|exact (hbx1.keep b3').two2 _ _|exact (hbx1.keep b3').two4 _ _ _ _)
    ((go_at_call 130;(first
     | ((with_reducible refine (MQ.out _ bd).mono ?_);rintro e w2 ⟨tq,Aq,cq,lq,rfl,oq,b2⟩;have b2':Below w1.heap.size w1 w2:=bd.trans b2)
     | ((with_reducible refine (MR.out _ bd).mono ?_);rintro e w2 ⟨tr,Ar,cr,lr,rfl,orr,b2⟩;have b2':Below w1.heap.size w1 w2:=bd.trans b2)
     | ((with_reducible refine (MQ.out _ b2').mono ?_);rintro e w3 ⟨tq,Aq,cq,lq,rfl,oq,b3⟩;have b3':Below w1.heap.size w1 w3:=b2'.trans (b3.mono b2'.size);have orr:=orr.keep b3;have hb1:=(hbx1.keep b3').q;have e0:w3.cell? ⟨w.heap.size+1+1,0,none⟩=some (.bool false):=hb1.cell 0;have e1:w3.cell? ⟨w.heap.size+1+1,1,none⟩=some (.slice none 0 0):=hb1.cell 1;have f0:=hb1.frozen 0;have f1:=hb1.frozen 1;have hb2:=(hbx1.keep b3').r;have e2:w3.cell? ⟨w.heap.size+1+1+1,0,none⟩=some (.bool false):=hb2.cell 0;have e3:w3.cell? ⟨w.heap.size+1+1+1,1,none⟩=some (.slice none 0 0):=hb2.cell 1;have f2:=hb2.frozen 0;have f3:=hb2.frozen 1)
     | ((with_reducible refine (MR.out _ b2').mono ?_);rintro e w3 ⟨tr,Ar,cr,lr,rfl,orr,b3⟩;have b3':Below w1.heap.size w1 w3:=b2'.trans (b3.mono b2'.size);have oq:=oq.keep b3;have hb1:=(hbx1.keep b3').q;have e0:w3.cell? ⟨w.heap.size+1+1,0,none⟩=some (.bool false):=hb1.cell 0;have e1:w3.cell? ⟨w.heap.size+1+1,1,none⟩=some (.slice none 0 0):=hb1.cell 1;have f0:=hb1.frozen 0;have f1:=hb1.frozen 1;have hb2:=(hbx1.keep b3').r;have e2:w3.cell? ⟨w.heap.size+1+1+1,0,none⟩=some (.bool false):=hb2.cell 0;have e3:w3.cell? ⟨w.heap.size+1+1+1,1,none⟩=some (.slice none 0 0):=hb2.cell 1;have f2:=hb2.frozen 0;have f3:=hb2.frozen 1))))
   all_goals
    go_wp2
    exact RetQR.fin (hbx1.keep b3') oq orr (hbel1.trans (b3'.mono hbel1.size)) (Nat.le_refl _) rfl rfl rfl
end Go.Proofs.YtcggnmddcbhchaaGreatDoor
