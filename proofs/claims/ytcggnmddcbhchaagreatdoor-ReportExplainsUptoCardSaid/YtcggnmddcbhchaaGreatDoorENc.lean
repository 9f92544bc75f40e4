import Derived.Test.YtcggnmddcbhchaaGreatDoorENb
import Derived.RegionTactic
import Derived.Deep.DeepCutAuto
/- Text Nc. -/
set_option linter.unusedSimpArgs false
set_option linter.unusedVariables false
namespace Go.Proofs.YtcggnmddcbhchaaGreatDoor
open Go.RowKit Lim
attribute [local go_sem ↓] Go.wp_at_zero Go.wp_at_succ
def pz (z:Int) (d:Nat):Int:=if d=0 then 0 else z
def pd (d:Nat):Nat:=if d=0 then 1 else d
theorem pd_pos (d:Nat):0<pd d:=by unfold pd;split <;> omega
def RetP (w:World) (z:Int) (d:Nat) (e:Ending) (w':World):Prop :=
 ∃t A c l B f m,e=.returned (.tuple #[.agg #[.bool t,.slice A l.length c],.slice B m.length f])∧InI w' t A c l (pz z d)∧In w' B f m (pd d)∧Below w.heap.size w w'
theorem results_parts {fn:Func} {k1 k3:Tmp} (h:fn.results=#[.cell k1 25,.tmp k3]) {tmps:Array Value} {g1:Nat} (hg1:tmps.getD k1 undef=.pointer (some ⟨g1,0,none⟩)) {W:World} {x y z:Value} (hz:tmps.getD k3 undef=z) (hb1:Box W g1 #[x,y] 25) :
  (results fn tmps).run Tryz.prog W=.ok (.tuple #[.agg #[x,y],z]) W:=by
 have q0:W.cell? ⟨g1,0,none⟩=some x:=hb1.cell 0
 have q1:W.cell? ⟨g1,1,none⟩=some y:=hb1.cell 1
 have hg1':tmps[k1]?.getD undef=.pointer (some ⟨g1,0,none⟩):=by simpa using hg1
 have hz':tmps[k3]?.getD undef=z:=by simpa using hz
 simp [results,h,go_sem,hg1',hz',q0,q1]
set_option maxHeartbeats 1000000 in
theorem parts_zero (t:Bool) (A B:Option Addr) (c f:Nat) (l m:List Nat) (z:Int) (w:World) (h1:InI w t A c l z) (h2:In w B f m 0) :
  Calls Tryz.prog 73 #[.agg #[.bool t,.slice A l.length c,.slice B m.length f]] w (RetP w z 0):=by
 have hbel:Below w.heap.size w ((w.alloc (.cells #[.bool t,.slice A l.length c,.slice B m.length f] 27)).alloc (.cells #[.bool false,.slice none 0 0] 25)):=((Below.refl _ _).alloc (Nat.le_refl _) _).alloc (by simp) _
 have i2:=h2.keep hbel
 have hbx:=Box.new (w.alloc (.cells #[.bool t,.slice A l.length c,.slice B m.length f] 27)) #[.bool false,.slice none 0 0] 25
 rw [World.size_alloc]at hbx
 have hc0:=cmpI_eq 0
 go_enter Tryz.func73,Tryz.ntmps73
 go_wp2_with fail
 refine (cmp_any _ _ _ _ _ _ _ [] _ i2 (In.zero _)).mono ?_
 rintro e w1 ⟨rfl,k,rfl⟩
 go_wp2_with fail
 refine (of_any 1 (by omega) _).mono ?_
 rintro e w2 ⟨B5,d5,rfl,o5,b5⟩
 have hb1:=(hbx.drewN k).keep b5
 have e0:w2.cell? ⟨w.heap.size+1,0,none⟩=some (.bool false):=hb1.cell 0
 have e1:w2.cell? ⟨w.heap.size+1,1,none⟩=some (.slice none 0 0):=hb1.cell 1
 have f0:=hb1.frozen 0
 have f1:=hb1.frozen 1
 go_wp2
 have b3:=Below.box2 ((below_drewN hbel k).trans (b5.mono hbel.size)) (show w.heap.size≤w.heap.size+1 by omega) (.bool false) (.slice none 0 0)
 obtain ⟨o6,b6⟩:=o5.box2 hb1 rfl rfl (u:=.bool false) (v:=.slice none 0 0) rfl
 refine bodyPost_ret (results_parts Tryz.results73 rfl rfl b6) rfl ⟨false,none,0,[],B5,d5,limbs 1,rfl,⟨In.zero _,rfl⟩,o6.toIn (by rw [nlen_one];omega),b3⟩
set_option maxHeartbeats 1000000 in
theorem parts_pos (t:Bool) (A B:Option Addr) (c f d:Nat) (l m:List Nat) (z:Int) (w:World) (h1:InI w t A c l z) (h2:In w B f m d) (hd:0<d) :
  Calls Tryz.prog 73 #[.agg #[.bool t,.slice A l.length c,.slice B m.length f]] w (RetP w z d):=by
 have hbel:Below w.heap.size w ((w.alloc (.cells #[.bool t,.slice A l.length c,.slice B m.length f] 27)).alloc (.cells #[.bool false,.slice none 0 0] 25)):=((Below.refl _ _).alloc (Nat.le_refl _) _).alloc (by simp) _
 have i2:=h2.keep hbel
 have hc0:=cmpI_gt hd
 have hbx:=Box.new (w.alloc (.cells #[.bool t,.slice A l.length c,.slice B m.length f] 27)) #[.bool false,.slice none 0 0] 25
 rw [World.size_alloc]at hbx
 have ez:=Lib.hid (show pz z d=z by unfold pz;rw [if_neg (by omega)])
 have ed:=Lib.hid (show pd d=d by unfold pd;rw [if_neg (by omega)])
 go_enter Tryz.func73,Tryz.ntmps73
 go_wp2_with fail
 refine (cmp_any _ _ _ _ _ _ _ [] _ i2 (In.zero _)).mono ?_
 rintro e w1 ⟨rfl,k,rfl⟩
 go_wp2_with fail
 go_region
 go_wp2
 have hb1:=hbx.drewN (k+1)
 have i1:In ((((w.alloc (.cells #[.bool t,.slice A l.length c,.slice B m.length f] 27)).alloc (.cells #[.bool false,.slice none 0 0] 25)).drewN (k+1))) A c l z.natAbs:=h1.mag.keep (below_drewN hbel _)
 have i3:In ((((w.alloc (.cells #[.bool t,.slice A l.length c,.slice B m.length f] 27)).alloc (.cells #[.bool false,.slice none 0 0] 25)).drewN (k+1))) B f m d:=h2.keep (below_drewN hbel _)
 have b3:=Below.box2 (below_drewN hbel (k+1)) (show w.heap.size≤w.heap.size+1 by omega) (.bool t) (.slice A l.length c)
 obtain ⟨i4,b4⟩:=i1.box2 hb1 rfl rfl (u:=.bool t) (v:=.slice A l.length c) rfl
 obtain ⟨i5,_⟩:=i3.box2 hb1 rfl rfl (u:=.bool t) (v:=.slice A l.length c) rfl
 refine bodyPost_ret (results_parts Tryz.results73 rfl rfl b4) rfl ⟨t,A,c,l,B,f,m,rfl,⟨by rw [ez.out];exact i4,by rw [ez.out];exact h1.sgn⟩,by rw [ed.out];exact i5,b3⟩
theorem parts_any (t:Bool) (A B:Option Addr) (c f d:Nat) (l m:List Nat) (z:Int) (w:World) (h1:InI w t A c l z) (h2:In w B f m d) :
  Calls Tryz.prog 73 #[.agg #[.bool t,.slice A l.length c,.slice B m.length f]] w (RetP w z d):=by
 rcases Nat.eq_zero_or_pos d with h0|h0
 ·subst h0;exact parts_zero t A B c f l m z w h1 h2
 ·exact parts_pos t A B c f d l m z w h1 h2 h0
def rn (z:Int) (d:Nat):Int:=sg (decide (z<0)) (z.natAbs / Nat.gcd z.natAbs d)
def rd (z:Int) (d:Nat):Nat:=d / Nat.gcd z.natAbs d
theorem rn_abs (z:Int) (d:Nat):(rn z d).natAbs=z.natAbs / Nat.gcd z.natAbs d:=sg_abs _ _
theorem rd_pos (z:Int) {d:Nat} (h:0<d):0<rd z d:=Nat.div_pos (Nat.le_of_dvd h (Nat.gcd_dvd_right _ _)) (Nat.gcd_pos_of_pos_right _ h)
theorem rn_mul_nat (n d:Nat):n / Nat.gcd n d*d=n*(d / Nat.gcd n d):=by
 obtain ⟨a,ha⟩:=Nat.gcd_dvd_left n d
 obtain ⟨b,hb⟩:=Nat.gcd_dvd_right n d
 rcases Nat.eq_zero_or_pos (Nat.gcd n d)with h0|h0
 ·have:=Nat.gcd_eq_zero_iff.1 h0
  rw [this.1,this.2];simp
 ·generalize Nat.gcd n d=g at *
  subst ha hb
  rw [Nat.mul_div_cancel_left _ h0,Nat.mul_div_cancel_left _ h0]
  grind
theorem rn_mul (z:Int) (d:Nat):rn z d*(d:Int)=z*(rd z d:Int):=by
 have h:=rn_mul_nat z.natAbs d
 unfold rn rd sg
 by_cases hz:z<0
 ·simp only [hz,decide_true,if_true]
  have e:z = -(z.natAbs:Int):=by omega
  rw [Int.neg_mul,←Int.natCast_mul,h,Int.natCast_mul]
  generalize d / Nat.gcd z.natAbs d=k
  have e2:z*(k:Int) = -(z.natAbs:Int)*(k:Int):=by rw [←e]
  rw [e2,Int.neg_mul]
 ·simp only [hz,decide_false,Bool.false_eq_true,if_false]
  have e:z=(z.natAbs:Int):=by omega
  rw [←Int.natCast_mul,h,Int.natCast_mul,←e]
theorem rn_sgn {t:Bool} {z:Int} (d:Nat) (h:z=sg t z.natAbs):sg t (z.natAbs / Nat.gcd z.natAbs d)=rn z d:=by
 unfold rn
 by_cases h0:z.natAbs=0
 ·rw [h0];unfold sg;simp
 ·have:t=decide (z<0):=by
   unfold sg at h
   cases t
   ·simp at h ⊢;omega
   ·simp at h ⊢;omega
  rw [this]
def RetR (w:World) (z:Int) (d:Nat) (e:Ending) (w':World):Prop :=
 ∃t A c l B f m,e=.returned (.agg #[.bool t,.slice A l.length c,.slice B m.length f])∧OutI w' t A c l z∧Out w' B f d∧m=limbs d∧Below w.heap.size w w'
theorem results_rat {fn:Func} {k:Tmp} (h:fn.results=#[.cell k 27]) {tmps:Array Value} {g:Nat} (hg:tmps.getD k undef=.pointer (some ⟨g,0,none⟩)) {W:World} {x y z:Value} (hb:Box W g #[x,y,z] 27) :
  (results fn tmps).run Tryz.prog W=.ok (.agg #[x,y,z]) W:=by
 have q0:W.cell? ⟨g,0,none⟩=some x:=hb.cell 0
 have q1:W.cell? ⟨g,1,none⟩=some y:=hb.cell 1
 have q2:W.cell? ⟨g,2,none⟩=some z:=hb.cell 2
 have hg':tmps[k]?.getD undef=.pointer (some ⟨g,0,none⟩):=by simpa using hg
 simp [results,h,go_sem,hg',q0,q1,q2]
set_option maxHeartbeats 1000000 in
theorem reduce_any (t:Bool) (A B:Option Addr) (c f d:Nat) (l m:List Nat) (z:Int) (w:World) (h1:InI w t A c l z) (h2:In w B f m d) (hd:0<d) :
  Calls Tryz.prog 123 #[.agg #[.bool t,.slice A l.length c],.slice B m.length f] w (RetR w (rn z d) (rd z d)):=by
 have hbel:Below w.heap.size w ((w.alloc (.cells #[.bool t,.slice A l.length c] 25)).alloc (.cells #[.bool false,.slice none 0 0,.slice none 0 0] 27)):=((Below.refl _ _).alloc (Nat.le_refl _) _).alloc (by simp) _
 have i1:=h1.mag.keep hbel
 have i2:=h2.keep hbel
 have s1:=rn_sgn d h1.sgn
 have q1:=h1.mag.nlen
 have q2:=h2.nlen
 have ba:Box ((w.alloc (.cells #[.bool t,.slice A l.length c] 25)).alloc (.cells #[.bool false,.slice none 0 0,.slice none 0 0] 27)) w.heap.size #[.bool t,.slice A l.length c] 25:=(Box.new w _ _).alloc _
 have br:=Box.new (w.alloc (.cells #[.bool t,.slice A l.length c] 25)) #[.bool false,.slice none 0 0,.slice none 0 0] 27
 rw [World.size_alloc]at br
 obtain ⟨n,hn⟩:∃n,z.natAbs=n:=⟨_,rfl⟩
 have er:=Lib.hid (show d / Nat.gcd n d=rd z d by rw [←hn];rfl)
 rw [hn]at i1 s1 q1
 have HS:=Lib.hid s1
 have hg0:0<Nat.gcd n d:=Nat.gcd_pos_of_pos_right _ hd
 have ng:nlen (Nat.gcd n d)<1099511627776:=Nat.lt_of_le_of_lt (nlen_mono (Nat.le_of_dvd hd (Nat.gcd_dvd_right _ _))) q2
 have nn:nlen (n / Nat.gcd n d)<1099511627776:=Nat.lt_of_le_of_lt (nlen_mono (Nat.div_le_self _ _)) q1
 clear s1 hn
 go_enter Tryz.func123,Tryz.ntmps123
 go_wp2_with fail
 refine (gcd_any _ _ _ _ _ _ _ _ _ i1 i2).mono ?_
 rintro e w1 ⟨B1,d1,rfl,o1,b1⟩
 have k1:w1.cell? ⟨w.heap.size,1,none⟩=some (.slice A l.length c):=(ba.keep b1).cell 1
 go_wp2_with fail
 refine (divmod_any _ _ _ _ _ _ _ _ _ (i1.keep b1) (o1.toIn ng) hg0).mono ?_
 rintro e w2 ⟨B2,d2,B3,d3,rfl,o2,o3,b2⟩
 clear k1
 have b12:=b1.trans (b2.mono b1.size)
 go_wp2_with fail
 refine (divmod_any _ _ _ _ _ _ _ _ _ (i2.keep b12) ((o1.toIn ng).keep b2) hg0).mono ?_
 rintro e w3 ⟨B4,d4,B5,d5,rfl,o4,o5,b3⟩
 have b13:=b12.trans (b3.mono b12.size)
 have k0:w3.cell? ⟨w.heap.size,0,none⟩=some (.bool t):=(ba.keep b13).cell 0
 go_wp2_with fail
 refine (make_any _ _ _ _ _ _ ((o2.toIn nn).keep b3)).mono ?_
 rw [HS.out]
 rintro e w4 ⟨t',B6,d6,l',rfl,o6,b4⟩
 have b14:=b13.trans (b4.mono b13.size)
 have hb1:=br.keep b14
 have e0:w4.cell? ⟨w.heap.size+1,0,none⟩=some (.bool false):=hb1.cell 0
 have e1:w4.cell? ⟨w.heap.size+1,1,none⟩=some (.slice none 0 0):=hb1.cell 1
 have e2:w4.cell? ⟨w.heap.size+1,2,none⟩=some (.slice none 0 0):=hb1.cell 2
 have f0:=hb1.frozen 0
 have f1:=hb1.frozen 1
 have f2:=hb1.frozen 2
 clear k0
 go_wp2
 have o4':=(o4.keep b4)
 rw [er.out]at o4'
 obtain ⟨o7,b7⟩:=o6.mag.box3 hb1 rfl rfl rfl (u:=.bool t') (v:=.slice B6 l'.length d6) (s:=.slice B4 (limbs (d / Nat.gcd n d)).length d4) rfl rfl
 obtain ⟨o8,_⟩:=o4'.box3 hb1 rfl rfl rfl (u:=.bool t') (v:=.slice B6 l'.length d6) (s:=.slice B4 (limbs (d / Nat.gcd n d)).length d4) rfl rfl
 exact bodyPost_ret (results_rat Tryz.results123 rfl b7) rfl ⟨t',B6,d6,l',B4,d4,limbs (d / Nat.gcd n d),rfl,⟨o7,o6.sgn,o6.lim⟩,o8,by rw [er.out],Below.box3 (hbel.trans (b14.mono hbel.size)) (by omega) _ _ _⟩
structure InR (w:World) (t:Bool) (A:Option Addr) (c:Nat) (l:List Nat) (B:Option Addr) (f:Nat) (m:List Nat) (z:Int) (d:Nat):Prop where
 num:InI w t A c l z
 den:In w B f m d
theorem InR.keep {w w':World} {t:Bool} {A B:Option Addr} {c f d:Nat} {l m:List Nat} {z:Int} (h:InR w t A c l B f m z d) (hb:Below w.heap.size w w'):InR w' t A c l B f m z d:=⟨h.num.keep hb,h.den.keep hb⟩
set_option maxHeartbeats 1000000 in
theorem rnorm_any (t:Bool) (A B:Option Addr) (c f d:Nat) (l m:List Nat) (z:Int) (w:World) (h:InR w t A c l B f m z d) :
  Calls Tryz.prog 56 #[.agg #[.bool t,.slice A l.length c,.slice B m.length f]] w (RetR w (rn (pz z d) (pd d)) (rd (pz z d) (pd d))):=by
 have hbel:Below w.heap.size w ((w.alloc (.cells #[.bool t,.slice A l.length c,.slice B m.length f] 27)).alloc (.cells #[.bool false,.slice none 0 0,.slice none 0 0] 27)):=((Below.refl _ _).alloc (Nat.le_refl _) _).alloc (by simp) _
 have h':=h.keep hbel
 have br:=Box.new (w.alloc (.cells #[.bool t,.slice A l.length c,.slice B m.length f] 27)) #[.bool false,.slice none 0 0,.slice none 0 0] 27
 rw [World.size_alloc]at br
 go_enter Tryz.func56,Tryz.ntmps56
 go_wp2_with fail
 refine (parts_any _ _ _ _ _ _ _ _ _ _ h'.num h'.den).mono ?_
 rintro e w1 ⟨t1,A1,c1,l1,B1,f1,m1,rfl,i1,i2,b1⟩
 go_wp2_with fail
 refine (reduce_any _ _ _ _ _ _ _ _ _ _ i1 i2 (pd_pos _)).mono ?_
 rintro e w2 ⟨t2,A2,c2,l2,B2,f2,m2,rfl,o1,o2,hm,b2⟩
 have b12:=b1.trans (b2.mono b1.size)
 have hb1:=br.keep b12
 have e0:w2.cell? ⟨w.heap.size+1,0,none⟩=some (.bool false):=hb1.cell 0
 have e1:w2.cell? ⟨w.heap.size+1,1,none⟩=some (.slice none 0 0):=hb1.cell 1
 have e2:w2.cell? ⟨w.heap.size+1,2,none⟩=some (.slice none 0 0):=hb1.cell 2
 have g0:=hb1.frozen 0
 have g1:=hb1.frozen 1
 have g2:=hb1.frozen 2
 have HM:=Lib.hid hm;clear hm
 go_wp2
 obtain ⟨o7,b7⟩:=o1.mag.box3 hb1 rfl rfl rfl (u:=.bool t2) (v:=.slice A2 l2.length c2) (s:=.slice B2 m2.length f2) rfl rfl
 obtain ⟨o8,_⟩:=o2.box3 hb1 rfl rfl rfl (u:=.bool t2) (v:=.slice A2 l2.length c2) (s:=.slice B2 m2.length f2) rfl rfl
 exact bodyPost_ret (results_rat Tryz.results56 rfl b7) rfl ⟨t2,A2,c2,l2,B2,f2,m2,rfl,⟨o7,o1.sgn,o1.lim⟩,o8,HM.out,Below.box3 (hbel.trans (b12.mono hbel.size)) (by omega) _ _ _⟩
end Go.Proofs.YtcggnmddcbhchaaGreatDoor
namespace Go.Proofs.YtcggnmddcbhchaaGreatDoor
open Go.RowKit Lim
attribute [local go_sem ↓] Go.wp_at_zero Go.wp_at_succ
theorem nlen_pz (z:Int) (d:Nat):nlen (pz z d).natAbs≤nlen z.natAbs:=by unfold pz;split <;> simp [nlen_zero]
theorem nlen_pd (d:Nat):nlen (pd d)≤nlen d+1:=by unfold pd;split <;> simp [nlen_one]
end Go.Proofs.YtcggnmddcbhchaaGreatDoor
namespace Go.Proofs.YtcggnmddcbhchaaGreatDoor
open Go.RowKit Lim
attribute [local go_sem ↓] Go.wp_at_zero Go.wp_at_succ
def mz (z1 z2:Int):Int:=if z2<0 then -z1 else z1
theorem mz_abs (z1 z2:Int):(mz z1 z2).natAbs=z1.natAbs:=by unfold mz;split <;> omega
theorem mz_sgn {t1 t2:Bool} {z1 z2:Int} (h1:z1=sg t1 z1.natAbs) (h2:z2=sg t2 z2.natAbs) (h0:z2≠0):sg (!(t1 == t2)) z1.natAbs=mz z1 z2:=by
 unfold sg at *;unfold mz
 cases t1 <;> cases t2 <;> simp at*<;> (split <;> omega)
def RetRT (w:World) (z:Int) (d:Nat) (e:Ending) (w':World):Prop :=
 ∃t A c l B f m,e=.returned (.tuple #[.agg #[.bool t,.slice A l.length c,.slice B m.length f],.bool true])∧OutI w' t A c l z∧Out w' B f d∧m=limbs d∧Below w.heap.size w w'
theorem results_ratT {fn:Func} {k k3:Tmp} (h:fn.results=#[.cell k 27,.tmp k3]) {tmps:Array Value} {g:Nat} (hg:tmps.getD k undef=.pointer (some ⟨g,0,none⟩)) {v:Value} (hz:tmps.getD k3 undef=v) {W:World} {x y z:Value} (hb:Box W g #[x,y,z] 27) :
  (results fn tmps).run Tryz.prog W=.ok (.tuple #[.agg #[x,y,z],v]) W:=by
 have q0:W.cell? ⟨g,0,none⟩=some x:=hb.cell 0
 have q1:W.cell? ⟨g,1,none⟩=some y:=hb.cell 1
 have q2:W.cell? ⟨g,2,none⟩=some z:=hb.cell 2
 have hg':tmps[k]?.getD undef=.pointer (some ⟨g,0,none⟩):=by simpa using hg
 have hz':tmps[k3]?.getD undef=v:=by simpa using hz
 simp [results,h,go_sem,hg',hz',q0,q1,q2]
theorem RetRT.stored {w w2:World} {g:Nat} {t:Bool} {A B:Option Addr} {c f d:Nat} {l m:List Nat} {z:Int} (o1:OutI w2 t A c l z) (o2:Out w2 B f d) (hm:m=limbs d) (hb:Box w2 g #[.bool false,.slice none 0 0,.slice none 0 0] 27) (hbe:Below w.heap.size w w2) (hg:w.heap.size≤g)
  {fn:Func} {k k3:Tmp} (hr:fn.results=#[.cell k 27,.tmp k3]) {tmps:Array Value} (hk:tmps.getD k undef=.pointer (some ⟨g,0,none⟩)) (hz:tmps.getD k3 undef=.bool true) :
  bodyPost Tryz.prog fn (RetRT w z d) .ret ⟨tmps,[]⟩ (((w2.setCell ⟨g,0,none⟩ (.bool t)).setCell ⟨g,1,none⟩ (.slice A l.length c)).setCell ⟨g,2,none⟩ (.slice B m.length f)):=by
 obtain ⟨o7,b7⟩:=o1.mag.box3 hb rfl rfl rfl (u:=.bool t) (v:=.slice A l.length c) (s:=.slice B m.length f) rfl rfl
 obtain ⟨o8,_⟩:=o2.box3 hb rfl rfl rfl (u:=.bool t) (v:=.slice A l.length c) (s:=.slice B m.length f) rfl rfl
 exact bodyPost_ret (results_ratT hr hk hz b7) rfl ⟨t,A,c,l,B,f,m,rfl,⟨o7,o1.sgn,o1.lim⟩,o8,hm,Below.box3 hbe hg _ _ _⟩
structure BoxesR (W:World) (g:Nat) (t1 t2:Bool) (v1 v2:Value):Prop where
 a:Box W g #[.bool t1,v1] 25
 b:Box W (g+1) #[.bool t2,v2] 25
 r:Box W (g+1+1) #[.bool false,.slice none 0 0,.slice none 0 0] 27
theorem BoxesR.new (w:World) (t1 t2:Bool) (v1 v2:Value):BoxesR (((w.alloc (.cells #[.bool t1,v1] 25)).alloc (.cells #[.bool t2,v2] 25)).alloc (.cells #[.bool false,.slice none 0 0,.slice none 0 0] 27)) w.heap.size t1 t2 v1 v2 :=
 ⟨((Box.new w _ _).alloc _).alloc _,(by have:=(Box.new (w.alloc (.cells #[.bool t1,v1] 25)) #[.bool t2,v2] 25).alloc (.cells #[.bool false,.slice none 0 0,.slice none 0 0] 27);rw [World.size_alloc]at this;exact this),
  (by have:=Box.new ((w.alloc (.cells #[.bool t1,v1] 25)).alloc (.cells #[.bool t2,v2] 25)) #[.bool false,.slice none 0 0,.slice none 0 0] 27;rw [World.size_alloc,World.size_alloc]at this;exact this)⟩
theorem BoxesR.keep {W W':World} {g:Nat} {t1 t2:Bool} {v1 v2:Value} (h:BoxesR W g t1 t2 v1 v2) (hb:Below W.heap.size W W'):BoxesR W' g t1 t2 v1 v2:=⟨h.a.keep hb,h.b.keep hb,h.r.keep hb⟩
theorem BoxesR.cells {W:World} {g:Nat} {t1 t2:Bool} {v1 v2:Value} (h:BoxesR W g t1 t2 v1 v2) :
  W.cell? ⟨g,0,none⟩=some (.bool t1)∧W.cell? ⟨g,1,none⟩=some v1∧W.cell? ⟨g+1,0,none⟩=some (.bool t2)∧W.cell? ⟨g+1,1,none⟩=some v2 :=
 ⟨h.a.cell 0,h.a.cell 1,h.b.cell 0,h.b.cell 1⟩
theorem BoxesR.cells_after {W:World} {g:Nat} {t1 t2:Bool} {v1 v2:Value} (h:BoxesR W g t1 t2 v1 v2) (x y z:Value) :
  (((W.setCell ⟨g+1+1,0,none⟩ x).setCell ⟨g+1+1,1,none⟩ y).setCell ⟨g+1+1,2,none⟩ z).cell? ⟨g,0,none⟩=some (.bool t1)∧(((W.setCell ⟨g+1+1,0,none⟩ x).setCell ⟨g+1+1,1,none⟩ y).setCell ⟨g+1+1,2,none⟩ z).cell? ⟨g,1,none⟩=some v1∧(((W.setCell ⟨g+1+1,0,none⟩ x).setCell ⟨g+1+1,1,none⟩ y).setCell ⟨g+1+1,2,none⟩ z).cell? ⟨g+1,0,none⟩=some (.bool t2)∧(((W.setCell ⟨g+1+1,0,none⟩ x).setCell ⟨g+1+1,1,none⟩ y).setCell ⟨g+1+1,2,none⟩ z).cell? ⟨g+1,1,none⟩=some v2:=by
 have ha:=((h.a.far (p:=⟨g+1+1,0,none⟩) (by simp;omega) x).far (p:=⟨g+1+1,1,none⟩) (by simp;omega) y).far (p:=⟨g+1+1,2,none⟩) (by simp;omega) z
 have hb:=((h.b.far (p:=⟨g+1+1,0,none⟩) (by simp) x).far (p:=⟨g+1+1,1,none⟩) (by simp) y).far (p:=⟨g+1+1,2,none⟩) (by simp) z
 exact ⟨ha.cell 0,ha.cell 1,hb.cell 0,hb.cell 1⟩
set_option maxHeartbeats 2000000 in
theorem rmake_any (t1 t2:Bool) (A1 A2:Option Addr) (c1 c2:Nat) (l1 l2:List Nat) (z1 z2:Int) (w:World) (h1:InI w t1 A1 c1 l1 z1) (h2:InI w t2 A2 c2 l2 z2) (h0:z2≠0) :
  Calls Tryz.prog 138 #[.agg #[.bool t1,.slice A1 l1.length c1],.agg #[.bool t2,.slice A2 l2.length c2]] w (RetRT w (rn (mz z1 z2) z2.natAbs) (rd (mz z1 z2) z2.natAbs)):=by
 have hbx:=BoxesR.new w t1 t2 (.slice A1 l1.length c1) (.slice A2 l2.length c2)
 have hbel:Below w.heap.size w (((w.alloc (.cells #[.bool t1,.slice A1 l1.length c1] 25)).alloc (.cells #[.bool t2,.slice A2 l2.length c2] 25)).alloc (.cells #[.bool false,.slice none 0 0,.slice none 0 0] 27)):=(((Below.refl _ _).alloc (Nat.le_refl _) _).alloc (by simp) _).alloc (by simp;omega) _
 have j2:=h2.keep hbel
 have hs0:(sgnI z2 == 0)=false:=by unfold sgnI;simp;split <;> (try split) <;> omega
 have HM:=Lib.hid (mz_sgn h1.sgn h2.sgn h0)
 have hlm:nlen (mz z1 z2).natAbs<1099511627776:=by rw [mz_abs];exact h1.mag.nlen
 go_enter Tryz.func138,Tryz.ntmps138
 go_wp2_with fail
 refine (sign_any _ _ _ _ _ _ j2).mono ?_
 rintro e W ⟨rfl,b0⟩
 have hbx1:=hbx.keep b0
 have bw:Below w.heap.size w W:=hbel.trans (b0.mono hbel.size)
 clear hbx hbel j2 b0
 obtain ⟨k0,k1,k2,k3⟩:=hbx1.cells
 go_wp2_with fail
 have bd:Below W.heap.size W W.drew:=(Below.refl _ _).drew
 have hbd:=hbx1.keep bd
 have MK:=Lib.hid (make_any (!(t1 == t2)) A1 c1 _ l1 W.drew ((h1.mag.keep bw).keep bd))
 have j2:=h2.mag.keep bw
 go_region_held3 (fun w'=>w'.cell? ⟨w.heap.size,0,none⟩=some (.bool t1)∧w'.cell? ⟨w.heap.size,1,none⟩=some (.slice A1 l1.length c1)∧w'.cell? ⟨w.heap.size+1,0,none⟩=some (.bool t2)∧w'.cell? ⟨w.heap.size+1,1,none⟩=some (.slice A2 l2.length c2)) (with_reducible first|exact hbx1.cells|exact hbd.cells|exact (hbx1.keep q1).cells|exact (hbx1.keep q2).cells|exact (hbx1.keep q2).cells_after _ _ _)
  (first
   | (go_at_call 130;(with_reducible refine MK.out.mono ?_);rw [HM.out];rintro e v1 ⟨ta,Aa,ca,la,rfl,oa,ba⟩;have q1:Below W.heap.size W v1:=bd.trans ba)
   | (go_at_call 123;(with_reducible refine (reduce_any _ _ _ _ _ _ _ _ _ _ (oa.toIn hlm) (j2.keep q1) (Int.natAbs_pos.2 h0)).mono ?_);rintro e v2 ⟨tb,Ab,cb,lb,Bb,fb,mb,rfl,ob,oc,hm,bb⟩;have q2:Below W.heap.size W v2:=q1.trans (bb.mono q1.size);have HL:=Lib.hid hm;clear hm;have hb1:=(hbx1.keep q2).r;have e0:v2.cell? ⟨w.heap.size+1+1,0,none⟩=some (.bool false):=hb1.cell 0;have e1:v2.cell? ⟨w.heap.size+1+1,1,none⟩=some (.slice none 0 0):=hb1.cell 1;have e2:v2.cell? ⟨w.heap.size+1+1,2,none⟩=some (.slice none 0 0):=hb1.cell 2;have f0:=hb1.frozen 0;have f1:=hb1.frozen 1;have f2:=hb1.frozen 2))
 go_wp2
 exact RetRT.stored ob oc HL.out hb1 (bw.trans (q2.mono bw.size)) (by omega) Tryz.results138 rfl rfl
end Go.Proofs.YtcggnmddcbhchaaGreatDoor
namespace Go.Proofs.YtcggnmddcbhchaaGreatDoor
open Go.RowKit Lim
attribute [local go_sem ↓] Go.wp_at_zero Go.wp_at_succ
theorem nlen_pow10 {p:Nat} (hp:p≤9):nlen (10 ^ p)≤1:=by
 apply nlen_le
 have h:10 ^ p≤10 ^ 9:=Nat.pow_le_pow_right (by omega) hp
 have:pw 1=4294967296:=by decide
 omega
theorem nlen_ten:nlen 10≤1:=nlen_pow10 (p:=1) (by omega)
set_option maxHeartbeats 1000000 in
theorem power_any (p:Nat) (hp:p≤9) (w:World) :
  Calls Tryz.prog 156 #[.int .i64 (p:Int)] w (RetI w ((10 ^ p:Nat):Int)):=by
 have hbx:=Box.new w #[.bool false,.slice none 0 0] 25
 have HS:=Lib.hid (show sg false (10 ^ p)=((10 ^ p:Nat):Int)from rfl)
 have n10:=nlen_ten
 have np:=nlen_pow10 hp
 have hm:p*nlen 10+1<1099511627776:=by
  have:=Nat.mul_le_mul_left p n10
  omega
 go_enter Tryz.func156,Tryz.ntmps156
 go_wp2_with fail
 refine (of_any 10 (by omega) _).mono ?_
 rintro e w1 ⟨B1,d1,rfl,o1,b1⟩
 go_wp2_with fail
 refine (pow_any _ _ _ _ _ _ (o1.toIn (by omega)) (by omega) hm).mono ?_
 rintro e w2 ⟨B2,d2,rfl,o2,b2⟩
 go_wp2_with fail
 refine (make_any _ _ _ _ _ _ (o2.toIn (by omega))).mono ?_
 rw [HS.out]
 rintro e w3 ⟨t',B3,d3,l',rfl,o3,b3⟩
 have b03:=(b1.trans (b2.mono b1.size)).trans (b3.mono (Nat.le_trans b1.size b2.size))
 have hb1:=hbx.keep b03
 have e0:w3.cell? ⟨w.heap.size,0,none⟩=some (.bool false):=hb1.cell 0
 have e1:w3.cell? ⟨w.heap.size,1,none⟩=some (.slice none 0 0):=hb1.cell 1
 have f0:=hb1.frozen 0
 have f1:=hb1.frozen 1
 go_wp2
 obtain ⟨o4,b4⟩:=o3.stored hb1 rfl rfl
 exact bodyPost_ret (results_int Tryz.results156 rfl b4) rfl ⟨t',B3,d3,l',rfl,o4,Below.box2 (((Below.refl w.heap.size w).alloc (Nat.le_refl _) _).trans (b03.mono (by simp))) (Nat.le_refl _) _ _⟩
theorem validPlaces_yes (p:Int) (h0:0≤p) (h9:p≤9) (w:World):Calls Tryz.prog 153 #[.int .i64 p] w fun e w'=>e=.returned (.bool true)∧w=w':=by
 go_enter Tryz.func153,Tryz.ntmps153
 go_wp2
 go_ret
 exact ⟨rfl,rfl⟩
theorem validMode_yes (p:Int) (h0:1≤p) (h9:p≤7) (w:World):Calls Tryz.prog 154 #[.int .i64 p] w fun e w'=>e=.returned (.bool true)∧w=w':=by
 go_enter Tryz.func154,Tryz.ntmps154
 go_wp2
 go_ret
 exact ⟨rfl,rfl⟩
def hiB (low half:Int) (neg:Bool) (mode:Int):Bool :=
 if mode=1∨mode=2∨mode=3 then
  (if half=0 then (if mode=1 then decide (low.natAbs % 2=1) else (neg == decide (mode=3))) else decide (0<half))
 else if mode=4 then !neg else if mode=5 then neg else decide (mode=7)
theorem val_odd {l:List Nat} (h:Dig l):val l % 2=l.getD 0 0 % 2:=by
 cases l with
 | nil=>rfl
 | cons x xs=>rw [val_cons];simp;omega
set_option maxHeartbeats 2000000 in
theorem higher_any (t neg:Bool) (A:Option Addr) (c:Nat) (l:List Nat) (z half mode:Int) (w:World) (h:InI w t A c l z) (hm1:1≤mode) (hm2:mode≤7) (hh1:-1≤half) (hh2:half≤1) :
  Calls Tryz.prog 158 #[.agg #[.bool t,.slice A l.length c],.int .i64 half,.bool neg,.int .i64 mode] w fun e w'=>e=.returned (.bool (hiB z half neg mode))∧Below w.heap.size w w':=by
 have hfin:Below w.heap.size w (w.alloc (.cells #[.bool t,.slice A l.length c] 25)):=(Below.refl _ _).alloc (Nat.le_refl _) _
 by_cases h123:mode=1∨mode=2∨mode=3
 ·by_cases hz:half=0
  ·subst hz
   clear hh1 hh2
   rcases h123 with rfl|rfl|rfl
   ·rcases Nat.eq_zero_or_pos l.length with h0|h0
    ·have hl:¬0<l.length:=by omega
     have hv:hiB z 0 neg 1=false:=by
      have e:l=[]:=List.eq_nil_of_length_eq_zero h0
      have:=h.mag.val
      rw [e,val_nil]at this
      simp [hiB,←this]
     have HV:=Lib.hid hv;clear hv h0
     go_enter Tryz.func158,Tryz.ntmps158
     go_wp2
     go_ret
     exact ⟨by rw [HV.out];rfl,hfin⟩
    ·obtain ⟨b,off,rfl,hlt,hcx⟩:=(h.mag.rd.keep hfin).at_ h0
     obtain ⟨x,hx⟩:∃x,l[0]=x:=⟨_,rfl⟩
     rw [hx,Nat.add_zero]at hcx
     have hodd:=val_odd h.mag.rd.1
     rw [h.mag.val,getD_of h0 hx]at hodd
     have hv:hiB z 0 neg 1=decide (x % 2=1):=by simp [hiB,hodd]
     have HV:=Lib.hid hv;clear hv hodd hx
     by_cases h2:x % 2=1
     ·have hb:((x:Int) % 2 == 1)=true:=by simp;omega
      have H2:=Lib.hid h2;clear h2
      go_enter Tryz.func158,Tryz.ntmps158
      go_wp2
      go_ret
      exact ⟨by rw [HV.out];simp [H2.out],hfin⟩
     ·have hb:((x:Int) % 2 == 1)=false:=by simp;omega
      have H2:=Lib.hid h2;clear h2
      go_enter Tryz.func158,Tryz.ntmps158
      go_wp2
      go_ret
      exact ⟨by rw [HV.out];simp [H2.out],hfin⟩
   ·cases neg
    all_goals
     go_enter Tryz.func158,Tryz.ntmps158
     go_wp2
     go_ret
     exact ⟨rfl,hfin⟩
   ·cases neg
    all_goals
     go_enter Tryz.func158,Tryz.ntmps158
     go_wp2
     go_ret
     exact ⟨rfl,hfin⟩
  ·have hh:half=1∨half = -1:=by omega
   clear hz hh1 hh2
   rcases h123 with rfl|rfl|rfl <;> rcases hh with rfl|rfl
   all_goals
    go_enter Tryz.func158,Tryz.ntmps158
    go_wp2
    go_ret
    exact ⟨rfl,hfin⟩
 ·have hmm:mode=4∨mode=5∨mode=6∨mode=7:=by omega
  clear h123 hm1 hm2
  rcases hmm with rfl|rfl|rfl|rfl <;> cases neg
  all_goals
   go_enter Tryz.func158,Tryz.ntmps158
   go_wp2
   go_ret
   exact ⟨rfl,hfin⟩
end Go.Proofs.YtcggnmddcbhchaaGreatDoor
namespace Go.Proofs.YtcggnmddcbhchaaGreatDoor
open Go.RowKit Lim
attribute [local go_sem ↓] Go.wp_at_zero Go.wp_at_succ
theorem below_alloc {W w:World} (h:Below W.heap.size W w) (o:Obj):Below W.heap.size W (w.alloc o):=h.alloc h.size o
theorem below_step {W X v:World} (h:Below W.heap.size W X) (hb:Below X.heap.size X v):Below W.heap.size W v:=h.trans (hb.mono h.size)
theorem Box.new1 (w:World) (o:Obj) (cs:Array Value) (t:TypeId):Box ((w.alloc o).alloc (.cells cs t)) (w.heap.size+1) cs t:=by
 have:=Box.new (w.alloc o) cs t
 rw [World.size_alloc]at this
 exact this
theorem box_after {X v:World} {cs:Array Value} {t:TypeId} (h:Below (X.alloc (.cells cs t)).heap.size (X.alloc (.cells cs t)) v):Box v X.heap.size cs t:=(Box.new X cs t).keep h
theorem box_after' {X v:World} {cs:Array Value} {t:TypeId} (h:Below (X.alloc (.cells cs t)).drew.heap.size (X.alloc (.cells cs t)).drew v):Box v X.heap.size cs t:=Box.keep (w:=(X.alloc (.cells cs t)).drew) (Box.new X cs t) h
theorem Box.c0 {w:World} {g:Nat} {a b c:Value} {t:TypeId} (h:Box w g #[a,b,c] t):w.cell? ⟨g,0,none⟩=some a:=h.cell 0
theorem Box.c1 {w:World} {g:Nat} {a b c:Value} {t:TypeId} (h:Box w g #[a,b,c] t):w.cell? ⟨g,1,none⟩=some b:=h.cell 1
theorem Box.c2 {w:World} {g:Nat} {a b c:Value} {t:TypeId} (h:Box w g #[a,b,c] t):w.cell? ⟨g,2,none⟩=some c:=h.cell 2
theorem Out.alloc {w:World} {A:Option Addr} {c n:Nat} (h:Out w A c n) (o:Obj):Out (w.alloc o) A c n:=h.keep ((Below.refl _ _).alloc (Nat.le_refl _) _)
theorem OutI.alloc {w:World} {t:Bool} {A:Option Addr} {c:Nat} {l:List Nat} {z:Int} (h:OutI w t A c l z) (o:Obj):OutI (w.alloc o) t A c l z:=h.keep ((Below.refl _ _).alloc (Nat.le_refl _) _)
end Go.Proofs.YtcggnmddcbhchaaGreatDoor
namespace Go.Proofs.YtcggnmddcbhchaaGreatDoor
open Go.RowKit Lim
attribute [local go_sem ↓] Go.wp_at_zero Go.wp_at_succ
theorem below_set {B g i:Nat} {a w:World} {u:Value} (h:Below B a w) (hg:B≤g):Below B a (w.setCell ⟨g,i,none⟩ u):=h.setCell hg u
theorem box_after2 {X v:World} {cs:Array Value} {t:TypeId} {o:Obj} (h:Below ((X.alloc (.cells cs t)).alloc o).heap.size ((X.alloc (.cells cs t)).alloc o) v):Box v X.heap.size cs t:=((Box.new X cs t).alloc o).keep h
theorem box_after3 {X v:World} {cs:Array Value} {t:TypeId} {o:Obj} (h:Below ((X.alloc o).alloc (.cells cs t)).heap.size ((X.alloc o).alloc (.cells cs t)) v):Box v (X.heap.size+1) cs t:=(Box.new1 X o cs t).keep h
theorem box_after2' {X v:World} {cs:Array Value} {t:TypeId} {o:Obj} (h:Below ((X.alloc (.cells cs t)).alloc o).drew.heap.size ((X.alloc (.cells cs t)).alloc o).drew v):Box v X.heap.size cs t:=Box.keep (w:=((X.alloc (.cells cs t)).alloc o).drew) ((Box.new X cs t).alloc o) h
theorem box_after3' {X v:World} {cs:Array Value} {t:TypeId} {o:Obj} (h:Below ((X.alloc o).alloc (.cells cs t)).drew.heap.size ((X.alloc o).alloc (.cells cs t)).drew v):Box v (X.heap.size+1) cs t:=Box.keep (w:=((X.alloc o).alloc (.cells cs t)).drew) (Box.new1 X o cs t) h
theorem Box.keepA {w v X:World} {g:Nat} {cs:Array Value} {t:TypeId} (h:Box w g cs t) (hb:Below X.heap.size X v) (hX:Below w.heap.size w X:=by with_reducible repeat' (first|exact Below.refl _ _|refine below_alloc ?_ _)):Box v g cs t:=(h.keep hX).keep hb
theorem Box.i0 {w:World} {g:Nat} {a b:Value} {t:TypeId} (h:Box w g #[a,b] t):w.cell? ⟨g,0,none⟩=some a:=h.cell 0
theorem Box.i1 {w:World} {g:Nat} {a b:Value} {t:TypeId} (h:Box w g #[a,b] t):w.cell? ⟨g,1,none⟩=some b:=h.cell 1
def IntCut (W:World) (uu rr:Int) (s9 s10:Value) (wx:World):Prop:=∃(gq gr:Nat) (tq tr:Bool) (Aq Ar:Option Addr) (cq cr:Nat) (lq lr:List Nat),s9=.pointer (some ⟨gq,0,none⟩)∧s10=.pointer (some ⟨gr,0,none⟩)∧Box wx gq #[.bool tq,.slice Aq lq.length cq] 25∧Box wx gr #[.bool tr,.slice Ar lr.length cr] 25∧OutI wx tq Aq cq lq uu∧OutI wx tr Ar cr lr rr∧Below W.heap.size W wx∧W.heap.size≤gq∧W.heap.size≤gr∧gq≠gr
theorem IntCut.oo {W v:World} {uu rr:Int} {gq gr:Nat} {tq tr:Bool} {Aq Ar:Option Addr} {cq cr:Nat} {lq lr:List Nat} (oq:OutI v tq Aq cq lq uu) (orr:OutI v tr Ar cr lr rr) (q:Below W.heap.size W v) (bq:Box v gq #[.bool false,.slice none 0 0] 25) (br:Box v gr #[.bool false,.slice none 0 0] 25) (h1:W.heap.size≤gq) (h2:W.heap.size≤gr) (h3:gq≠gr) :
  IntCut W uu rr (.pointer (some ⟨gq,0,none⟩)) (.pointer (some ⟨gr,0,none⟩)) ((((v.setCell ⟨gq,0,none⟩ (.bool tq)).setCell ⟨gq,1,none⟩ (.slice Aq lq.length cq)).setCell ⟨gr,0,none⟩ (.bool tr)).setCell ⟨gr,1,none⟩ (.slice Ar lr.length cr)):=by
 obtain ⟨oq1,bq1⟩:=oq.stored bq rfl rfl
 have or1:=orr.stored_far bq rfl rfl (u:=.bool tq) rfl (.slice Aq lq.length cq)
 have br1:=(br.far (p:=⟨gq,0,none⟩) (Ne.symm h3) (.bool tq)).far (p:=⟨gq,1,none⟩) (Ne.symm h3) (.slice Aq lq.length cq)
 obtain ⟨or2,br2⟩:=or1.stored br1 rfl rfl
 have oq2:=oq1.stored_far br1 rfl rfl (u:=.bool tr) rfl (.slice Ar lr.length cr)
 have bq2:=(bq1.far (p:=⟨gr,0,none⟩) h3 (.bool tr)).far (p:=⟨gr,1,none⟩) h3 (.slice Ar lr.length cr)
 exact ⟨gq,gr,tq,tr,Aq,Ar,cq,cr,lq,lr,rfl,rfl,bq2,br2,oq2,or2,Below.box2 (Below.box2 q h1 _ _) h2 _ _,h1,h2,h3⟩
theorem IntCut.on {W v:World} {uu rr:Int} {gq:Nat} {tq tr:Bool} {Aq Ar:Option Addr} {cq cr:Nat} {lq lr:List Nat} (oq:OutI v tq Aq cq lq uu) (orr:OutI v tr Ar cr lr rr) (q:Below W.heap.size W v) (bq:Box v gq #[.bool false,.slice none 0 0] 25) (h1:W.heap.size≤gq) :
  IntCut W uu rr (.pointer (some ⟨gq,0,none⟩)) (.pointer (some ⟨v.heap.size,0,none⟩)) (((((v.alloc (.cells #[.bool false,.slice none 0 0] 25)).setCell ⟨gq,0,none⟩ (.bool tq)).setCell ⟨gq,1,none⟩ (.slice Aq lq.length cq)).setCell ⟨v.heap.size,0,none⟩ (.bool tr)).setCell ⟨v.heap.size,1,none⟩ (.slice Ar lr.length cr)) :=
 IntCut.oo (oq.alloc _) (orr.alloc _) (below_alloc q _) (bq.alloc _) (Box.new _ _ _) h1 q.size (Nat.ne_of_lt bq.lt)
theorem IntCut.no {W v:World} {uu rr:Int} {gr:Nat} {tq tr:Bool} {Aq Ar:Option Addr} {cq cr:Nat} {lq lr:List Nat} (oq:OutI v tq Aq cq lq uu) (orr:OutI v tr Ar cr lr rr) (q:Below W.heap.size W v) (br:Box v gr #[.bool false,.slice none 0 0] 25) (h2:W.heap.size≤gr) :
  IntCut W uu rr (.pointer (some ⟨v.heap.size,0,none⟩)) (.pointer (some ⟨gr,0,none⟩)) (((v.alloc (.cells #[.bool tq,.slice Aq lq.length cq] 25)).setCell ⟨gr,0,none⟩ (.bool tr)).setCell ⟨gr,1,none⟩ (.slice Ar lr.length cr)):=by
 have h3:v.heap.size≠gr:=Nat.ne_of_gt br.lt
 have br1:=br.alloc (.cells #[.bool tq,.slice Aq lq.length cq] 25)
 obtain ⟨or2,br2⟩:=(orr.alloc _).stored br1 rfl rfl
 have oq2:=(oq.alloc _).stored_far br1 rfl rfl (u:=.bool tr) rfl (.slice Ar lr.length cr)
 have bq2:=((Box.new v #[.bool tq,.slice Aq lq.length cq] 25).far (p:=⟨gr,0,none⟩) h3 (.bool tr)).far (p:=⟨gr,1,none⟩) h3 (.slice Ar lr.length cr)
 exact ⟨v.heap.size,gr,tq,tr,Aq,Ar,cq,cr,lq,lr,rfl,rfl,bq2,br2,oq2,or2,Below.box2 (below_alloc q _) h2 _ _,q.size,h2,h3⟩
theorem IntCut.nn {W v:World} {uu rr:Int} {tq tr:Bool} {Aq Ar:Option Addr} {cq cr:Nat} {lq lr:List Nat} (oq:OutI v tq Aq cq lq uu) (orr:OutI v tr Ar cr lr rr) (q:Below W.heap.size W v) :
  IntCut W uu rr (.pointer (some ⟨v.heap.size,0,none⟩)) (.pointer (some ⟨v.heap.size+1,0,none⟩)) ((v.alloc (.cells #[.bool tq,.slice Aq lq.length cq] 25)).alloc (.cells #[.bool tr,.slice Ar lr.length cr] 25)) :=
 ⟨v.heap.size,v.heap.size+1,tq,tr,Aq,Ar,cq,cr,lq,lr,rfl,rfl,(Box.new _ _ _).alloc _,Box.new1 _ _ _ _,(oq.alloc _).alloc _,(orr.alloc _).alloc _,below_alloc (below_alloc q _) _,q.size,Nat.le_trans q.size (Nat.le_succ _),by omega⟩
theorem IntCut.mm {W v:World} {uu rr:Int} {tq tr:Bool} {Aq Ar:Option Addr} {cq cr:Nat} {lq lr:List Nat} (oq:OutI v tq Aq cq lq uu) (orr:OutI v tr Ar cr lr rr) (q:Below W.heap.size W v) :
  IntCut W uu rr (.pointer (some ⟨v.heap.size+1,0,none⟩)) (.pointer (some ⟨v.heap.size,0,none⟩)) ((v.alloc (.cells #[.bool tr,.slice Ar lr.length cr] 25)).alloc (.cells #[.bool tq,.slice Aq lq.length cq] 25)) :=
 ⟨v.heap.size+1,v.heap.size,tq,tr,Aq,Ar,cq,cr,lq,lr,rfl,rfl,Box.new1 _ _ _ _,(Box.new _ _ _).alloc _,(oq.alloc _).alloc _,(orr.alloc _).alloc _,below_alloc (below_alloc q _) _,Nat.le_trans q.size (Nat.le_succ _),q.size,by omega⟩
def rndU (N:Int) (D p:Nat) (mode:Int):Int :=
 if N*((10 ^ p:Nat):Int) % (D:Int)=0 then N*((10 ^ p:Nat):Int) / (D:Int)
 else if hiB (N*((10 ^ p:Nat):Int) / (D:Int)) (cmpZ (N*((10 ^ p:Nat):Int) % (D:Int)+N*((10 ^ p:Nat):Int) % (D:Int)) (D:Int)) (decide (N<0)) mode then N*((10 ^ p:Nat):Int) / (D:Int)+1
 else N*((10 ^ p:Nat):Int) / (D:Int)
def RetD (w:World) (u:Int) (p:Nat) (e:Ending) (w':World):Prop :=
 ∃t A c l,e=.returned (.tuple #[.agg #[.bool t,.slice A l.length c,.int .i64 (p:Int)],.int .i64 0])∧OutI w' t A c l u∧Below w.heap.size w w'
theorem results_dec {fn:Func} {k k3:Tmp} (h:fn.results=#[.cell k 87,.tmp k3]) {tmps:Array Value} {g:Nat} (hg:tmps.getD k undef=.pointer (some ⟨g,0,none⟩)) {v:Value} (hz:tmps.getD k3 undef=v) {W:World} {x y z:Value} (hb:Box W g #[x,y,z] 87) :
  (results fn tmps).run Tryz.prog W=.ok (.tuple #[.agg #[x,y,z],v]) W:=by
 have q0:W.cell? ⟨g,0,none⟩=some x:=hb.cell 0
 have q1:W.cell? ⟨g,1,none⟩=some y:=hb.cell 1
 have q2:W.cell? ⟨g,2,none⟩=some z:=hb.cell 2
 have hg':tmps[k]?.getD undef=.pointer (some ⟨g,0,none⟩):=by simpa using hg
 have hz':tmps[k3]?.getD undef=v:=by simpa using hz
 simp [results,h,go_sem,hg',hz',q0,q1,q2]
structure RBx (X:World) (g3 gd gq gr g6:Nat) (n0 n1 n2 d0 d1 q0 q1 r0 r1:Value):Prop where
 a:Box X g3 #[n0,n1,n2] 27
 b:Box X gd #[d0,d1] 25
 c:Box X gq #[q0,q1] 25
 d:Box X gr #[r0,r1] 25
 e:Box X g6 #[.bool false,.slice none 0 0,.int .i64 0] 87
theorem RBx.keep {X X':World} {g3 gd gq gr g6:Nat} {n0 n1 n2 d0 d1 q0 q1 r0 r1:Value} (h:RBx X g3 gd gq gr g6 n0 n1 n2 d0 d1 q0 q1 r0 r1) (hb:Below X.heap.size X X'):RBx X' g3 gd gq gr g6 n0 n1 n2 d0 d1 q0 q1 r0 r1 :=
 ⟨h.a.keep hb,h.b.keep hb,h.c.keep hb,h.d.keep hb,h.e.keep hb⟩
theorem RBx.cells {X:World} {g3 gd gq gr g6:Nat} {n0 n1 n2 d0 d1 q0 q1 r0 r1:Value} (h:RBx X g3 gd gq gr g6 n0 n1 n2 d0 d1 q0 q1 r0 r1) :
  X.cell? ⟨gr,0,none⟩=some r0∧X.cell? ⟨gr,1,none⟩=some r1∧X.cell? ⟨gd,0,none⟩=some d0∧X.cell? ⟨gd,1,none⟩=some d1∧X.cell? ⟨gq,0,none⟩=some q0∧X.cell? ⟨gq,1,none⟩=some q1∧X.cell? ⟨g3,0,none⟩=some n0∧X.cell? ⟨g3,1,none⟩=some n1 :=
 ⟨h.d.i0,h.d.i1,h.b.i0,h.b.i1,h.c.i0,h.c.i1,h.a.c0,h.a.c1⟩
theorem RBx.cells4 {X:World} {g3 gd gq gr g6:Nat} {n0 n1 n2 d0 d1 q0 q1 r0 r1:Value} (h:RBx X g3 gd gq gr g6 n0 n1 n2 d0 d1 q0 q1 r0 r1) :
  X.cell? ⟨gr,0,none⟩=some r0∧X.cell? ⟨gr,1,none⟩=some r1∧X.cell? ⟨gd,0,none⟩=some d0∧X.cell? ⟨gd,1,none⟩=some d1:=⟨h.d.i0,h.d.i1,h.b.i0,h.b.i1⟩
theorem RBx.cells5 {X:World} {g3 gd gq gr g6:Nat} {n0 n1 n2 d0 d1 q0 q1 r0 r1:Value} (h:RBx X g3 gd gq gr g6 n0 n1 n2 d0 d1 q0 q1 r0 r1) :
  X.cell? ⟨gq,0,none⟩=some q0∧X.cell? ⟨gq,1,none⟩=some q1∧X.cell? ⟨g3,0,none⟩=some n0∧X.cell? ⟨g3,1,none⟩=some n1:=⟨h.c.i0,h.c.i1,h.a.c0,h.a.c1⟩
theorem RBx.out {X:World} {g3 gd gq gr g6:Nat} {n0 n1 n2 d0 d1 q0 q1 r0 r1:Value} (h:RBx X g3 gd gq gr g6 n0 n1 n2 d0 d1 q0 q1 r0 r1) :
  X.cell? ⟨g6,0,none⟩=some (.bool false)∧X.cell? ⟨g6,1,none⟩=some (.slice none 0 0)∧X.cell? ⟨g6,2,none⟩=some (.int .i64 0)∧X.frozen? ⟨g6,0,none⟩=false∧X.frozen? ⟨g6,1,none⟩=false∧X.frozen? ⟨g6,2,none⟩=false :=
 ⟨h.e.c0,h.e.c1,h.e.c2,h.e.frozen 0,h.e.frozen 1,h.e.frozen 2⟩
theorem sgn_lt (N:Int):decide (sgnI N<0)=decide (N<0):=by
 unfold sgnI
 by_cases h:N<0
 ·simp [h]
 ·by_cases h2:0<N <;> simp [h,h2]
theorem cmpZ_bd (a b:Int):-1≤cmpZ a b∧cmpZ a b≤1:=by unfold cmpZ;split <;> (try split) <;> omega
theorem RetD.stored {w w2:World} {g p:Nat} {t:Bool} {A:Option Addr} {c:Nat} {l:List Nat} {u:Int} (o1:OutI w2 t A c l u) (hb:Box w2 g #[.bool false,.slice none 0 0,.int .i64 0] 87) (hbe:Below w.heap.size w w2) (hg:w.heap.size≤g)
  {fn:Func} {k k3:Tmp} (hr:fn.results=#[.cell k 87,.tmp k3]) {tmps:Array Value} (hk:tmps.getD k undef=.pointer (some ⟨g,0,none⟩)) (hz:tmps.getD k3 undef=.int .i64 0) :
  bodyPost Tryz.prog fn (RetD w u p) .ret ⟨tmps,[]⟩ (((w2.setCell ⟨g,0,none⟩ (.bool t)).setCell ⟨g,1,none⟩ (.slice A l.length c)).setCell ⟨g,2,none⟩ (.int .i64 (p:Int))):=by
 obtain ⟨o7,b7⟩:=o1.mag.box3 hb rfl rfl rfl (u:=.bool t) (v:=.slice A l.length c) (s:=.int .i64 (p:Int)) rfl rfl
 exact bodyPost_ret (results_dec hr hk hz b7) rfl ⟨t,A,c,l,rfl,⟨o7,o1.sgn,o1.lim⟩,Below.box3 hbe hg _ _ _⟩
set_option maxHeartbeats 2000000 in
theorem round_norm (t:Bool) (A B:Option Addr) (c f d p:Nat) (l m:List Nat) (z mode:Int) (w:World) (h:InR w t A c l B f m z d) (hp:p≤9) (hm1:1≤mode) (hm2:mode≤7) (hl1:nlen z.natAbs+8<1099511627776) (hl2:nlen d+8<1099511627776) :
  Calls Tryz.prog 98 #[.agg #[.bool t,.slice A l.length c,.slice B m.length f],.int .i64 (p:Int),.int .i64 mode] w (RetD w (rndU (rn (pz z d) (pd d)) (rd (pz z d) (pd d)) p mode) p):=by
 have hbel:Below w.heap.size w ((w.alloc (.cells #[.bool t,.slice A l.length c,.slice B m.length f] 27)).alloc (.cells #[.bool false,.slice none 0 0,.int .i64 0] 87)):=((Below.refl _ _).alloc (Nat.le_refl _) _).alloc (by simp) _
 have h':=h.keep hbel
 have ba:Box ((w.alloc (.cells #[.bool t,.slice A l.length c,.slice B m.length f] 27)).alloc (.cells #[.bool false,.slice none 0 0,.int .i64 0] 87)) w.heap.size #[.bool t,.slice A l.length c,.slice B m.length f] 27:=(Box.new w _ _).alloc _
 have br:=Box.new (w.alloc (.cells #[.bool t,.slice A l.length c,.slice B m.length f] 27)) #[.bool false,.slice none 0 0,.int .i64 0] 87
 rw [World.size_alloc]at br
 obtain ⟨N,hN⟩:∃N,rn (pz z d) (pd d)=N:=⟨_,rfl⟩
 obtain ⟨D,hD⟩:∃D,rd (pz z d) (pd d)=D:=⟨_,rfl⟩
 have hDp:0<D:=by rw [←hD];exact rd_pos _ (pd_pos d)
 have nN:nlen N.natAbs+8<1099511627776:=by
  have a1:=nlen_mono (show N.natAbs≤(pz z d).natAbs by rw [←hN,rn_abs];exact Nat.div_le_self _ _)
  have a2:=nlen_pz z d
  omega
 have nD:nlen D+7<1099511627776:=by
  have a1:=nlen_mono (show D≤pd d by rw [←hD];exact Nat.div_le_self _ _)
  have a2:=nlen_pd d
  omega
 have NRM:=Lib.hid (fun W hW=>rnorm_any t A B c f d l m z W hW)
 rw [hN,hD]at NRM ⊢
 clear hN hD hl1 hl2
 go_enter Tryz.func98,Tryz.ntmps98
 go_wp2_with fail
 refine (validPlaces_yes _ (by omega) (by omega) _).mono ?_
 rintro e w' ⟨rfl,rfl⟩
 go_wp2_with fail
 refine (validMode_yes _ hm1 hm2 _).mono ?_
 rintro e w' ⟨rfl,rfl⟩
 go_wp2_with fail
 refine (NRM.out _ h').mono ?_
 rintro e w1 ⟨t1,A1,c1,l1,B1,f1,m1,rfl,o1,o2,hm,b1⟩
 have HM:=Lib.hid hm;clear hm
 have ba1:=ba.keep b1
 have br1:=br.keep b1
 have e0:w1.cell? ⟨w.heap.size,0,none⟩=some (.bool t):=ba1.cell 0
 have e1:w1.cell? ⟨w.heap.size,1,none⟩=some (.slice A l.length c):=ba1.cell 1
 have e2:w1.cell? ⟨w.heap.size,2,none⟩=some (.slice B m.length f):=ba1.cell 2
 have g0:=ba1.frozen 0
 have g1:=ba1.frozen 1
 have g2:=ba1.frozen 2
 have bw1:Below w.heap.size w w1:=hbel.trans (b1.mono hbel.size)
 obtain ⟨o3,ba2⟩:=o1.mag.box3 ba1 rfl rfl rfl (u:=.bool t1) (v:=.slice A1 l1.length c1) (s:=.slice B1 m1.length f1) rfl rfl
 obtain ⟨o4,_⟩:=o2.box3 ba1 rfl rfl rfl (u:=.bool t1) (v:=.slice A1 l1.length c1) (s:=.slice B1 m1.length f1) rfl rfl
 have br2:=((br1.far (p:=⟨w.heap.size,0,none⟩) (by simp) (.bool t1)).far (p:=⟨w.heap.size,1,none⟩) (by simp) (.slice A1 l1.length c1)).far (p:=⟨w.heap.size,2,none⟩) (by simp) (.slice B1 m1.length f1)
 have bw2:=Below.box3 bw1 (Nat.le_refl _) (.bool t1) (.slice A1 l1.length c1) (.slice B1 m1.length f1)
 have i4:=o4.toIn (show nlen D<1099511627776 by omega)
 rw [←HM.out]at i4
 have oN:OutI (((w1.setCell ⟨w.heap.size,0,none⟩ (.bool t1)).setCell ⟨w.heap.size,1,none⟩ (.slice A1 l1.length c1)).setCell ⟨w.heap.size,2,none⟩ (.slice B1 m1.length f1)) t1 A1 c1 l1 N:=⟨o3,o1.sgn,o1.lim⟩
 clear ba1 br1 o1 o2 b1 h' ba br hbel bw1 o3 o4
 go_wp2_with fail
 generalize hW2:((w1.setCell ⟨w.heap.size,0,none⟩ (.bool t1)).setCell ⟨w.heap.size,1,none⟩ (.slice A1 l1.length c1)).setCell ⟨w.heap.size,2,none⟩ (.slice B1 m1.length f1)=W2 at *
 clear hW2 e0 e1 e2 g0 g1 g2 HM NRM h
 have HS:=Lib.hid (show sg false D=(D:Int)from rfl)
 refine (make_any _ _ _ _ _ _ i4).mono ?_
 rw [HS.out]
 rintro e w3 ⟨t2,A2,c2,l2,rfl,oD,b3⟩
 have bb:Below w3.heap.size w3 (w3.alloc (.cells #[.bool t2,.slice A2 l2.length c2] 25)):=(Below.refl _ _).alloc (Nat.le_refl _) _
 have x1:Box (w3.alloc (.cells #[.bool t2,.slice A2 l2.length c2] 25)) w.heap.size #[.bool t1,.slice A1 l1.length c1,.slice B1 m1.length f1] 27:=(ba2.keep b3).keep bb
 have x2:Box (w3.alloc (.cells #[.bool t2,.slice A2 l2.length c2] 25)) w3.heap.size #[.bool t2,.slice A2 l2.length c2] 25:=Box.new w3 _ _
 have x3:Box (w3.alloc (.cells #[.bool t2,.slice A2 l2.length c2] 25)) (w.heap.size+1) #[.bool false,.slice none 0 0,.int .i64 0] 87:=(br2.keep b3).keep bb
 have jN:InI (w3.alloc (.cells #[.bool t2,.slice A2 l2.length c2] 25)) t1 A1 c1 l1 N:=((oN.toIn (by omega)).keep b3).keep bb
 have jD:InI (w3.alloc (.cells #[.bool t2,.slice A2 l2.length c2] 25)) t2 A2 c2 l2 (D:Int):=(oD.toIn (by rw [Int.natAbs_natCast];omega)).keep bb
 have bw:Below w.heap.size w (w3.alloc (.cells #[.bool t2,.slice A2 l2.length c2] 25)):=(bw2.trans (b3.mono bw2.size)).trans (bb.mono (Nat.le_trans bw2.size b3.size))
 clear ba2 br2 bw2 i4 oN oD HS
 go_upto_region 7 with fail
 generalize hW:w3.alloc (.cells #[.bool t2,.slice A2 l2.length c2] 25)=W at *
 clear hW bb b3
 generalize w3.heap.size=gd at *
 have np:=nlen_pow10 hp
 have p1:nlen (((10 ^ p:Nat):Int)).natAbs<1099511627776:=by rw [Int.natAbs_natCast];omega
 have p3:nlen N.natAbs+nlen (((10 ^ p:Nat):Int)).natAbs<1099511627776:=by rw [Int.natAbs_natCast];omega
 have p5:nlen (N*((10 ^ p:Nat):Int)).natAbs+2<1099511627776:=by
  rw [Int.natAbs_mul]
  have:=nlen_mul N.natAbs (((10 ^ p:Nat):Int)).natAbs
  rw [Int.natAbs_natCast]at *
  omega
 have KK:=Lib.hid (fun (W':World) (hb:Below W.heap.size W W')=>(⟨(x1.keep hb).cell 0,(x1.keep hb).cell 1,(x2.keep hb).cell 0,(x2.keep hb).cell 1⟩:W'.cell? ⟨w.heap.size,0,none⟩=some (.bool t1)∧W'.cell? ⟨w.heap.size,1,none⟩=some (.slice A1 l1.length c1)∧W'.cell? ⟨gd,0,none⟩=some (.bool t2)∧W'.cell? ⟨gd,1,none⟩=some (.slice A2 l2.length c2)))
 obtain ⟨k0,k1,k2,k3⟩:=KK.out W (Below.refl _ _)
 have bd:Below W.heap.size W W.drew:=(Below.refl _ _).drew
 have PW:=Lib.hid (fun X=>power_any p hp X)
 obtain ⟨uu,huu⟩:∃u:Int,N*((10 ^ p:Nat):Int) / (D:Int)=u:=⟨_,rfl⟩
 obtain ⟨rr,hrr⟩:∃r:Int,N*((10 ^ p:Nat):Int) % (D:Int)=r:=⟨_,rfl⟩
 have UU:=Lib.hid huu;clear huu
 have RR:=Lib.hid hrr;clear hrr
 go_cut [9,10,11] (fun s9 s10 _ wx=>IntCut W uu rr s9 s10 wx)
 case first =>
  have ML:Hid (∀(X:World) (ta:Bool) (Aa:Option Addr) (ca:Nat) (la:List Nat),Below W.heap.size W X→OutI X ta Aa ca la ((10 ^ p:Nat):Int)→Calls Tryz.prog 121 #[.agg #[.bool t1,.slice A1 l1.length c1],.agg #[.bool ta,.slice Aa la.length ca]] X (RetI X (N*((10 ^ p:Nat):Int)))):=Lib.hid (fun X ta Aa ca la hX ho=>imul_any _ _ _ _ _ _ _ _ _ _ _ (jN.keep hX) (ho.toIn p1) p3)
  have DM:Hid (∀(X:World) (ta:Bool) (Aa:Option Addr) (ca:Nat) (la:List Nat),Below W.heap.size W X→OutI X ta Aa ca la (N*((10 ^ p:Nat):Int))→Calls Tryz.prog 155 #[.agg #[.bool ta,.slice Aa la.length ca],.agg #[.bool t2,.slice A2 l2.length c2]] X (RetQR X uu rr)):=Lib.hid (fun X ta Aa ca la hX ho=>by
   have:=idivmod_any _ _ _ _ _ _ _ _ _ _ X (ho.toIn (by omega)) (jD.keep hX) (by omega) p5
   rw [UU.out,RR.out]at this
   exact this)
  clear x1 x2 x3 jN jD bw UU RR p1 p3 p5 np
  go_region_held3 (fun w'=>w'.cell? ⟨w.heap.size,0,none⟩=some (.bool t1)∧w'.cell? ⟨w.heap.size,1,none⟩=some (.slice A1 l1.length c1)∧w'.cell? ⟨gd,0,none⟩=some (.bool t2)∧w'.cell? ⟨gd,1,none⟩=some (.slice A2 l2.length c2)) (with_reducible first|exact ⟨k0,k1,k2,k3⟩|(refine KK.out _ ?_;repeat' (first|exact Below.refl _ _|exact q3|exact q2|exact q1|refine Below.drew ?_|refine below_alloc ?_ _|refine below_set ?_ ?_|omega)))
   (first
    | (go_at_call 156;(with_reducible refine (PW.out _).mono ?_);rintro e v1 ⟨ta,Aa,ca,la,rfl,oa,ba⟩;have q1:Below W.heap.size W v1:=below_step (by with_reducible repeat' (first|exact Below.refl _ _|exact q3|exact q2|exact q1|refine Below.drew ?_|refine below_alloc ?_ _)) ba;have z1:=ba.size;(try simp at z1);have y1:=q1.size;(try (have p1:Box v1 W.heap.size _ _:=box_after ba));(try (have p1:Box v1 W.heap.size _ _:=box_after' ba));(try (have p1:Box v1 W.heap.size _ _:=box_after2' ba));(try (have p2:Box v1 (W.heap.size+1) _ _:=box_after3' ba)))
    | (go_at_call 121;(with_reducible refine (ML.out _ _ _ _ _ (by with_reducible repeat' (first|exact Below.refl _ _|exact q3|exact q2|exact q1|refine Below.drew ?_|refine below_alloc ?_ _)) (by with_reducible repeat' (first|exact oa|refine OutI.alloc ?_ _))).mono ?_);rintro e v2 ⟨tb,Ab,cb,lb,rfl,ob,bb⟩;have q2:Below W.heap.size W v2:=below_step (by with_reducible repeat' (first|exact Below.refl _ _|exact q3|exact q2|exact q1|refine Below.drew ?_|refine below_alloc ?_ _)) bb;have z2:=bb.size;(try simp at z2);have y2:=q2.size;(try (have m1:=p1.keepA bb));(try (have m2:=p2.keepA bb));(try (have m3:Box v2 v1.heap.size _ _:=box_after bb));(try (have m3:Box v2 v1.heap.size _ _:=box_after' bb));(try (have m3:Box v2 v1.heap.size _ _:=box_after2 bb));(try (have m4:Box v2 (v1.heap.size+1) _ _:=box_after3 bb)))
    | (go_at_call 155;(with_reducible refine (DM.out _ _ _ _ _ (by with_reducible repeat' (first|exact Below.refl _ _|exact q3|exact q2|exact q1|refine Below.drew ?_|refine below_alloc ?_ _)) (by with_reducible repeat' (first|exact ob|refine OutI.alloc ?_ _))).mono ?_);rintro e v3 ⟨tq,Aq,cq,lq,tr,Ar,cr,lr,rfl,oq,orr,bc⟩;have q3:Below W.heap.size W v3:=below_step (by with_reducible repeat' (first|exact Below.refl _ _|exact q3|exact q2|exact q1|refine Below.drew ?_|refine below_alloc ?_ _)) bc;have z3:=bc.size;(try simp at z3);have y3:=q3.size;(try (have d1:=m1.keepA bc));(try (have d2:=m2.keepA bc));(try (have d3:=m3.keepA bc));(try (have d4:=m4.keepA bc));(try (have d5:Box v3 v2.heap.size _ _:=box_after bc));(try (have d5:Box v3 v2.heap.size _ _:=box_after' bc));(try (have d5:Box v3 v2.heap.size _ _:=box_after2 bc));(try (have d6:Box v3 (v2.heap.size+1) _ _:=box_after3 bc));(try (have e0d1:=d1.i0;have e1d1:=d1.i1;have f0d1:=d1.frozen 0;have f1d1:=d1.frozen 1;have a0d1:=fun o=>(d1.alloc o).i0;have a1d1:=fun o=>(d1.alloc o).i1;have c0d1:=fun o=>(d1.alloc o).frozen 0;have c1d1:=fun o=>(d1.alloc o).frozen 1));(try (have e0d2:=d2.i0;have e1d2:=d2.i1;have f0d2:=d2.frozen 0;have f1d2:=d2.frozen 1;have a0d2:=fun o=>(d2.alloc o).i0;have a1d2:=fun o=>(d2.alloc o).i1;have c0d2:=fun o=>(d2.alloc o).frozen 0;have c1d2:=fun o=>(d2.alloc o).frozen 1));(try (have e0d3:=d3.i0;have e1d3:=d3.i1;have f0d3:=d3.frozen 0;have f1d3:=d3.frozen 1;have a0d3:=fun o=>(d3.alloc o).i0;have a1d3:=fun o=>(d3.alloc o).i1;have c0d3:=fun o=>(d3.alloc o).frozen 0;have c1d3:=fun o=>(d3.alloc o).frozen 1));(try (have e0d4:=d4.i0;have e1d4:=d4.i1;have f0d4:=d4.frozen 0;have f1d4:=d4.frozen 1;have a0d4:=fun o=>(d4.alloc o).i0;have a1d4:=fun o=>(d4.alloc o).i1;have c0d4:=fun o=>(d4.alloc o).frozen 0;have c1d4:=fun o=>(d4.alloc o).frozen 1));(try (have e0d5:=d5.i0;have e1d5:=d5.i1;have f0d5:=d5.frozen 0;have f1d5:=d5.frozen 1;have a0d5:=fun o=>(d5.alloc o).i0;have a1d5:=fun o=>(d5.alloc o).i1;have c0d5:=fun o=>(d5.alloc o).frozen 0;have c1d5:=fun o=>(d5.alloc o).frozen 1));(try (have e0d6:=d6.i0;have e1d6:=d6.i1;have f0d6:=d6.frozen 0;have f1d6:=d6.frozen 1;have a0d6:=fun o=>(d6.alloc o).i0;have a1d6:=fun o=>(d6.alloc o).i1;have c0d6:=fun o=>(d6.alloc o).frozen 0;have c1d6:=fun o=>(d6.alloc o).frozen 1)))
    | fail)
  all_goals (go_wp2_with fail;go_meet)
  all_goals with_reducible first
   | exact IntCut.nn oq orr q3
   | exact IntCut.mm oq orr q3
   | exact IntCut.oo oq orr q3 (by assumption) (by assumption) (by omega) (by omega) (by omega)
   | exact IntCut.on oq orr q3 (by assumption) (by omega)
   | exact IntCut.no oq orr q3 (by assumption) (by omega)
 case rest =>
  obtain ⟨gq,gr,tq,tr,Aq,Ar,cq,cr,lq,lr,rfl,rfl,bq,brr,oq,orr,q,hgq,hgr,hne⟩:=hcut
  have bx:RBx wc w.heap.size gd gq gr (w.heap.size+1) (.bool t1) (.slice A1 l1.length c1) (.slice B1 m1.length f1) (.bool t2) (.slice A2 l2.length c2) (.bool tq) (.slice Aq lq.length cq) (.bool tr) (.slice Ar lr.length cr):=⟨x1.keep q,x2.keep q,bq,brr,x3.keep q⟩
  have kN:=jN.keep q
  have kD:=jD.keep q
  have bwx:Below w.heap.size w wc:=bw.trans (q.mono bw.size)
  have hrr:=RR.out
  have huu:=UU.out
  have hr0:0≤rr:=by rw [←hrr];exact Int.emod_nonneg _ (by omega)
  have hrD:rr<(D:Int):=by rw [←hrr];exact Int.emod_lt_of_pos _ (by omega)
  have lr2:nlen rr.natAbs+7<1099511627776:=by have:=nlen_mono (show rr.natAbs≤D by omega);omega
  have lu:nlen uu.natAbs+2<1099511627776:=by
   have:=nlen_mono (show uu.natAbs≤(N*((10 ^ p:Nat):Int)).natAbs by rw [←huu];exact Int.natAbs_ediv_le_natAbs _ _)
   omega
  have hg6:w.heap.size+1<gq:=Nat.lt_of_lt_of_le x3.lt hgq
  have hgq':w.heap.size≤gq:=Nat.le_trans bw.size hgq
  clear KK PW k0 k1 k2 k3 bd x1 x2 x3 jN jD q bq brr hrr huu p1 p3 p5 hgr hgq bw
  obtain ⟨r0,r1,d0,d1,qa,qb,n0,n1⟩:=bx.cells
  have jr:=orr.toIn (show nlen rr.natAbs<1099511627776 by omega)
  go_wp2_with fail
  refine (sign_any _ _ _ _ _ _ jr).mono ?_
  rintro e w5 ⟨rfl,b5⟩
  have bx5:=bx.keep b5
  have bw5:=bwx.trans (b5.mono bwx.size)
  have oq5:=oq.keep b5
  clear r0 r1 d0 d1 qa qb n0 n1
  by_cases hr:rr=0
  ·have hu:rndU N D p mode=uu:=by unfold rndU;rw [RR.out,UU.out,if_pos hr]
   have s0:sgnI rr=0:=by rw [hr];rfl
   rw [s0]
   obtain ⟨r0,r1,d0,d1,qa,qb,n0,n1⟩:=bx5.cells
   obtain ⟨g0,g1,g2,h0,h1,h2⟩:=bx5.out
   go_wp2_with fail
   rw [hu]
   exact RetD.stored oq5 bx5.e bw5 (by omega) Tryz.results98 rfl rfl
  ·have s0:sgnI rr≠0:=by unfold sgnI;split <;> (try split) <;> omega
   obtain ⟨hB,hhB⟩:∃b,hiB uu (cmpZ (rr+rr) (D:Int)) (decide (N<0)) mode=b:=⟨_,rfl⟩
   have HU:=Lib.hid (show rndU N D p mode=if hB then uu+1 else uu by unfold rndU;rw [RR.out,UU.out,if_neg hr,hhB])
   have HB:=Lib.hid hhB
   clear hhB UU RR
   generalize sgnI rr=sv at *
   have s1:(sv == 0)=false:=by simpa using s0
   obtain ⟨r0,r1,d0,d1,qa,qb,n0,n1⟩:=bx5.cells
   go_upto_region 9 with fail
   have bd:Below w5.heap.size w5 w5.drew:=(Below.refl _ _).drew
   have jr5:=(jr.keep b5).keep bd
   have jD5:=(kD.keep b5)
   have kN5:=(kN.keep b5)
   have KK:=Lib.hid (fun (W':World) (hb:Below w5.heap.size w5 W')=>(bx5.keep hb).cells4)
   clear jr kD oq orr bx hr0 hrD kN b5
   go_region_held3 (fun w'=>w'.cell? ⟨gr,0,none⟩=some (.bool tr)∧w'.cell? ⟨gr,1,none⟩=some (.slice Ar lr.length cr)∧w'.cell? ⟨gd,0,none⟩=some (.bool t2)∧w'.cell? ⟨gd,1,none⟩=some (.slice A2 l2.length c2)) (with_reducible first|exact ⟨r0,r1,d0,d1⟩|exact KK.out _ bd|exact KK.out _ q1|exact KK.out _ q2)
    (first
     | (go_at_call 157;(with_reducible refine (iadd_any _ _ _ _ _ _ _ _ _ _ _ jr5 jr5 (by omega)).mono ?_);rintro e v1 ⟨ta,Aa,ca,la,rfl,oa,ba⟩;have q1:Below w5.heap.size w5 v1:=bd.trans ba)
     | (go_at_call 120;(with_reducible refine (icmp_any _ _ _ _ _ _ _ _ _ _ _ (oa.toIn (by have:=nlen_add rr.natAbs rr.natAbs;have h2:=nlen_mono (show (rr+rr).natAbs≤rr.natAbs+rr.natAbs by omega);omega)) (jD5.keep q1)).mono ?_);rintro e v2 ⟨rfl,bb⟩;have q2:Below w5.heap.size w5 v2:=q1.trans (bb.mono q1.size))
     | fail)
   have bx6:=bx5.keep q2
   have bw6:=bw5.trans (q2.mono bw5.size)
   have oq6:=oq5.keep q2
   have kN6:=kN5.keep q2
   have hh:=cmpZ_bd (rr+rr) (D:Int)
   clear KK bx5 bw5 oq5 kN5 jr5 jD5 r0 r1 d0 d1 qa qb n0 n1 bd q1 q2 oa ba bb
   generalize cmpZ (rr+rr) (D:Int)=hf at *
   obtain ⟨r0,r1,d0,d1,qa,qb,n0,n1⟩:=bx6.cells
   go_upto_region 10 with fail
   have bd:Below v2.heap.size v2 v2.drew:=(Below.refl _ _).drew
   have KK:=Lib.hid (fun (W':World) (hb:Below v2.heap.size v2 W')=>(bx6.keep hb).cells5)
   have jq6:=oq6.toIn (show nlen uu.natAbs<1099511627776 by omega)
   have jN6:=kN6.keep bd
   have HS:=Lib.hid (sgn_lt N)
   go_region_held3 (fun w'=>w'.cell? ⟨gq,0,none⟩=some (.bool tq)∧w'.cell? ⟨gq,1,none⟩=some (.slice Aq lq.length cq)∧w'.cell? ⟨w.heap.size,0,none⟩=some (.bool t1)∧w'.cell? ⟨w.heap.size,1,none⟩=some (.slice A1 l1.length c1)) (with_reducible first|exact ⟨qa,qb,n0,n1⟩|exact KK.out _ bd|exact KK.out _ y1|exact KK.out _ y2)
    (first
     | (go_at_call 74;(with_reducible refine (sign_any _ _ _ _ _ _ jN6).mono ?_);rintro e v3 ⟨rfl,ba⟩;have y1:Below v2.heap.size v2 v3:=bd.trans ba)
     | (go_at_call 158;(with_reducible refine (higher_any _ _ _ _ _ _ _ _ _ (jq6.keep y1) hm1 hm2 hh.1 hh.2).mono ?_);rintro e v4 ⟨rfl,bb⟩;have y2:Below v2.heap.size v2 v4:=y1.trans (bb.mono y1.size))
     | fail)
   rw [HS.out,HB.out]
   have bx7:=bx6.keep y2
   have bw7:=bw6.trans (y2.mono bw6.size)
   have oq7:=oq6.keep y2
   clear KK bx6 bw6 oq6 kN6 jq6 jN6 r0 r1 d0 d1 qa qb n0 n1 bd y1 y2 ba bb HB HS
   have hu:=HU.out
   obtain ⟨r0,r1,d0,d1,qa,qb,n0,n1⟩:=bx7.cells
   cases hB with
   | false =>
    simp only [Bool.false_eq_true,if_false]at hu
    obtain ⟨g0,g1,g2,h0,h1,h2⟩:=bx7.out
    go_wp2_with fail
    rw [hu]
    exact RetD.stored oq7 bx7.e bw7 (by omega) Tryz.results98 rfl rfl
   | true =>
    simp only [if_true]at hu
    go_upto_region 11 with fail
    have bd:Below v4.heap.size v4 v4.drew:=(Below.refl _ _).drew
    have bxd:=bx7.keep bd
    have e0:v4.drew.cell? ⟨gq,0,none⟩=some (.bool tq):=bxd.c.i0
    have e1:v4.drew.cell? ⟨gq,1,none⟩=some (.slice Aq lq.length cq):=bxd.c.i1
    have n1':nlen (1:Int).natAbs≤1:=nlen_le (by decide)
    have jq:=oq7.toIn (show nlen uu.natAbs<1099511627776 by omega)
    have OF:=Lib.hid (fun X=>iof_any 1 (by omega) (by omega) X)
    have AD:Hid (∀(X:World) (ta:Bool) (Aa:Option Addr) (ca:Nat) (la:List Nat),Below v4.heap.size v4 X→OutI X ta Aa ca la 1→Calls Tryz.prog 157 #[.agg #[.bool tq,.slice Aq lq.length cq],.agg #[.bool ta,.slice Aa la.length ca]] X (RetI X (uu+1))):=Lib.hid (fun X ta Aa ca la hX ho=>iadd_any _ _ _ _ _ _ _ _ _ _ _ (jq.keep hX) (ho.toIn (by omega)) (by omega))
    go_region_with (first
      | (go_at_call 61;(with_reducible refine (OF.out _).mono ?_);rintro e v5 ⟨ta,Aa,ca,la,rfl,oa,ba⟩;have y1:Below v4.heap.size v4 v5:=bd.trans ba;have bx8:=bx7.keep y1;have m0:=bx8.c.i0;have m1:=bx8.c.i1)
      | (go_at_call 157;(with_reducible refine (AD.out _ _ _ _ _ y1 oa).mono ?_);rintro e v6 ⟨tb,Ab,cb,lb,rfl,ob,bb⟩;have y2:Below v4.heap.size v4 v6:=y1.trans (bb.mono y1.size);have bx9:=bx7.keep y2;have w0:=bx9.c.i0;have w1:=bx9.c.i1;have u0:=bx9.c.frozen 0;have u1:=bx9.c.frozen 1)
      | fail)
    all_goals (
     obtain ⟨o8,b8⟩:=ob.stored bx9.c rfl rfl
     have hne2:w.heap.size+1≠gq:=by omega
     have b9:=(bx9.e.far (p:=⟨gq,0,none⟩) hne2 (.bool tb)).far (p:=⟨gq,1,none⟩) hne2 (.slice Ab lb.length cb)
     have e3:=b8.i0
     have e4:=b8.i1
     have g0:=b9.c0
     have g1:=b9.c1
     have g2:=b9.c2
     have h0:=b9.frozen 0
     have h1:=b9.frozen 1
     have h2:=b9.frozen 2
     have bwf:=Below.box2 (bw7.trans (y2.mono bw7.size)) hgq' (.bool tb) (.slice Ab lb.length cb)
     generalize (v6.setCell ⟨gq,0,none⟩ (.bool tb)).setCell ⟨gq,1,none⟩ (.slice Ab lb.length cb)=wf at *
     go_wp2_with fail
     rw [hu]
     exact RetD.stored o8 b9 bwf (by omega) Tryz.results98 rfl rfl)
end Go.Proofs.YtcggnmddcbhchaaGreatDoor
namespace Go.Proofs.YtcggnmddcbhchaaGreatDoor
open Go.RowKit Lim
attribute [local go_sem ↓] Go.wp_at_zero Go.wp_at_succ
end Go.Proofs.YtcggnmddcbhchaaGreatDoor
