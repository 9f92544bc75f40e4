import Derived.Test.YtcggnmddcbhchaaGreatDoorF1
import Derived.Lib.LaidTab
import Derived.ChangeBears2
/- Texts merged: Zn Zo Ua Ub Uc Yr. -/
set_option linter.unusedSimpArgs false
set_option linter.unusedVariables false
namespace Go.Proofs.YtcggnmddcbhchaaGreatDoor
open Go.RowKit Lim
theorem mkB_ok {n m:Int} {b:Nat} (h0:0≤n) (h1:n≤m) (h2:m.toNat*b≤140737488355328) (h3:m.toNat≤9223372036854775807):mkB n m b=true:=by
 unfold mkB
 rw [decide_eq_true h0,decide_eq_true h1,Nat.ble_eq_true_of_le h2,Nat.ble_eq_true_of_le h3]
 rfl
theorem limbsK_dig (k:Nat):Dig (limbsK k):=by rw [limbsK_eq];exact dig_limbs k
theorem limbsK_mono {l:List Nat} {k:Nat} (h:k≤val l) (hd:Dig l):(limbsK k).length≤l.length:=by
 rw [limbsK_eq]
 exact Nat.le_trans (nlen_mono h) (nlen_val hd)
theorem limbsK_len0 (k:Nat):(limbsK k).length=0 ↔ k=0:=by
 rw [limbsK_eq,List.length_eq_zero_iff]
 exact limbs_eq_nil
theorem set_rep {α:Type} (a v:α) (R:List α):∀k,(List.replicate (k+1) a ++ R).set k v=List.replicate k a ++ v :: R
 | 0=>rfl
 | k+1=>by
  have:=set_rep a v R k
  rw [List.replicate_succ,List.cons_append,List.set_cons_succ,this]
  rfl
theorem rev_loop {step:denL [tI,VT.sl 1 VT.byte]→Option (Ans (denL [tS]))} (b:List UInt8) (hb:b.length<9223372036854775807) (hs:∀(i:Nat) (hi:i<b.length) (o:List UInt8),o.length=b.length→step ((i:Int),o,())=some (.cont 0 [tI,VT.sl 1 VT.byte] (((i+1:Nat):Int),o.set (b.length-1-i) b[i],()))) (he:∀o,step ((b.length:Int),o,())=some (.ret (o,()))) :
  loopA 0 [tI,VT.sl 1 VT.byte] step fuel (0,List.replicate b.length 0,())=some (.ret (b.reverse,())):=by
 refine (congrArg (fun o=>loopA 0 [tI,VT.sl 1 VT.byte] step fuel (0,o,())) (show List.replicate b.length 0=List.replicate (b.length-0) 0 ++ (b.take 0).reverse by simp)).trans ?_
 refine loopA_range (R:=denL [tS]) (ts:=[tI,VT.sl 1 VT.byte]) (N:=b.length) (fun i=>((i:Int),List.replicate (b.length-i) 0 ++ (b.take i).reverse,())) (fun i hi=>?_) ?_ rfl (fuel_lt (by omega))
 ·rw [hs i hi _ (by simp;omega)]
  obtain ⟨j,hj⟩:∃j,b.length-i=j+1:=⟨b.length-i-1,by omega⟩
  rw [hj,show b.length-1-i=j by omega,set_rep,show b.length-(i+1)=j by omega,List.take_add_one,List.getElem?_eq_getElem hi,List.reverse_append]
  rfl
 ·rw [he,Nat.sub_self,List.take_length]
  rfl
def restD (m:Nat):List UInt8:=if m=0 then [] else Lib.decDigits m
theorem restD_step {m:Nat} (h:m≠0):restD m=restD (m / 10) ++ [UInt8.ofNat (48+m % 10)]:=by
 unfold restD
 rw [if_neg h]
 by_cases h10:m<10
 ·rw [if_pos (by omega),Lib.decDigits_one h10,Nat.mod_eq_of_lt h10];rfl
 ·rw [if_neg (by omega),dec_big h10]
section
variable (n:Nat)
theorem r1print_e (l:List Nat) (hd:Dig l) (hl:l.length≤1048600):EF fuel (n+2) 68 [vN l] gS=some (decK (val l),()):=by
 refine (ref01_Print_m (n+1) l).trans ?_
 rw [bind_go (pd1Norm_e (b:=true) n l (capD_ok hd hl))]
 dsimp only
 have hlen:=limbsK_mono (Nat.le_refl (val l)) hd
 by_cases h0:val l=0
 ·rw [show (((limbsK (val l)).length:Int) == 0)=true by rw [beq_iff_eq];have:=(limbsK_len0 (val l)).2 h0;omega,cond_true,h0]
  rfl
 rw [show (((limbsK (val l)).length:Int) == 0)=false by rw [beq_eq_false_iff_ne];intro e;exact h0 ((limbsK_len0 (val l)).1 (by omega)),cond_false]
 rw [w64 (z:=10*((limbsK (val l)).length:Int)) (by omega) (by omega),mkB_ok (by omega) (by omega) (by omega) (by omega),cond_true]
 refine congrArg (a₂:=some (Ans.ret (decK (val l),()))) unwrapA ?_
 have hD:(Lib.decDigits (val l)).length≤10995116277761:=dec_len (by have:=nlen_val hd;omega)
 refine loopA_inv (R:=denL [tS]) (ts:=[VT.sl 1 VT.byte,tN]) (fun x=>∃m b,x=(b,limbsK m,())∧m≤val l∧restD m ++ b.reverse=Lib.decDigits (val l)) (fun (x:List UInt8 × List Nat × Unit)=>(restD (val x.2.1)).length) (fun x hx=>?_) _ ⟨val l,[],rfl,Nat.le_refl _,by unfold restD;rw [if_neg h0];simp⟩ ?_
 ·obtain ⟨m,b,rfl,hm,hinv⟩:=hx
  have hbl:b.length≤10995116277761:=by
   have:=congrArg List.length hinv
   rw [List.length_append,List.length_reverse]at this
   omega
  dsimp only
  by_cases hm0:m=0
  ·subst hm0
   refine .inl ⟨?_,rfl⟩
   rw [decide_eq_false (show ¬0<((limbsK 0).length:Int)by have:=(limbsK_len0 0).2 rfl;omega),cond_false,mkB_ok (by omega) (by omega) (by omega) (by omega),cond_true]
   have hr:b.reverse=decK (val l):=by rw [decK_eq,←hinv];rfl
   rw [←hr,Int.toNat_natCast]
   refine rev_loop b (by omega) (fun i hi o ho=>?_) (fun o=>?_)
   ·dsimp only
    have e1:IntKind.i64.wrap (IntKind.i64.wrap ((b.length:Int)-1)-(i:Int))=((b.length-1-i:Nat):Int):=by
     rw [w64 (z:=(b.length:Int)-1) (by omega) (by omega),w64 (by omega) (by omega)]
     omega
    have e2:byteR ((b[i].toNat:Nat):Int)=true:=by
     have:=b[i].toNat_lt
     unfold byteR
     rw [decide_eq_true (by omega),decide_eq_true (by omega)];rfl
    rw [dlt hi,cond_true,Int.toNat_natCast,decide_eq_true (show (0:Int)≤(i:Int)by omega),decide_eq_true (show i<b.length from hi),show (Nat.beq 1 1 && (true && true))=true from rfl,cond_true,List.getElem?_eq_getElem hi,Option.bind_some,e1,Int.toNat_natCast,decide_eq_true (show (0:Int)≤((b.length-1-i:Nat):Int)by omega),decide_eq_true (show b.length-1-i<o.length by omega),show (Nat.beq 1 1 && (true && true))=true from rfl,cond_true,List.getElem?_eq_getElem (show b.length-1-i<o.length by omega),Option.bind_some,e2,Bool.and_true,cond_true,w64n (by omega),Int.toNat_natCast,UInt8.ofNat_toNat]
   ·dsimp only
    rw [dge (Nat.le_refl _),cond_false]
  ·have hs:=restD_step hm0
   have hpos:0<(limbsK m).length:=by
    rcases Nat.eq_zero_or_pos (limbsK m).length with h|h
    ·exact absurd ((limbsK_len0 m).1 h) hm0
    ·exact h
   have hml:=limbsK_mono hm hd
   have e1:IntKind.u8.wrap (IntKind.u64.wrap (48+((m % 10:Nat):Int)))=((48+m % 10:Nat):Int):=by
    rw [u64w (z:=48+((m % 10:Nat):Int)) (by omega) (by omega)]
    simp [IntKind.wrap,IntKind.bits,IntKind.signed]
    omega
   have e2:byteR ((48+m % 10:Nat):Int)=true:=by
    unfold byteR
    rw [decide_eq_true (by omega),decide_eq_true (by omega)];rfl
   refine .inr ⟨(b ++ [UInt8.ofNat (48+m % 10)],limbsK (m / 10),()),?_,⟨m / 10,b ++ [UInt8.ofNat (48+m % 10)],rfl,by omega,?_⟩,?_⟩
   ·rw [decide_eq_true (show 0<((limbsK m).length:Int)by omega),cond_true,bind_go (pd1Short_e (b:=true) n (limbsK m) 10 (capD_ok (limbsK_dig m) (by omega)) (by decide))]
    dsimp only
    rw [val_K,show (10:Int).toNat=10 from rfl,e1,e2,Bool.and_true,cond_true,capB_le (by simp only [List.length_cons,List.length_nil];omega),cond_true,Int.toNat_natCast]
   ·rw [List.reverse_append,←hinv,hs]
    simp
   ·show (restD (val (limbsK (m / 10)))).length<(restD (val (limbsK m))).length
    rw [val_K,val_K,hs,List.length_append]
    simp
 ·show (restD (val (limbsK (val l)))).length<fuel
  rw [val_K]
  unfold restD
  rw [if_neg h0]
  exact fuel_lt (by omega)
theorem decK_len {k:Nat} (h:nlen k<1099511627776):(decK k).length≤10995116277761:=by
 rw [decK_eq]
 exact dec_len h
theorem r2print_e (t:Bool) (l:List Nat) (hd:Dig l) (hl:l.length≤1048600):EF fuel (n+3) 69 [.o (.agg [⟨.bool,t⟩,⟨.nat,l⟩])] gS=some (itoaK (sg t (val l)),()):=by
 refine (ref02_Print_m (n+2) t l).trans ?_
 rw [bind_go (pd2Norm_e (b:=true) (n+1) t l (capD_ok hd hl))]
 dsimp only
 have hm:(sg t (val l)).natAbs≤val l:=by rw [sg_abs];exact Nat.le_refl _
 have hml:=limbsK_mono hm hd
 have hn:nlen (sg t (val l)).natAbs<1099511627776:=by
  rw [limbsK_eq]at hml
  have:nlen (sg t (val l)).natAbs≤l.length:=hml
  omega
 have hp:=r1print_e n (limbsK (sg t (val l)).natAbs) (limbsK_dig _) (by omega)
 rw [val_K]at hp
 have hk:=decK_len hn
 unfold itoaK
 by_cases hz:sg t (val l)<0
 ·rw [decide_eq_true hz,cond_true,cond_true,bind_go hp]
  dsimp only
  rw [strB_le (by simp only [List.length_cons,List.length_nil];omega)]
  rfl
 ·rw [decide_eq_false hz,cond_false,cond_false,bind_go hp,show (sg t (val l)).toNat=(sg t (val l)).natAbs by omega]
  rfl
theorem r56number_e (z:Int) (h:in64 z):EF fuel (n+4) 30 [vI z] gS=some (itoaK z,()):=by
 refine (ref56_number_m (n+3) z).trans ?_
 have hl:(limbsK z.natAbs).length≤1048600:=by
  have h2:=nlen_mono (show z.natAbs≤9223372036854775808 by have:=h.1;have:=h.2;omega)
  have e:nlen 9223372036854775808=2:=by decide +kernel
  rw [limbsK_eq]
  show nlen _≤_
  omega
 have p2:=r2print_e n (decide (z<0)) (limbsK z.natAbs) (limbsK_dig _) hl
 rw [val_K,sg_own]at p2
 rw [bind_go (pd2Of_e (b:=true) (n+2) z h.cap),bind_go p2]
 rfl
theorem wi {x lo hi:Int}:(decide (lo≤x) && decide (x≤hi))=!(decide (x<lo) || decide (hi<x)):=by
 by_cases h1:x<lo
 ·rw [decide_eq_true h1,decide_eq_false (show ¬lo≤x by omega)];rfl
 ·rw [decide_eq_false h1,decide_eq_true (show lo≤x by omega)]
  by_cases h2:hi<x
  ·rw [decide_eq_true h2,decide_eq_false (show ¬x≤hi by omega)];rfl
  ·rw [decide_eq_false h2,decide_eq_true (show x≤hi by omega)];rfl
end
end Go.Proofs.YtcggnmddcbhchaaGreatDoor
set_option linter.unusedSimpArgs false
set_option linter.unusedVariables false
namespace Go.Proofs.YtcggnmddcbhchaaGreatDoor
open Go.RowKit Lim
theorem padD_front:∀(i k:Nat),padD (i+1) k=UInt8.ofNat (48+k / 10 ^ i % 10) :: padD i k
 | 0,k=>by
  show padD 0 (k / 10) ++ _=_
  rw [Nat.pow_zero,Nat.div_one]
  rfl
 | i+1,k=>by
  have h:padD (i+1+1) k=padD (i+1) (k / 10) ++ [UInt8.ofNat (48+k % 10)]:=rfl
  rw [h,padD_front i (k / 10),Nat.div_div_eq_div_mul,←Nat.pow_succ']
  rfl
theorem rep_eq (k:Nat):Lib.repeatL [48] k=List.replicate k 48:=by
 induction k with
 | zero=>rfl
 | succ k ih=>rw [List.replicate_succ,←ih];rfl
theorem padT_padD {k w:Nat} (h:k<10 ^ (w+1)):padT (k:Int) ((w+1:Nat):Int)=padD (w+1) k:=by
 rw [padD_eq w k h,←Lib.decDigits_length,←rep_eq]
 unfold padT itoaK
 rw [decide_eq_false (by omega),cond_false,Int.toNat_natCast,decK_eq]
 congr 2
 unfold maxI2
 split <;> omega
theorem tmod10 (d:Nat):Int.tmod (d:Int) 10=((d % 10:Nat):Int):=by
 rw [Int.tmod_eq_emod_of_nonneg (by omega)];omega
theorem tdiv10 (d:Nat):Int.tdiv (d:Int) 10=((d / 10:Nat):Int):=by
 rw [Int.tdiv_eq_ediv_of_nonneg (by omega)];omega
theorem natw {d:Nat} (h:d<9223372036854775807):IntKind.i64.wrap (d:Int)=d:=w64 (by omega) (by omega)
section
variable (n:Nat)
theorem digits_e (k w:Nat) (h:k<10 ^ (w+1)) (hk:k<9223372036854775807) (hw:w≤20):EF fuel (n+1) 66 [vI (k:Int),vI ((w+1:Nat):Int)] gS=some (padT (k:Int) ((w+1:Nat):Int),()):=by
 rw [padT_padD h]
 refine (ref09_digits_m n (k:Int) ((w+1:Nat):Int)).trans ?_
 refine congrArg (a₂:=some (Ans.ret (padD (w+1) k,()))) unwrapA ?_
 have hk0:(((k / 10 ^ 0:Nat)):Int)=(k:Int):=by rw [Nat.pow_zero,Nat.div_one]
 rw [←hk0]
 refine loopA_range (R:=denL [tS]) (ts:=[tI,tS,tI]) (N:=w+1) (fun i=>((i:Int),padD i k,((k / 10 ^ i:Nat):Int),())) (fun i hi=>?_) ?_ rfl (fuel_lt (by omega))
 ·dsimp only
  have hq:k / 10 ^ i≤k:=Nat.div_le_self _ _
  have e0:Int.tmod ((k / 10 ^ i:Nat):Int) 10=((k / 10 ^ i % 10:Nat):Int):=tmod10 _
  have e3:Int.tdiv ((k / 10 ^ i:Nat):Int) 10=((k / 10 ^ (i+1):Nat):Int):=by
   rw [tdiv10,Nat.pow_succ,←Nat.div_div_eq_div_mul]
  have hm:k / 10 ^ i % 10<10:=Nat.mod_lt _ (by omega)
  have hq2:k / 10 ^ (i+1)≤k:=Nat.div_le_self _ _
  rw [e0,e3]
  have e1:IntKind.u8.wrap (IntKind.i64.wrap (48+((k / 10 ^ i % 10:Nat):Int)))=((48+k / 10 ^ i % 10:Nat):Int):=by
   rw [w64 (z:=48+((k / 10 ^ i % 10:Nat):Int)) (by omega) (by omega)]
   generalize k / 10 ^ i % 10=d at *
   simp [IntKind.wrap,IntKind.bits,IntKind.signed]
   omega
  have e2:byteR ((48+k / 10 ^ i % 10:Nat):Int)=true:=by
   unfold byteR
   rw [decide_eq_true (by omega),decide_eq_true (by omega)];rfl
  rw [dlt hi,cond_true,e1,e2,Bool.and_true,cond_true,strB_s (by rw [padD_length];simp only [List.length_cons,List.length_nil];omega),cond_true,w64n (by omega),natw (Nat.lt_of_le_of_lt hq2 hk),Int.toNat_natCast,padD_front]
  rfl
 ·dsimp only
  rw [dge (Nat.le_refl _),cond_false]
end
end Go.Proofs.YtcggnmddcbhchaaGreatDoor
set_option linter.unusedSimpArgs false
set_option linter.unusedVariables false
namespace Go.Proofs.YtcggnmddcbhchaaGreatDoor
open Go.RowKit Lim
def r13:List UInt8→Nat→Nat→Bool
 | [],sg,sz=>decide (0<sz) && decide (sg≤5)
 | c :: r,sg,sz=>if c.toNat=46 then (if sz=0 then false else r13 r (sg+1) 0) else if okByte c=false then false else if 8<sz+1 then false else r13 r sg (sz+1)
def r13V (s:List UInt8):Bool:=!(decide ((24:Int)<(s.length:Nat))) && r13 s 1 0
theorem index_miss {s:List UInt8} (h:(46:UInt8) ∉ s):Lib.index s [46] = -1:=by
 induction s with
 | nil=>rfl
 | cons c s ih =>
  simp only [List.mem_cons,not_or]at h
  unfold Lib.index
  have:([46]:List UInt8).isPrefixOf (c :: s)=false:=by
   simp [List.isPrefixOf]
   exact h.1
  rw [this,ih h.2]
  rfl
theorem index_at {a b:List UInt8} (h:(46:UInt8) ∉ a):Lib.index (a ++ 46 :: b) [46]=(a.length:Int):=by
 induction a with
 | nil =>
  rw [List.nil_append]
  unfold Lib.index
  simp [List.isPrefixOf]
 | cons c a ih =>
  simp only [List.mem_cons,not_or]at h
  rw [List.cons_append]
  unfold Lib.index
  have:([46]:List UInt8).isPrefixOf (c :: (a ++ 46 :: b))=false:=by
   simp [List.isPrefixOf]
   exact h.1
  rw [this,ih h.2]
  have h2:((a.length:Int) == -1)=false:=by rw [beq_eq_false_iff_ne];omega
  simp [h2]
theorem cut_miss {s:List UInt8} (h:(46:UInt8) ∉ s):Lib.cut s [46]=(s,[],false):=by
 unfold Lib.cut
 rw [index_miss h]
 rfl
theorem cut_at {a b:List UInt8} (h:(46:UInt8) ∉ a):Lib.cut (a ++ 46 :: b) [46]=(a,b,true):=by
 unfold Lib.cut
 rw [index_at h,if_pos (by omega)]
 simp
theorem cut_cases (s:List UInt8):((46:UInt8) ∉ s)∨∃a b,s=a ++ 46 :: b∧(46:UInt8) ∉ a:=by
 induction s with
 | nil=>left;simp
 | cons c s ih =>
  by_cases hc:c=46
  ·exact .inr ⟨[],s,by rw [hc];rfl,by simp⟩
  ·rcases ih with h|⟨a,b,rfl,h⟩
   ·left;simp [h];exact fun hq=>hc hq.symm
   ·exact .inr ⟨c :: a,b,rfl,by simp [h];exact fun hq=>hc hq.symm⟩
theorem cut_point (s:List UInt8):Lib.cut (46 :: s) [46]=([],s,true):=cut_at (a:=[]) (by simp)
theorem cut_cons {c:UInt8} (h:c≠46) (s:List UInt8):Lib.cut (c :: s) [46]=(c :: (Lib.cut s [46]).1,(Lib.cut s [46]).2.1,(Lib.cut s [46]).2.2):=by
 rcases cut_cases s with hs|⟨a,b,rfl,hs⟩
 ·rw [cut_miss hs,cut_miss (by simp [hs];exact fun hq=>h hq.symm)]
 ·rw [cut_at hs,←List.cons_append,cut_at (by simp [hs];exact fun hq=>h hq.symm)]
theorem r13_many:∀(s:List UInt8) (sg sz:Nat),5<sg→r13 s sg sz=false
 | [],sg,sz,h=>by simp [r13];omega
 | c :: s,sg,sz,h=>by
  unfold r13
  rw [r13_many s (sg+1) 0 (by omega),r13_many s sg (sz+1) h]
  simp
def segH (sz:Nat) (h:List UInt8):Bool:=h.all okByte && (decide (1≤sz+h.length) && decide (sz+h.length≤8))
theorem segH_zero (h:List UInt8):segH 0 h=segB h:=by
 unfold segH segB
 congr 2
 ·apply decide_eq_decide.2;omega
 ·apply decide_eq_decide.2;omega
theorem segH_cons (sz:Nat) (c:UInt8) (h:List UInt8):segH sz (c :: h)=(okByte c && segH (sz+1) h):=by
 unfold segH
 have e1:decide (1≤sz+(c :: h).length)=decide (1≤sz+1+h.length):=decide_eq_decide.2 (by simp only [List.length_cons];omega)
 have e2:decide (sz+(c :: h).length≤8)=decide (sz+1+h.length≤8):=decide_eq_decide.2 (by simp only [List.length_cons];omega)
 rw [e1,e2,List.all_cons,Bool.and_assoc]
theorem point_bad {c:UInt8} (h:c.toNat=46):c=46:=UInt8.toNat_inj.1 h
def segsB (r:List (List UInt8) × Bool) (sz:Nat):Bool:=r.2 && (match r.1 with|[]=>false|h :: t=>segH sz h && t.all segB)
theorem r13_segs:∀(s:List UInt8) (n sg sz:Nat),sg+n=5→sz≤8→r13 s sg sz=segsB (segL (n+1) s) sz
 | [],n,sg,sz,h1,h2=>by
  have e:Lib.cut [] [46]=(([]:List UInt8),[],false):=cut_miss (by simp)
  unfold segL
  rw [e]
  have q1:decide (sg≤5)=true:=by simp;omega
  have q2:decide (sz≤8)=true:=by simp [h2]
  have q3:decide (0<sz)=decide (1≤sz):=decide_eq_decide.2 (by omega)
  simp only [r13,segsB,segH,q1,q2,q3,Bool.false_eq_true,if_false,List.all_nil,List.length_nil,Nat.add_zero,Bool.and_true,Bool.true_and]
 | c :: s,n,sg,sz,h1,h2=>by
  unfold r13
  by_cases hc:c.toNat=46
  ·rw [if_pos hc,point_bad hc]
   unfold segL
   rw [cut_point]
   simp only [if_true,segsB,segH]
   by_cases h0:sz=0
   ·rw [if_pos h0]
    simp [h0]
   ·rw [if_neg h0]
    cases n with
    | zero=>rw [r13_many s (sg+1) 0 (by omega)];simp [segL]
    | succ m =>
     rw [r13_segs s m (sg+1) 0 (by omega) (by omega)]
     unfold segsB
     have hne:(segL (m+1) s).1≠[]:=by unfold segL;split <;> simp
     cases hs:(segL (m+1) s).1 with
     | nil=>exact absurd hs hne
     | cons a t =>
      simp only [segH_zero,List.all_cons,List.all_nil,List.length_nil,Nat.add_zero,Bool.true_and]
      have:decide (1≤sz)=true:=by simp;omega
      have h8:decide (sz≤8)=true:=by simp [h2]
      rw [this,h8]
      simp
  ·rw [if_neg hc]
   have hc':c≠46:=fun h=>hc (by rw [h];rfl)
   have e:segsB (segL (n+1) (c :: s)) sz=(segsB (segL (n+1) s) (sz+1) && okByte c):=by
    unfold segL
    rw [cut_cons hc']
    cases (Lib.cut s [46]).2.2 with
    | true =>
     simp only [if_true,segsB,segH_cons]
     cases okByte c <;> simp
    | false =>
     simp only [Bool.false_eq_true,if_false,segsB,segH_cons]
     cases okByte c <;> simp
   rw [e]
   cases ho:okByte c with
   | false=>simp
   | true =>
    rw [if_neg (by simp),Bool.and_true]
    by_cases h8:8<sz+1
    ·rw [if_pos h8]
     unfold segsB segH
     symm
     cases (segL (n+1) s).1 with
     | nil=>simp
     | cons a t =>
      have:decide (sz+1+a.length≤8)=false:=by simp;omega
      simp [this]
    ·rw [if_neg h8]
     exact r13_segs s n sg (sz+1) h1 (by omega)
theorem content_r13 (s:List UInt8):contentB s=r13V s:=by
 unfold contentB r13V
 rw [r13_segs s 4 1 0 (by omega) (by omega)]
 unfold segsB
 have hne:(segL 5 s).1≠[]:=by unfold segL;split <;> simp
 cases hs:(segL 5 s).1 with
 | nil=>exact absurd hs hne
 | cons a t=>simp only [List.all_cons,segH_zero]
theorem loopA_app {R:Type} {dp:Nat} {t:VT} {step:denL [tI,t]→Option (Ans R)} {n:Nat} {α:Type} (ht:t.den=List α) (L:List α) (g:List α→Ans R) (h1:∀k (hk:k<L.length),step ((k:Int),cast ht.symm (L.take k),())=some (.cont dp [tI,t] (((k+1:Nat):Int),cast ht.symm (L.take k ++ [L[k]]),())))
  (h2:step ((L.length:Int),cast ht.symm L,())=some (g L)∧(g L).out dp=true) (hn:L.length<n):loopA dp [tI,t] step n (0,cast ht.symm [],())=some (g L):=by
 have e:=loopA_range (dp:=dp) (ts:=[tI,t]) (step:=step) (N:=L.length) (n:=n) (a:=g L) (fun k=>((k:Int),cast ht.symm (L.take k),())) (fun k hk=>by
  refine (h1 k hk).trans ?_
  rw [List.take_add_one,List.getElem?_eq_getElem hk,Option.toList_some]) (by
  rw [List.take_length]
  exact h2.1) h2.2 hn
 simpa using e
theorem r13_step (s:List UInt8) (c:UInt8) (sg sz:Nat):r13 (c :: s) sg sz=if c.toNat=46 then (if sz=0 then false else r13 s (sg+1) 0) else if okByte c=false then false else if 8<sz+1 then false else r13 s sg (sz+1):=rfl
theorem capD_K {k:Nat} (h:nlen k≤1048600):capD (limbsK k)=true:=by
 refine capD_ok (limbsK_dig k) ?_
 rw [limbsK_eq]
 exact h
theorem max_pos {x:Int} (h:0≤x):maxI2 x 0=x:=by unfold maxI2;split <;> omega
section
variable (n:Nat)
theorem r13_e (s:List UInt8):EF fuel (n+1) 160 [vS s] gB=some (contentB s,()):=by
 rw [content_r13]
 refine (ref13_Valid_m n s).trans ?_
 unfold r13V
 by_cases hs:24<s.length
 ·rw [decide_eq_true (show 24<(s.length:Int)by omega),cond_true]
  rfl
 rw [decide_eq_false (show ¬24<(s.length:Int)by omega),cond_false,Bool.not_false,Bool.true_and]
 refine congrArg (a₂:=some (Ans.ret ((r13 s 1 0,()):denL gB.ts))) unwrapA ?_
 refine loopA_list (R:=denL gB.ts) (ts:=[tI,tI,tI,tB]) s (fun k (b:Nat × Nat)=>((k:Int),(b.2:Int),(b.1:Int),false,())) (fun l b=>.ret ((r13 l b.1 b.2,()):denL gB.ts)) (fun k b=>b.1≤k+1∧b.2≤k) (fun k hk b hb=>?_) (fun b hb=>?_) (1,0) ⟨by omega,by omega⟩ (fuel_lt (by omega))
 ·obtain ⟨sg,sz⟩:=b
  dsimp only at hb ⊢
  rw [dlt hk,cond_true]
  rw [ix_lt hk]
  simp only [Option.bind_some]
  generalize s[k]=c
  rw [r13_step,ok_step,w64n (by omega),w64n (by omega),w64n (by omega)]
  by_cases h1:c.toNat=46
  ·rw [show ((c.toNat:Int) == 46)=true by rw [h1];rfl,cond_true,if_pos h1]
   by_cases h2:sz=0
   ·rw [if_pos h2,h2]
    exact .inl ⟨rfl,rfl⟩
   ·rw [if_neg h2,show ((sz:Int) == 0)=false by rw [beq_eq_false_iff_ne];omega,cond_false]
    exact .inr ⟨(sg+1,0),rfl,by dsimp only;omega,rfl⟩
  ·rw [show ((c.toNat:Int) == 46)=false by rw [beq_eq_false_iff_ne];omega,cond_false,if_neg h1]
   cases okByte c
   ·exact .inl ⟨rfl,rfl⟩
   rw [cond_true,if_neg (by decide)]
   by_cases h3:8<sz+1
   ·rw [if_pos h3,decide_eq_true (show (8:Int)<((sz+1:Nat):Int)by omega)]
    exact .inl ⟨rfl,rfl⟩
   ·rw [if_neg h3,decide_eq_false (show ¬(8:Int)<((sz+1:Nat):Int)by omega)]
    exact .inr ⟨(sg,sz+1),rfl,by dsimp only;omega,rfl⟩
 ·obtain ⟨sg,sz⟩:=b
  dsimp only
  rw [dge (Nat.le_refl _),cond_false]
  have e:r13 [] sg sz=(decide (0<sz) && decide (sg≤5)):=rfl
  rw [e,show decide ((0:Int)<(sz:Int))=decide (0<sz)from decide_eq_decide.2 (by omega),show decide ((sg:Int)≤5)=decide (sg≤5)from decide_eq_decide.2 (by omega)]
  cases decide (0<sz) <;> exact ⟨rfl,rfl⟩
theorem row19_e (l:List Int) (c:Nat) (hl:l.length≤1048576) (hc:c≤6):EF fuel (n+1) 161 [vIs l,vI (c:Int)] gI=some ((if l.length≠c then 1 else rowE l 0),()):=by
 refine (ref19_row_m n l (c:Int)).trans ?_
 by_cases h6:l.length=c
 case neg =>
  rw [show ((l.length:Int) != (c:Int))=true from by simpa using fun h=>h6 (by omega),cond_true,if_pos h6];rfl
 rw [show ((l.length:Int) != (c:Int))=false from by rw [h6];simp,cond_false,if_neg (fun h=>h h6)]
 refine congrArg (a₂:=some (Ans.ret ((rowE l 0,()):denL gI.ts))) unwrapA ?_
 refine loopA_list (R:=denL gI.ts) (ts:=[tI,tI,tI]) l (fun j (s:Int)=>((j:Int),s,0,())) (fun l s=>.ret ((rowE l s,()):denL gI.ts)) (fun j s=>0≤s∧s≤1000*(j:Int)) (fun j hj s hs=>?_) (fun s hs=>?_) 0 (by omega) (fuel_lt (by omega))
 ·dsimp only
  rw [dlt hj,cond_true,ix_lt hj,rowE]
  simp only [Option.bind_some]
  generalize l[j]=x
  by_cases c1:x<1
  ·rw [decide_eq_true c1,cond_true,if_pos c1]
   exact .inl ⟨rfl,rfl⟩
  by_cases c2:1000<x
  ·rw [decide_eq_false c1,cond_false,decide_eq_true c2,cond_true,if_neg c1,if_pos c2]
   exact .inl ⟨rfl,rfl⟩
  rw [decide_eq_false c1,cond_false,decide_eq_false c2,cond_false,w64n (by omega),w64 (by omega) (by omega),if_neg c1,if_neg c2]
  exact .inr ⟨s+x,rfl,by omega,rfl⟩
 ·dsimp only
  rw [dge (Nat.le_refl _),cond_false,rowE]
  by_cases c1:s=1000
  ·rw [show (s != 1000)=false by simpa using c1,if_pos c1]
   exact ⟨rfl,rfl⟩
  ·rw [show (s != 1000)=true by simpa using c1,if_neg c1]
   exact ⟨rfl,rfl⟩
theorem model19_e (rows:List (List Int)) (k:Int) (hb:∀r∈rows,r.length≤1048576):EF fuel (n+2) 105 [vM rows,vI k] gI=some (modelE rows k,()):=by
 refine (ref19_Valid_m (n+1) rows k).trans ?_
 unfold modelE
 by_cases h1:k<1
 ·rw [decide_eq_true h1,cond_true,if_pos h1];rfl
 by_cases h2:21<k
 ·rw [decide_eq_false h1,cond_false,decide_eq_true h2,cond_true,if_neg h1,if_pos h2];rfl
 rw [decide_eq_false h1,cond_false,decide_eq_false h2,cond_false,if_neg h1,if_neg h2]
 by_cases h3:(rows.length:Int)=k
 case neg =>
  rw [show ((rows.length:Int) != k)=true from by simpa using h3,if_pos h3];rfl
 rw [show ((rows.length:Int) != k)=false from by simpa using h3,if_neg (fun h=>h h3),cond_false]
 cases hr:rows with
 | nil=>rw [hr]at h3;simp at h3;omega
 | cons r0 l0 =>
 rw [show ix (r0 :: l0) 0=some r0 from rfl]
 simp only [Option.bind_some]
 by_cases h4:r0.length<2
 ·rw [decide_eq_true (show (r0.length:Int)<2 by omega),cond_true,if_pos h4];rfl
 by_cases h5:6<r0.length
 ·rw [decide_eq_false (show ¬(r0.length:Int)<2 by omega),cond_false,decide_eq_true (show (6:Int)<(r0.length:Int)by omega),cond_true,if_neg h4,if_pos h5];rfl
 rw [decide_eq_false (show ¬(r0.length:Int)<2 by omega),cond_false,decide_eq_false (show ¬(6:Int)<(r0.length:Int)by omega),cond_false,if_neg h4,if_neg h5,←hr]
 have hlen:rows.length≤21:=by omega
 clear hr
 subst h3
 generalize r0.length=c at *
 refine congrArg (a₂:=some (Ans.ret ((rowsE c rows,()):denL gI.ts))) unwrapA ?_
 refine loopA_list (R:=denL gI.ts) (ts:=[tI,tI]) rows (fun k (_:Unit)=>((k:Int),0,())) (fun l _=>.ret ((rowsE c l,()):denL gI.ts)) (fun _ _=>True) (fun i hi _ _=>?_) (fun _ _=>?_) () trivial (fuel_lt (by omega))
 ·dsimp only
  rw [dlt hi,cond_true,bind_go (ix_lt hi),bind_go (row19_e n rows[i] c (hb _ (List.getElem_mem hi)) (by omega)),rowsE]
  dsimp only
  generalize rows[i]=r
  by_cases h6:r.length=c
  case neg=>rw [if_pos h6,if_pos h6];exact .inl ⟨rfl,rfl⟩
  rw [if_neg (fun h=>h h6),if_neg (fun h=>h h6)]
  by_cases h7:rowE r 0=0
  ·rw [h7,if_neg (fun h=>h rfl)]
   exact .inr ⟨(),by rw [show ((0:Int) != 0)=false from rfl,cond_false,w64n (by omega)];rfl,trivial,rfl⟩
  ·rw [if_pos h7,show (rowE r 0 != 0)=true by simpa using h7]
   exact .inl ⟨rfl,rfl⟩
 ·dsimp only
  rw [dge (Nat.le_refl _),cond_false]
  exact ⟨rfl,rfl⟩
theorem grid18_e (p w:List Int):EF fuel (n+1) 101 [vG p w] gI=some (gridE p w,()):=by
 rw [ref18_Valid_m n p w]
 unfold gridE
 by_cases h1:21<p.length
 ·rw [decide_eq_true (show (21:Int)<(p.length:Int)by omega),cond_true,if_pos h1];rfl
 rw [decide_eq_false (show ¬(21:Int)<(p.length:Int)by omega),cond_false,if_neg h1]
 cases hp:p with
 | nil=>rfl
 | cons a q =>
 rw [show (((a :: q).length:Int) == 0)=false by rw [beq_eq_false_iff_ne];simp;omega,cond_false]
 dsimp only
 by_cases h2:w.length=(a :: q).length
 case neg =>
  rw [show ((w.length:Int) != ((a :: q).length:Int))=true from by simpa using fun h=>h2 (by simp;omega),cond_true,if_pos h2];rfl
 rw [show ((w.length:Int) != ((a :: q).length:Int))=false from by rw [h2];simp,cond_false,if_neg (fun h=>h h2),←hp]
 rw [←hp]at h2
 have hz:(p.zip w).length=p.length:=by rw [List.length_zip];omega
 have hpos:0<p.length:=by rw [hp];simp
 have ha:∀k,k<q.length→p[k+1]? = q[k]?:=fun k _=>by rw [hp];rfl
 have hq:q.length+1=p.length:=by rw [hp];rfl
 have h0:p[0]=a:=by simp only [hp];rfl
 clear hp
 refine congrArg (a₂:=some (Ans.ret (pairsE (riseE q a) (p.zip w),()))) unwrapA ?_
 refine loopA_list (ts:=[tI,tI]) (p.zip w) (fun k (_:Unit)=>((k:Int),0,())) (fun l _=>.ret (pairsE (riseE q a) l,())) (fun _ _=>True) (fun k hk _ _=>?_) (fun _ _=>?_) () trivial (fuel_lt (by omega))
 ·have hk1:k<p.length:=by omega
  have hk2:k<w.length:=by omega
  dsimp only
  rw [dlt hk1,cond_true,ix_lt hk1,ix_lt hk2,List.getElem_zip,pairsE]
  simp only [Option.bind_some]
  generalize p[k]=u
  generalize w[k]=v
  by_cases c1:u < -1000
  ·rw [decide_eq_true c1,cond_true,if_pos c1]
   exact .inl ⟨rfl,rfl⟩
  by_cases c2:1000<u
  ·rw [decide_eq_false c1,cond_false,decide_eq_true c2,cond_true,if_neg c1,if_pos c2]
   exact .inl ⟨rfl,rfl⟩
  by_cases c3:v<1
  ·rw [decide_eq_false c1,cond_false,decide_eq_false c2,cond_false,decide_eq_true c3,cond_true,if_neg c1,if_neg c2,if_pos c3]
   exact .inl ⟨rfl,rfl⟩
  by_cases c4:1000<v
  ·rw [decide_eq_false c1,cond_false,decide_eq_false c2,cond_false,decide_eq_false c3,cond_false,decide_eq_true c4,cond_true,if_neg c1,if_neg c2,if_neg c3,if_pos c4]
   exact .inl ⟨rfl,rfl⟩
  rw [decide_eq_false c1,cond_false,decide_eq_false c2,cond_false,decide_eq_false c3,cond_false,decide_eq_false c4,cond_false,if_neg c1,if_neg c2,if_neg c3,if_neg c4,w64n (by omega)]
  exact .inr ⟨(),rfl,trivial,rfl⟩
 ·dsimp only
  rw [hz,dge (Nat.le_refl _),cond_false]
  refine ⟨?_,rfl⟩
  refine loopA_list (ts:=[tI,tI]) q (fun k (_:Int)=>(((k+1:Nat):Int),0,())) (fun l b=>.ret (riseE l b,())) (fun k b=>p[k]? = some b) (fun k hk b hb=>?_) (fun b hb=>?_) a (by rw [List.getElem?_eq_getElem hpos,h0]) (fuel_lt (by omega))
  ·have hk1:k+1<p.length:=by omega
   have e:p[k+1]? = some q[k]:=by rw [ha k hk,List.getElem?_eq_getElem hk]
   have e1:IntKind.i64.wrap (((k+1:Nat):Int)-1)=(k:Int):=by rw [w64 (by omega) (by omega)];omega
   dsimp only
   rw [dlt hk1,cond_true,bind_go (ix_get e),e1,bind_go (ix_get hb),riseE]
   by_cases c1:q[k]≤b
   ·rw [decide_eq_true c1,cond_true,if_pos c1]
    exact .inl ⟨rfl,rfl⟩
   ·rw [decide_eq_false c1,cond_false,if_neg c1,w64n (by omega)]
    exact .inr ⟨q[k],rfl,e,rfl⟩
  ·dsimp only
   rw [dge (by omega),cond_false]
   exact ⟨rfl,rfl⟩
theorem find56_e (pool:List PI) (id:Int) (hl:pool.length<1000000):EF fuel (n+1) 49 [vP pool,vI id] gF=some (foundA (findE pool id)):=by
 rw [ref56_find_m n pool id]
 refine congrArg (a₂:=some (Ans.ret (foundA (findE pool id)))) unwrapA ?_
 refine loopA_list (R:=denL gF.ts) (ts:=[tI,tB,tI,tS,tI,tI,tI,tI,tI,tI,VT.sl 1 (VT.sl 1 tI)]) pool (fun i (_:Unit)=>((i:Int),false,0,[],0,0,0,0,0,0,[],())) (fun l _=>.ret (foundA (findE l id))) (fun _ _=>True) (fun i hi _ _=>?_) (fun _ _=>?_) () trivial (fuel_lt (by omega))
 ·dsimp only
  rw [dlt hi,cond_true,bind_go (ix_lt hi)]
  unfold findE
  rw [List.find?_cons]
  cases hc:pool[i].1 == id
  ·exact .inr ⟨(),by rw [cond_false,w64n (by omega)];rfl,trivial,rfl⟩
  ·exact .inl ⟨rfl,rfl⟩
 ·dsimp only
  rw [dge (Nat.le_refl _),cond_false]
  exact ⟨rfl,rfl⟩
theorem within33_e (x lo hi:Int):EF fuel (n+1) 103 [vI x,vI lo,vI hi] [.c .bool]=some (decide (lo≤x) && decide (x≤hi),()):=by
 refine (ref33_within_m n x lo hi).trans ?_
 cases decide (lo≤x) <;> rfl
theorem item33_e (y:PI) (k:Int) (hb:∀r∈y.2.2.2.2.2.2.2.2,r.length≤1048576):EF fuel (n+4) 104 [.o (.agg [⟨.int .i64,y.1⟩,⟨.str,y.2.1⟩,⟨.int .i64,y.2.2.1⟩,⟨.int .i64,y.2.2.2.1⟩,⟨.int .i64,y.2.2.2.2.1⟩,⟨.int .i64,y.2.2.2.2.2.1⟩,⟨.int .i64,y.2.2.2.2.2.2.1⟩,⟨.int .i64,y.2.2.2.2.2.2.2.1⟩,⟨.sl 1 (.sl 1 (.int .i64)),y.2.2.2.2.2.2.2.2⟩]),vI k] [.c (.int .i64)]=some (itE y k,()):=by
 refine (ref33_item_m (n+3) y.1 y.2.1 y.2.2.1 y.2.2.2.1 y.2.2.2.2.1 y.2.2.2.2.2.1 y.2.2.2.2.2.2.1 y.2.2.2.2.2.2.2.1 y.2.2.2.2.2.2.2.2 k).trans ?_
 rw [bind_go (r13_e (n+2) y.2.1),bind_go (within33_e (n+2) y.2.2.1 _ _),bind_go (within33_e (n+2) y.2.2.2.1 _ _),bind_go (within33_e (n+2) y.2.2.2.2.1 _ _),bind_go (within33_e (n+2) y.2.2.2.2.2.1 _ _),bind_go (within33_e (n+2) y.2.2.2.2.2.2.1 _ _),bind_go (within33_e (n+2) y.2.2.2.2.2.2.2.1 _ _),bind_go (model19_e (n+1) y.2.2.2.2.2.2.2.2 k hb)]
 unfold itE
 dsimp only
 generalize modelE y.2.2.2.2.2.2.2.2 k=e
 rw [wi,wi,wi,wi,wi,wi]
 cases contentB y.2.1
 case false=>rfl
 cases decide (y.2.2.1<0)
 case true=>rfl
 cases decide (9999999<y.2.2.1)
 case true=>rfl
 cases decide (y.2.2.2.1<0)
 case true=>rfl
 cases decide (9999999<y.2.2.2.1)
 case true=>rfl
 cases decide (y.2.2.2.2.1<0)
 case true=>rfl
 cases decide (2000<y.2.2.2.2.1)
 case true=>rfl
 cases decide (y.2.2.2.2.2.1<1)
 case true=>rfl
 cases decide (2000<y.2.2.2.2.2.1)
 case true=>rfl
 cases decide (y.2.2.2.2.2.2.1<1)
 case true=>rfl
 cases decide (5<y.2.2.2.2.2.2.1)
 case true=>rfl
 cases decide (y.2.2.2.2.2.2.2.1<0)
 case true=>rfl
 cases decide (10<y.2.2.2.2.2.2.2.1) <;> rfl
theorem check33_e (pool:List PI) (k:Int) (hbp:∀y∈pool,∀r∈y.2.2.2.2.2.2.2.2,r.length≤1048576):EF fuel (n+5) 48 [vP pool,vI k] [.c (.int .i64)]=some (poolE pool k,()):=by
 rw [ref33_Check_m (n+4) pool k]
 unfold poolE
 by_cases h1:18<pool.length
 ·rw [decide_eq_true (show (18:Int)<(pool.length:Int)by omega),cond_true,if_pos h1];rfl
 rw [decide_eq_false (show ¬(18:Int)<(pool.length:Int)by omega),cond_false,if_neg h1]
 refine congrArg (a₂:=some (Ans.ret ((if idsE pool 0=false then 23 else itsE k pool),()))) unwrapA ?_
 refine loopA_list (ts:=[tI,tI]) pool (fun i (_:Int)=>((i:Int),0,())) (fun l b=>.ret ((if idsE l b=false then 23 else itsE k pool),())) (fun i b=>(i=0∧b=0)∨(0<i∧∃y,pool[i-1]? = some y∧b=y.1)) (fun i hi b hb=>?_) (fun b hb=>?_) 0 (.inl ⟨rfl,rfl⟩) (fuel_lt (by omega))
 ·dsimp only
  rw [dlt hi,cond_true,bind_go (ix_lt hi),bind_go (within33_e (n+3) pool[i].1 1 9999999),idsE]
  dsimp only
  rw [show (decide (1≤pool[i].1) && decide (pool[i].1≤9999999))=numB pool[i].1 from rfl]
  cases hn:numB pool[i].1
  ·exact .inl ⟨rfl,rfl⟩
  have hpos:1≤pool[i].1:=by
   unfold numB at hn
   rw [Bool.and_eq_true]at hn
   exact of_decide_eq_true hn.1
  have hnext:IntKind.i64.wrap ((i:Int)+1)=((i+1:Nat):Int):=w64n (by omega)
  have hI:(i+1=0∧pool[i].1=0)∨(0<i+1∧∃y,pool[i+1-1]? = some y∧pool[i].1=y.1):=.inr ⟨by omega,pool[i],by rw [Nat.add_sub_cancel,List.getElem?_eq_getElem hi],rfl⟩
  rw [Bool.not_true,cond_false,if_neg (show ¬(true=false)by decide),hnext]
  rcases hb with ⟨rfl,rfl⟩|⟨h0,y,hy,rfl⟩
  ·rw [decide_eq_false (show ¬(0:Int)<((0:Nat):Int)by omega),cond_false,if_neg (show ¬pool[0].1≤0 by omega)]
   exact .inr ⟨_,rfl,hI,rfl⟩
  ·have e1:IntKind.i64.wrap ((i:Int)-1)=((i-1:Nat):Int):=by rw [w64 (by omega) (by omega)];omega
   rw [decide_eq_true (show (0:Int)<(i:Int)by omega),cond_true,e1,bind_go (ix_get hy)]
   by_cases c1:pool[i].1≤y.1
   ·rw [decide_eq_true c1,cond_true,if_pos c1]
    exact .inl ⟨rfl,rfl⟩
   ·rw [decide_eq_false c1,cond_false,if_neg c1]
    exact .inr ⟨_,rfl,hI,rfl⟩
 ·dsimp only
  rw [dge (Nat.le_refl _),cond_false,idsE,if_neg (show ¬(true=false)by decide)]
  refine ⟨?_,rfl⟩
  refine loopA_list (ts:=[tI,tI]) pool (fun i (_:Unit)=>((i:Int),0,())) (fun l _=>.ret (itsE k l,())) (fun _ _=>True) (fun i hi _ _=>?_) (fun _ _=>?_) () trivial (fuel_lt (by omega))
  ·dsimp only
   rw [dlt hi,cond_true,bind_go (ix_lt hi),bind_go (item33_e n pool[i] k (hbp _ (List.getElem_mem hi))),itsE]
   by_cases c1:itE pool[i] k=0
   ·rw [c1,if_neg (by decide)]
    exact .inr ⟨(),by rw [show ((0:Int) != 0)=false from rfl,cond_false,w64n (by omega)],trivial,rfl⟩
   ·rw [if_pos c1]
    dsimp only
    rw [show (itE pool[i] k != 0)=true by simpa using c1]
    exact .inl ⟨rfl,rfl⟩
  ·dsimp only
   rw [dge (Nat.le_refl _),cond_false]
   exact ⟨rfl,rfl⟩
theorem num26_e (x:Int) (h1:0≤x) (h2:x≤1000000):EF fuel (n+2) 102 [vI x] [.c .nat]=some (gOf x,()):=by
 refine (ref26_number_m (n+1) x).trans ?_
 rw [max_pos h1,u64w h1 (by omega),bind_go (pd1Of_e (b:=true) n x (capU_ok h1 (by omega)))]
 rfl
theorem norm26_e (w:List (List Nat)) (hw:WOK w 1000) (hl:w.length≤1000):EF fuel (n+2) 106 [vW w] [.c (.sl 1 .nat)]=some (w.map (fun a=>limbsK (val a)),()):=by
 refine (ref26_Norm_m (n+1) w).trans ?_
 refine congrArg (a₂:=some (Ans.ret ((w.map (fun a=>limbsK (val a)),()):denL [.sl 1 tN]))) unwrapA ?_
 rw [show (w.length:Int)=((w.map (fun a=>limbsK (val a))).length:Int)by simp]
 refine loopA_app (R:=denL [.sl 1 tN]) (t:=.sl 1 tN) rfl (w.map (fun a=>limbsK (val a))) (fun row=>.ret ((row,()):denL [.sl 1 tN])) (fun k hk=>?_) ?_ (fuel_lt (by simp;omega))
 ·have hk2:k<w.length:=by simpa using hk
  have ha:=hw _ (List.getElem_mem hk2)
  dsimp only [cast]
  rw [dlt hk,cond_true,bind_go (ix_lt hk2),bind_go (pd1Norm_e (b:=true) n w[k] (capD_ok ha.1 (by omega)))]
  dsimp only
  rw [capB_le (by simp;omega),cond_true,w64n (by omega),List.getElem_map]
 ·dsimp only [cast]
  rw [dge (Nat.le_refl _),cond_false]
  exact ⟨rfl,rfl⟩
theorem start26_e (p w:List Int):EF fuel (n+3) 47 [vG p w] [.c (.sl 1 .nat),.c (.int .i64)]=some ((startE p w).1,(startE p w).2,()):=by
 refine (ref26_Start_m (n+2) p w).trans ?_
 rw [bind_go (grid18_e (n+1) p w)]
 dsimp only
 unfold startE
 by_cases h0:gridE p w=0
 case neg=>rw [show (gridE p w != 0)=true by simpa using h0,cond_true,if_neg h0];rfl
 have hg:=grid_ok h0
 have h1:=hg.most
 have h2:=hg.len
 rw [h0,show ((0:Int) != 0)=false from rfl,cond_false,if_pos rfl]
 refine congrArg (a₂:=some (Ans.ret ((w.map gOf,0,()):denL [.sl 1 tN,tI]))) unwrapA ?_
 rw [show (w.length:Int)=((w.map gOf).length:Int)by simp]
 refine loopA_app (R:=denL [.sl 1 tN,tI]) (t:=.sl 1 tN) rfl (w.map gOf) (fun row=>.ret ((row,0,()):denL [.sl 1 tN,tI])) (fun k hk=>?_) ?_ (fuel_lt (by simp;omega))
 ·have hk2:k<w.length:=by simpa using hk
  have hw:=hg.wts k hk2
  dsimp only [cast]
  rw [dlt hk,cond_true,bind_go (ix_lt hk2),bind_go (num26_e n w[k] (by omega) (by omega))]
  dsimp only
  rw [capB_le (by simp;omega),cond_true,w64n (by omega),List.getElem_map]
 ·dsimp only [cast]
  rw [dge (Nat.le_refl _),cond_false]
  exact ⟨rfl,rfl⟩
theorem cats19_e (rows:List (List Int)):EF fuel (n+1) 107 [vM rows] [.c (.int .i64)]=some (cats rows,()):=by
 refine (ref19_Categories_m n rows).trans ?_
 cases rows with
 | nil=>rfl
 | cons r l =>
  rw [show (((r :: l).length:Int) == 0)=false by rw [beq_eq_false_iff_ne];simp;omega,cond_false]
  rfl
theorem upd26_e (w:List (List Nat)) (rows:List (List Int)) (k:Int) (hw:WOK w 1000) (hb:∀r∈rows,r.length≤1048576):EF fuel (n+3) 50 [vW w,vM rows,vI k] [.c (.sl 1 .nat),.c (.int .i64)]=some ((updE w rows k).1,(updE w rows k).2,()):=by
 refine (ref26_Update_m (n+2) w rows k).trans ?_
 unfold updE
 by_cases h1:21<w.length
 ·rw [decide_eq_true (show (21:Int)<(w.length:Int)by omega),cond_true,if_pos h1];rfl
 rw [decide_eq_false (show ¬(21:Int)<(w.length:Int)by omega),cond_false,if_neg h1,bind_go (model19_e n rows w.length hb)]
 dsimp only
 by_cases h2:modelE rows w.length=0
 case neg=>rw [show (modelE rows w.length != 0)=true by simpa using h2,cond_true,if_pos h2];rfl
 have hm:=model_ok h2
 have hlen:=hm.len
 rw [h2,show ((0:Int) != 0)=false from rfl,cond_false,if_neg (by decide),bind_go (norm26_e n w hw (by omega))]
 dsimp only
 by_cases h3:k = -1∨k = -2
 ·rw [if_pos h3]
  rcases h3 with rfl|rfl <;> rfl
 rw [if_neg h3,show (k == -1)=false from by simpa using fun h=>h3 (.inl h),cond_false,show (k == -2)=false from by simpa using fun h=>h3 (.inr h),cond_false]
 by_cases h4:k<0
 ·rw [decide_eq_true h4,cond_true,if_pos h4];rfl
 rw [decide_eq_false h4,cond_false,if_neg h4,bind_go (cats19_e (n+1) rows)]
 dsimp only
 by_cases h5:cats rows≤k
 ·rw [decide_eq_true h5,cond_true,if_pos h5];rfl
 rw [decide_eq_false h5,cond_false,if_neg h5]
 have hzl:((w.zip rows).map (fun x=>mulW x.1 x.2 k)).length=w.length:=by rw [List.length_map,List.length_zip];omega
 refine congrArg (a₂:=some (Ans.ret (((w.zip rows).map (fun x=>mulW x.1 x.2 k),0,()):denL [.sl 1 tN,tI]))) unwrapA ?_
 rw [←hzl]
 refine loopA_app (R:=denL [.sl 1 tN,tI]) (t:=.sl 1 tN) rfl ((w.zip rows).map (fun x=>mulW x.1 x.2 k)) (fun row=>.ret ((row,0,()):denL [.sl 1 tN,tI])) (fun i hi=>?_) ?_ (fuel_lt (by omega))
 ·have hi1:i<w.length:=by omega
  have hi2:i<rows.length:=by omega
  have h6:=hm.row i hi2
  have ha:=hw _ (List.getElem_mem hi1)
  unfold cats at h5
  have hj:k.toNat<rows[i].length:=by omega
  have h7:=hm.val i hi2 k.toNat hj
  have e:rows[i].getD k.toNat 0=rows[i][k.toNat]:=by rw [List.getD_eq_getElem?_getD,List.getElem?_eq_getElem];rfl
  have ek:k=((k.toNat:Nat):Int):=by omega
  have hix:ix rows[i] k=some rows[i][k.toNat]:=(congrArg (ix rows[i]) ek).trans (ix_lt hj)
  dsimp only [cast]
  rw [dlt hi,cond_true,bind_go (ix_lt hi1),bind_go (ix_lt hi2),bind_go hix,bind_go (num26_e n _ (by omega) (by omega))]
  dsimp only
  unfold gOf
  rw [bind_go (pd1Mul_e (b:=true) (n+1) w[i] _ (capD_ok ha.1 (by omega)) (capD_K (Nat.le_trans (nlen_1000 (by omega)) (by omega)))),val_K]
  dsimp only
  rw [capB_le (by simp;omega),cond_true,w64n (by omega),List.getElem_map,List.getElem_zip]
  unfold mulW
  rw [e]
 ·dsimp only [cast]
  rw [dge (Nat.le_refl _),cond_false]
  exact ⟨rfl,rfl⟩
end
end Go.Proofs.YtcggnmddcbhchaaGreatDoor
set_option linter.unusedSimpArgs false
set_option linter.unusedVariables false
namespace Go.Proofs.YtcggnmddcbhchaaGreatDoor
open Go.RowKit Lim
theorem hiB_mono {q h1 h2:Int} {neg:Bool} {mode:Int} (a2:h1≤h2) (h:hiB q h1 neg mode=true):hiB q h2 neg mode=true:=by
 unfold hiB at *
 by_cases hm:mode=1∨mode=2∨mode=3
 ·rw [if_pos hm]at *
  by_cases e1:h1=0
  ·by_cases e2:h2=0
   ·rw [if_pos e2];rwa [if_pos e1]at h
   ·rw [if_neg e2];simp;omega
  ·rw [if_neg e1]at h
   simp at h
   rw [if_neg (by omega)];simp;omega
 ·rw [if_neg hm]at *
  exact h
theorem cmpZ_mono {a b c d:Int} (hb:0<b) (hd:0<d) (h:a*d≤c*b):cmpZ a b≤cmpZ c d:=by
 unfold cmpZ
 by_cases h1:a<b
 ·rw [if_pos h1];split <;> (try split) <;> omega
 ·rw [if_neg h1]
  by_cases h2:b<a
  ·rw [if_pos h2]
   have:d<c:=by
    apply Int.lt_of_not_ge
    intro hc
    have e1:c*b≤d*b:=Int.mul_le_mul_of_nonneg_right hc (by omega)
    have e2:b*d<a*d:=Int.mul_lt_mul_of_pos_right h2 hd
    rw [Int.mul_comm d b]at e1
    omega
   rw [if_neg (by omega),if_pos this]
   omega
  ·rw [if_neg h2]
   have e:a=b:=by omega
   subst e
   have:d≤c:=by
    apply Int.le_of_not_gt
    intro hc
    have e1:c*a<d*a:=Int.mul_lt_mul_of_pos_right hc hb
    rw [Int.mul_comm d a]at e1
    omega
   rw [if_neg (by omega)]
   split <;> omega
theorem rnd_bd (N:Int) (D p:Nat) (mode:Int):N*((10 ^ p:Nat):Int) / (D:Int)≤rndU N D p mode∧rndU N D p mode≤N*((10 ^ p:Nat):Int) / (D:Int)+1:=by
 unfold rndU;split <;> (try split) <;> omega
theorem rndU_mono {N M:Int} {D E:Nat} (hD:0<D) (hE:0<E) (p:Nat) (mode:Int) (h:N*(E:Int)≤M*(D:Int)):rndU N D p mode≤rndU M E p mode:=by
 have hp:(0:Int)<((10 ^ p:Nat):Int):=by have:0<10 ^ p:=Nat.pos_of_ne_zero (by simp);omega
 have b1:=rnd_bd N D p mode
 have b2:=rnd_bd M E p mode
 have hN:N<0 ↔ N*((10 ^ p:Nat):Int) / (D:Int)<0:=by
  rw [Int.ediv_lt_iff_lt_mul (by omega),Int.zero_mul]
  constructor
  ·intro k;exact Int.mul_neg_of_neg_of_pos k hp
  ·intro k
   apply Int.lt_of_not_ge
   intro k2
   have:=Int.mul_nonneg k2 (Int.le_of_lt hp)
   omega
 have hM:M<0 ↔ M*((10 ^ p:Nat):Int) / (E:Int)<0:=by
  rw [Int.ediv_lt_iff_lt_mul (by omega),Int.zero_mul]
  constructor
  ·intro k;exact Int.mul_neg_of_neg_of_pos k hp
  ·intro k
   apply Int.lt_of_not_ge
   intro k2
   have:=Int.mul_nonneg k2 (Int.le_of_lt hp)
   omega
 have hXY:N*((10 ^ p:Nat):Int)*(E:Int)≤M*((10 ^ p:Nat):Int)*(D:Int):=by
  have:=Int.mul_le_mul_of_nonneg_right h (Int.le_of_lt hp)
  rw [Int.mul_right_comm N,Int.mul_right_comm M]
  exact this
 unfold rndU at b1 b2 ⊢
 generalize N*((10 ^ p:Nat):Int)=X at *
 generalize M*((10 ^ p:Nat):Int)=Y at *
 have e1:=Int.mul_ediv_add_emod X (D:Int)
 have e2:=Int.mul_ediv_add_emod Y (E:Int)
 have r1:=Int.emod_nonneg X (show (D:Int)≠0 by omega)
 have r2:=Int.emod_nonneg Y (show (E:Int)≠0 by omega)
 have s1:=Int.emod_lt_of_pos X (show (0:Int)<D by omega)
 have s2:=Int.emod_lt_of_pos Y (show (0:Int)<E by omega)
 generalize X / (D:Int)=q1 at *
 generalize Y / (E:Int)=q2 at *
 generalize X % (D:Int)=u at *
 generalize Y % (E:Int)=v at *
 by_cases hq:q1<q2
 ·omega
 ·have hge:q2≤q1:=by omega
  have k1:(q1-q2)*((D:Int)*(E:Int))+u*(E:Int)≤v*(D:Int):=by
   rw [←e1,←e2]at hXY
   grind
  have k2:v*(D:Int)<(D:Int)*(E:Int):=by
   rw [Int.mul_comm v]
   exact Int.mul_lt_mul_of_pos_left s2 (by omega)
  have k3:0≤u*(E:Int):=Int.mul_nonneg r1 (by omega)
  have hq0:q1=q2:=by
   apply Int.le_antisymm _ hge
   apply Int.le_of_not_gt
   intro hc
   have k4:1*((D:Int)*(E:Int))≤(q1-q2)*((D:Int)*(E:Int)):=Int.mul_le_mul_of_nonneg_right (by omega) (Int.mul_nonneg (by omega) (by omega))
   omega
  subst hq0
  have huv:u*(E:Int)≤v*(D:Int):=by
   have:(q1-q1)*((D:Int)*(E:Int))=0:=by rw [Int.sub_self,Int.zero_mul]
   omega
  by_cases hu:u=0
  ·rw [if_pos hu];omega
  ·rw [if_neg hu]
   have hv:v≠0:=by
    intro hv
    rw [hv,Int.zero_mul]at huv
    have:0<u*(E:Int):=Int.mul_pos (by omega) (by omega)
    omega
   rw [if_neg hv]at b2 ⊢
   have hneg:decide (N<0)=decide (M<0):=by rw [decide_eq_decide,hN,hM]
   rw [←hneg]at b2 ⊢
   by_cases hh:hiB q1 (cmpZ (u+u) (D:Int)) (decide (N<0)) mode=true
   ·have hc:cmpZ (u+u) (D:Int)≤cmpZ (v+v) (E:Int):=cmpZ_mono (by omega) (by omega) (by rw [Int.add_mul,Int.add_mul];omega)
    rw [if_pos hh,if_pos (hiB_mono hc hh)]
    omega
   ·rw [if_neg hh]
    split <;> omega
structure Eqv (n:Int) (d:Nat) (x:Int) (y:Nat):Prop where
 dp:0<d
 yp:0<y
 e:n*(y:Int)=x*(d:Int)
theorem Eqv.refl (n:Int) {d:Nat} (h:0<d):Eqv n d n d:=⟨h,h,rfl⟩
theorem Eqv.norm (z:Int) {d:Nat} (h:0<d):Eqv (rn z d) (rd z d) z d:=⟨rd_pos z h,h,rn_mul z d⟩
theorem Eqv.trans {n x p:Int} {d y q:Nat} (h:Eqv n d x y) (k:Eqv x y p q):Eqv n d p q:=by
 refine ⟨h.dp,k.yp,?_⟩
 have h1:=h.e
 have h2:=k.e
 have hy:(y:Int)≠0:=by have:=h.yp;omega
 refine Int.eq_of_mul_eq_mul_right hy ?_
 calc n*(q:Int)*y=n*(y:Int)*q:=by grind
  _=x*(q:Int)*d:=by rw [h1];grind
  _=p*(d:Int)*y:=by rw [h2];grind
theorem Eqv.add {n x n' x':Int} {d y d' y':Nat} (h:Eqv n d x y) (k:Eqv n' d' x' y'):Eqv (n*(d':Int)+n'*(d:Int)) (d*d') (x*(y':Int)+x'*(y:Int)) (y*y'):=by
 refine ⟨Nat.mul_pos h.dp k.dp,Nat.mul_pos h.yp k.yp,?_⟩
 have h1:=h.e
 have h2:=k.e
 rw [Int.natCast_mul,Int.natCast_mul]
 have e1:(n*(d':Int)+n'*(d:Int))*((y:Int)*y')=n*y*(d'*y')+n'*y'*(d*y):=by grind
 have e2:(x*(y':Int)+x'*(y:Int))*((d:Int)*d')=x*d*(d'*y')+x'*d'*(d*y):=by grind
 rw [e1,e2,h1,h2]
theorem cmpZ_scale {k:Int} (hk:0<k) (a b:Int):cmpZ (a*k) (b*k)=cmpZ a b:=by
 unfold cmpZ
 by_cases h:a<b
 ·rw [if_pos h,if_pos (Int.mul_lt_mul_of_pos_right h hk)]
 ·have h1:¬a*k<b*k:=fun hc=>h (Int.lt_of_mul_lt_mul_right hc (Int.le_of_lt hk))
  rw [if_neg h,if_neg h1]
  by_cases h2:b<a
  ·rw [if_pos h2,if_pos (Int.mul_lt_mul_of_pos_right h2 hk)]
  ·have h3:¬b*k<a*k:=fun hc=>h2 (Int.lt_of_mul_lt_mul_right hc (Int.le_of_lt hk))
   rw [if_neg h2,if_neg h3]
theorem Eqv.cmp {n x n' x':Int} {d y d' y':Nat} (h:Eqv n d x y) (k:Eqv n' d' x' y'):cmpZ (n*(d':Int)) (n'*(d:Int))=cmpZ (x*(y':Int)) (x'*(y:Int)):=by
 have p1:(0:Int)<(y:Int)*y':=Int.mul_pos (by have:=h.yp;omega) (by have:=k.yp;omega)
 have p2:(0:Int)<(d:Int)*d':=Int.mul_pos (by have:=h.dp;omega) (by have:=k.dp;omega)
 rw [←cmpZ_scale p1,←cmpZ_scale p2 (x*(y':Int))]
 have h1:=h.e
 have h2:=k.e
 have e1:n*(d':Int)*((y:Int)*y')=n*y*(d'*y'):=by grind
 have e2:x*(y':Int)*((d:Int)*d')=x*d*(d'*y'):=by grind
 have e3:n'*(d:Int)*((y:Int)*y')=n'*y'*(d*y):=by grind
 have e4:x'*(y:Int)*((d:Int)*d')=x'*d'*(d*y):=by grind
 rw [e1,e2,e3,e4,h1,h2]
theorem ten_pos (p:Nat):(0:Int)<((10 ^ p:Nat):Int):=by have:0<10 ^ p:=Nat.pos_of_ne_zero (by simp);omega
theorem rndU_eqv {N M:Int} {D E:Nat} (h:Eqv N D M E) (p:Nat) (mode:Int):rndU N D p mode=rndU M E p mode :=
 Int.le_antisymm (rndU_mono h.dp h.yp p mode (Int.le_of_eq h.e)) (rndU_mono h.yp h.dp p mode (Int.le_of_eq h.e.symm))
theorem rndU_scale (N:Int) (D p:Nat) (mode:Int):rndU N D p mode=rndU (N*((10 ^ p:Nat):Int)) D 0 mode:=by
 have hp:=ten_pos p
 have h1:decide (N*((10 ^ p:Nat):Int)<0)=decide (N<0):=by
  refine decide_eq_decide.2 ⟨fun h=>?_,fun h=>Int.mul_neg_of_neg_of_pos h hp⟩
  by_cases h1:N<0
  ·exact h1
  ·have:=Int.mul_nonneg (show 0≤N by omega) (Int.le_of_lt hp)
   omega
 have h2:N*((10 ^ p:Nat):Int)*((10 ^ 0:Nat):Int)=N*((10 ^ p:Nat):Int):=by simp
 unfold rndU
 rw [h1,h2]
theorem rnd_plain {z:Int} {d p:Nat} {X R:Int} {E G:Nat} (mode:Int) (hx:Eqv X E (pz z d*((10 ^ p:Nat):Int)) (pd d)) (hr:Eqv R G (X-X / (E:Int)*(E:Int)) E) :
  rndU (rn (pz z d) (pd d)) (rd (pz z d) (pd d)) p mode=if (if R=0 then false else hiB (X / (E:Int)) (cmpZ (R*2) G) (decide (X<0)) mode) then X / (E:Int)+1 else X / (E:Int):=by
 rw [rndU_eqv (Eqv.norm (pz z d) (pd_pos d)),rndU_scale,←rndU_eqv hx]
 have hm:X-X / (E:Int)*(E:Int)=X % (E:Int):=by have:=Int.mul_ediv_add_emod X (E:Int);rw [Int.mul_comm]at this;omega
 rw [hm]at hr
 have hE:=hx.dp
 have h2:=hr.cmp (Eqv.refl 1 (show 0<2 by omega))
 rw [Int.one_mul,Int.one_mul]at h2
 have h3:X % (E:Int)*((2:Nat):Int)=X % (E:Int)+X % (E:Int):=by omega
 have h4:R*((2:Nat):Int)=R*2:=rfl
 rw [h3,h4]at h2
 have h5:R=0 ↔ X % (E:Int)=0:=by
  have he:=hr.e
  constructor
  ·intro h
   rw [h,Int.zero_mul]at he
   rcases Int.mul_eq_zero.1 he.symm with h6|h6
   ·exact h6
   ·have:=hr.dp;omega
  ·intro h
   rw [h,Int.zero_mul]at he
   rcases Int.mul_eq_zero.1 he with h6|h6
   ·exact h6
   ·omega
 unfold rndU
 have h6:X*((10 ^ 0:Nat):Int)=X:=by simp
 rw [h6,h2]
 by_cases h0:R=0
 ·rw [if_pos (h5.1 h0),if_pos h0];simp
 ·rw [if_neg (fun h=>h0 (h5.2 h)),if_neg h0]
theorem sub_eqv (X:Int) {D:Nat} (Y:Int) {E:Nat} (hD:0<D) (hE:0<E):Eqv (subN X D Y E) (subM X D Y E) (X*(E:Int)-Y*(D:Int)) (D*E):=by
 have e1:=Eqv.norm (-Y) hE
 have e2:=Eqv.norm (X*(rd (-Y) E:Int)+rn (-Y) E*(D:Int)) (Nat.mul_pos hD e1.dp)
 have e3:=(Eqv.refl X hD).add e1
 have e4:=e2.trans e3
 rw [Int.neg_mul,←Int.sub_eq_add_neg]at e4
 exact e4
theorem sub_len (X:Int) (D:Nat) (Y:Int) (E:Nat):nlen (subN X D Y E).natAbs≤nlen X.natAbs+nlen Y.natAbs+nlen D+nlen E+1∧nlen (subM X D Y E)≤nlen D+nlen E:=by
 have h1:=nlen_rnz (-Y) E
 rw [Int.natAbs_neg]at h1
 have h2:=nlen_rnz (X*(rd (-Y) E:Int)+rn (-Y) E*(D:Int)) (D*rd (-Y) E)
 have h3:=nlen_mulZ X (rd (-Y) E:Int)
 have h4:=nlen_mulZ (rn (-Y) E) (D:Int)
 have h5:=nlen_addZ (X*(rd (-Y) E:Int)) (rn (-Y) E*(D:Int))
 have h6:=nlen_mul D (rd (-Y) E)
 rw [Int.natAbs_natCast]at h3 h4
 unfold subN subM
 omega
abbrev vQN (N:Int) (D:Nat):V:=.o (.agg [⟨.bool,decide (N<0)⟩,⟨.nat,limbsK N.natAbs⟩,⟨.nat,limbsK D⟩])
theorem capDK {k:Nat} (h:nlen k≤1000000):capD (limbsK k)=true:=capD_K (by omega)
section
variable (n:Nat)
theorem znorm2 (z:Int) (h:nlen z.natAbs≤1000000):EF fuel (n+1) 115 [vZ z] gZ=some (decide (z<0),limbsK z.natAbs,()):=by
 have:=pd2Norm_e (b:=true) n (decide (z<0)) (limbsK z.natAbs) (capDK h)
 simp only [val_K,sg_own]at this
 exact this
theorem zmake2 (a:List Nat) (h:capD a=true):EF fuel (n+1) 135 [vB false,vN a] gZ=some (decide ((val a:Int)<0),limbsK (val a:Int).natAbs,()):=pd2Make_e (b:=true) n false a h
theorem zmul2 (x y:Int) (hx:nlen x.natAbs≤1000000) (hy:nlen y.natAbs≤1000000):EF fuel (n+1) 165 [vZ x,vZ y] gZ=some (decide (x*y<0),limbsK (x*y).natAbs,()):=by
 have:=pd2Mul_e (b:=true) n (decide (x<0)) (limbsK x.natAbs) (decide (y<0)) (limbsK y.natAbs) (capDK hx) (capDK hy)
 simp only [val_K,sg_own]at this
 exact this
theorem zadd2 (x y:Int) (hx:nlen x.natAbs≤1000000) (hy:nlen y.natAbs≤1000000):EF fuel (n+1) 119 [vZ x,vZ y] gZ=some (decide (x+y<0),limbsK (x+y).natAbs,()):=by
 have:=pd2Add_e (b:=true) n (decide (x<0)) (limbsK x.natAbs) (decide (y<0)) (limbsK y.natAbs) (capDK hx) (capDK hy)
 simp only [val_K,sg_own]at this
 exact this
theorem qsign (N:Int) {D:Nat} (hD:0<D) (h1:nlen N.natAbs≤1000000) (h2:nlen D≤1000000):EF fuel (n+1) 34 [vQN N D] gI=some (sgnI N,()):=by
 have:=pd3Sign_e (b:=true) n (decide (N<0)) (limbsK N.natAbs) (limbsK D) (capDK h1) (capDK h2)
 simp only [val_K,sg_own]at this
 rw [pzD hD]at this
 exact this
theorem qfloor (N:Int) {D:Nat} (hD:0<D) (h1:nlen N.natAbs≤1000000) (h2:nlen D≤1000000):EF fuel (n+1) 116 [vQN N D] gZ=some (decide (N / (D:Int)<0),limbsK (N / (D:Int)).natAbs,()):=by
 have:=pd3Floor_e (b:=true) n (decide (N<0)) (limbsK N.natAbs) (limbsK D) (capDK h1) (capDK h2)
 simp only [val_K,sg_own]at this
 rw [pzD hD,pdD hD]at this
 exact this
theorem qmul (N M:Int) {D E:Nat} (hD:0<D) (hE:0<E) (h1:nlen N.natAbs≤1000000) (h2:nlen D≤1000000) (h3:nlen M.natAbs≤1000000) (h4:nlen E≤1000000):EF fuel (n+1) 112 [vQN N D,vQN M E] [.agg [.bool,.nat,.nat]]=some (decide (rn (N*M) (D*E)<0),limbsK (rn (N*M) (D*E)).natAbs,limbsK (rd (N*M) (D*E)),()):=by
 have:=pd3Mul_e (b:=true) n (decide (N<0)) (limbsK N.natAbs) (limbsK D) (decide (M<0)) (limbsK M.natAbs) (limbsK E) (capDK h1) (capDK h2) (capDK h3) (capDK h4)
 simp only [val_K,sg_own]at this
 rw [pzD hD,pdD hD,pzD hE,pdD hE]at this
 exact this
theorem qsub (N M:Int) {D E:Nat} (hD:0<D) (hE:0<E) (h1:nlen N.natAbs≤1000000) (h2:nlen D≤1000000) (h3:nlen M.natAbs≤1000000) (h4:nlen E≤1000000):EF fuel (n+1) 118 [vQN N D,vQN M E] [.agg [.bool,.nat,.nat]]=some (decide (subN N D M E<0),limbsK (subN N D M E).natAbs,limbsK (subM N D M E),()):=by
 have:=pd3Sub_e (b:=true) n (decide (N<0)) (limbsK N.natAbs) (limbsK D) (decide (M<0)) (limbsK M.natAbs) (limbsK E) (capDK h1) (capDK h2) (capDK h3) (capDK h4)
 simp only [val_K,sg_own]at this
 rw [pzD hD,pdD hD,pzD hE,pdD hE]at this
 exact this
theorem qhalf (N:Int) {D:Nat} (hD:0<D) (h1:nlen N.natAbs≤1000000) (h2:nlen D≤1000000):EF fuel (n+1) 168 [vQN N D,.o (.agg [⟨.bool,false⟩,⟨.nat,[Int.toNat 1]⟩,⟨.nat,[Int.toNat 2]⟩])] gI=some (cmpZ (N*2) (D:Int),()):=by
 have:=pd3Cmp_e (b:=true) n (decide (N<0)) (limbsK N.natAbs) (limbsK D) false [Int.toNat 1] [Int.toNat 2] (capDK h1) (capDK h2) rfl rfl
 simp only [val_K,sg_own]at this
 rw [pzD hD,pdD hD]at this
 have e1:pz (sg false (val [Int.toNat 1])) (val [Int.toNat 2])=1:=by decide +kernel
 have e2:pd (val [Int.toNat 2])=2:=by decide +kernel
 rw [e1,e2,Int.one_mul]at this
 exact this
theorem whole4 (t:Bool) (a:List Nat) (z:Int) (hz:sg t (val a)=z) (h:capD a=true):EF fuel (n+2) 113 [.o (.agg [⟨.bool,t⟩,⟨.nat,a⟩])] [.agg [.bool,.nat,.nat]]=some (decide (z<0),limbsK z.natAbs,limbsK 1,()):=by
 refine (ref04_Whole_m (n+1) t a).trans ?_
 rw [bind_go (pd2Norm_e (b:=true) n t a h),hz]
 rfl
theorem power4:EF fuel (n+2) 114 [vI 2] [.c .nat]=some (limbsK 100,()):=by
 refine (ref04_power_m (n+1) 2).trans ?_
 rw [bind_go (pd1Pow_e (b:=true) n [Int.toNat 10] 2 rfl rfl),show val [Int.toNat 10] ^ Int.toNat 2=100 by decide +kernel]
 rfl
theorem up4 (X F R:Int) {E G:Nat} (hE:0<E) (hG:0<G) (h1:nlen X.natAbs≤1000000) (h2:nlen E≤1000000) (h3:nlen R.natAbs≤1000000) (h4:nlen G≤1000000):EF fuel (n+2) 117 [vQN X E,vZ F,vQN R G,vI 1] [.c .bool]=some ((if R=0 then false else hiB F (cmpZ (R*2) (G:Int)) (decide (X<0)) 1),()):=by
 refine (ref04_up_m (n+1) (decide (X<0)) (limbsK X.natAbs) (limbsK E) (decide (F<0)) (limbsK F.natAbs) (decide (R<0)) (limbsK R.natAbs) (limbsK G) 1).trans ?_
 rw [bind_go (qsign n R hG h3 h4)]
 dsimp only
 rw [sgn_zero]
 by_cases h0:R=0
 ·rw [decide_eq_true h0,if_pos h0];rfl
 rw [decide_eq_false h0,cond_false,if_neg h0,bind_go (qsign n X hE h1 h2),bind_go (qhalf n R hG h3 h4)]
 dsimp only
 generalize cmpZ (R*2) (G:Int)=c
 have e:hiB F c (decide (X<0)) 1=if c=0 then decide (F.natAbs % 2=1) else decide (0<c):=by
  unfold hiB
  rw [if_pos (.inl rfl)]
  split
  ·rw [if_pos rfl]
  ·rfl
 rw [e]
 by_cases hc:c=0
 case neg =>
  rw [if_neg hc,show (c != 0)=true by simpa using hc];rfl
 rw [if_pos hc,show (c != 0)=false by simpa using hc,limbsK_eq]
 by_cases hF:F.natAbs=0
 ·rw [hF,limbs_zero];rfl
 ·have e3:limbs F.natAbs=(F.natAbs % 4294967296) :: limbs (F.natAbs / 4294967296):=limbs_pos hF
  have e5:(((F.natAbs % 4294967296:Nat):Int).tmod 2 == 1)=decide (F.natAbs % 2=1):=by
   rw [show ((F.natAbs % 4294967296:Nat):Int).tmod 2=((F.natAbs % 4294967296 % 2:Nat):Int)from rfl]
   have:F.natAbs % 4294967296 % 2=F.natAbs % 2:=by omega
   rw [this]
   by_cases h:F.natAbs % 2=1
   ·rw [h];rfl
   ·simp [h];omega
  rw [e3,show decide ((0:Int)<(((F.natAbs % 4294967296) :: limbs (F.natAbs / 4294967296)).length:Int))=true from decide_eq_true (by rw [List.length_cons];omega),ix_zero]
  rw [←e5]
  rfl
theorem round4 (N:Int) {D:Nat} (hD:0<D) (h1:nlen N.natAbs≤100000) (h2:nlen D≤100000):EF fuel (n+3) 52 [vQN N D,vI 2,vI 1] [.agg [.bool,.nat,.int .i64],.c (.int .i64)]=some (decide (rndU (rn (pz N D) (pd D)) (rd (pz N D) (pd D)) 2 1<0),limbsK (rndU (rn (pz N D) (pd D)) (rd (pz N D) (pd D)) 2 1).natAbs,2,0,()):=by
 have one:nlen 1=1:=nlen_one
 have hun:nlen (100:Int).natAbs≤1:=nlen_1000 (by omega)
 have eX:=Eqv.norm (pz N D*((10 ^ 2:Nat):Int)) (pd_pos D)
 have hN:pz N D*((10 ^ 2:Nat):Int)=N*100:=by rw [pzD hD];rfl
 have lX:=nlen_rnz (N*100) (D*1)
 have lM:=nlen_mulZ N 100
 have HP:=fun R G=>rnd_plain (R:=R) (G:=G) 1 eX
 rw [hN,pdD hD]at eX
 rw [hN,pdD hD]at HP
 rw [Nat.mul_one]at lX
 have K1:=qmul (n+1) N 100 hD (show 0<1 by omega) (by omega) (by omega) (by omega) (by omega)
 rw [Nat.mul_one]at K1
 generalize rn (N*100) D=X at *
 generalize rd (N*100) D=E at *
 have hE:=eX.dp
 have K2:=qfloor (n+1) X hE (by omega) (by omega)
 have lF:nlen (X / (E:Int)).natAbs≤nlen X.natAbs:=nlen_mono (Int.natAbs_ediv_le_natAbs _ _)
 have K3:=znorm2 (n+1) (X / (E:Int)) (by omega)
 have K4:=whole4 n (decide (X / (E:Int)<0)) (limbsK (X / (E:Int)).natAbs) (X / (E:Int)) (by rw [val_K,sg_own]) (capDK (by omega))
 have K5:=qsub (n+1) X (X / (E:Int)) hE (show 0<1 by omega) (by omega) (by omega) (by omega) (by omega)
 have lS:=sub_len X E (X / (E:Int)) 1
 have eR:=sub_eqv X (X / (E:Int)) hE (show 0<1 by omega)
 rw [Nat.mul_one,show X*((1:Nat):Int)=X from Int.mul_one X]at eR
 have K6:=up4 n X (X / (E:Int)) (subN X E (X / (E:Int)) 1) hE eR.dp (by omega) (by omega) (by omega) (by omega)
 rw [pzD hD]at HP
 rw [pzD hD,pdD hD]
 have HQ:=HP _ _ eR
 generalize (if subN X E (X / (E:Int)) 1=0 then false else hiB (X / (E:Int)) (cmpZ (subN X E (X / (E:Int)) 1*2) (subM X E (X / (E:Int)) 1:Int)) (decide (X<0)) 1)=b at *
 rw [HQ]
 have K7:=zadd2 (n+1) (X / (E:Int)) 1 (by omega) (by rw [show (1:Int).natAbs=1 from rfl];omega)
 refine (ref04_Round_m (n+2) (decide (N<0)) (limbsK N.natAbs) (limbsK D) 2 1).trans ?_
 rw [bind_go (show EF fuel (n+2) 110 [vI 2] [.c .bool]=some (true,())from ref04_places_m (n+1) 2)]
 dsimp only
 rw [Bool.not_true,cond_false,bind_go (show EF fuel (n+2) 111 [vI 1] [.c .bool]=some (true,())from ref04_Mode_m (n+1) 1)]
 dsimp only
 rw [Bool.not_true,cond_false,bind_go (power4 n)]
 dsimp only
 rw [bind_go (whole4 n false (limbsK 100) 100 (by rw [val_K];rfl) (capDK (Nat.le_trans (nlen_1000 (k:=100) (by omega)) (by omega))))]
 dsimp only
 rw [bind_go K1]
 dsimp only
 rw [bind_go K2]
 dsimp only
 rw [bind_go K3]
 dsimp only
 rw [bind_go K4]
 dsimp only
 rw [bind_go K5]
 dsimp only
 rw [bind_go K6]
 dsimp only
 cases b with
 | false=>rw [if_neg (by decide)];rfl
 | true =>
  rw [if_pos rfl,cond_true,bind_go (show EF fuel (n+2) 119 [vZ (X / (E:Int)),.o (.agg [⟨.bool,false⟩,⟨.nat,[Int.toNat 1]⟩])] gZ=_ from K7)]
  rfl
end
end Go.Proofs.YtcggnmddcbhchaaGreatDoor
set_option linter.unusedSimpArgs false
set_option linter.unusedVariables false
namespace Go.Proofs.YtcggnmddcbhchaaGreatDoor
open Go.RowKit Lim
def nItm:List UInt8:=[73,84,77]
def ptsZ (p:List Int):List (Bool × List Nat):=p.map (fun x=>(decide (x<0),limbsK x.natAbs))
def shareA (l:List (Int × List Nat)) (b:Int × Int):Ans (denL [.bool,.nat,.nat]):=.ret (decide (rn (b.1+sumF l) (b.2+sumT l).natAbs<0),limbsK (rn (b.1+sumF l) (b.2+sumT l).natAbs).natAbs,limbsK (rd (b.1+sumF l) (b.2+sumT l).natAbs),())
theorem shareA_cons (x:Int × List Nat) (l:List (Int × List Nat)) (b:Int × Int):shareA (x :: l) b=shareA l (b.1+x.1*(val x.2:Int),b.2+(val x.2:Int)):=by
 unfold shareA
 rw [sumT,sumF,←Int.add_assoc,←Int.add_assoc,Int.mul_comm (val x.2:Int) x.1]
section
variable (n:Nat)
theorem prefixI:EF fuel (n+1) 65 [vI 1] gS=some (nItm,()):=ref09_prefix_m n 1
theorem r09checkI (c:Int):EF fuel (n+2) 64 [vI 1,vI c] [.c (.int .i64),.c (.int .i64)]=some (bif decide (c<1) then (0,3,()) else bif decide (9999999<c) then (0,3,()) else (98-((1*10000000+c)*100).tmod 97,0,())):=by
 refine (ref09_Check_m (n+1) 1 c).trans ?_
 rw [bind_go (prefixI n)]
 dsimp only
 rw [show (nItm == [])=false from rfl,cond_false]
 by_cases h1:c<1
 ·rw [decide_eq_true h1];rfl
 ·rw [decide_eq_false h1]
  by_cases h2:9999999<c
  ·rw [decide_eq_true h2];rfl
  ·have h3:=tmod97 ((1*10000000+c)*100)
   rw [decide_eq_false h2,w64 (z:=1*10000000) (by omega) (by omega),w64 (z:=1*10000000+c) (by omega) (by omega),w64 (z:=(1*10000000+c)*100) (by omega) (by omega),w64 (z:=98-((1*10000000+c)*100).tmod 97) (by omega) (by omega)]
   rfl
theorem r09printI (c:Int):EF fuel (n+3) 28 [vI 1,vI c] gP=some (bif decide (c<1) then ([],3,()) else bif decide (9999999<c) then ([],3,()) else (idT nItm 1 c,0,())):=by
 refine (ref09_Print_m (n+2) 1 c).trans ?_
 rw [bind_go (r09checkI n c)]
 by_cases h1:c<1
 ·rw [decide_eq_true h1];rfl
 rw [decide_eq_false h1,cond_false,cond_false]
 by_cases h2:9999999<c
 ·rw [decide_eq_true h2];rfl
 rw [decide_eq_false h2,cond_false,cond_false]
 dsimp only
 have h3:=Int.tmod_nonneg (a:=(1*10000000+c)*100) 97 (by omega)
 have h4:=tmod97 ((1*10000000+c)*100)
 obtain ⟨k,hk⟩:∃k:Nat,c=k:=⟨c.toNat,by omega⟩
 obtain ⟨j,hj⟩:∃j:Nat,98-((1*10000000+c)*100).tmod 97=j:=⟨(98-((1*10000000+c)*100).tmod 97).toNat,by omega⟩
 have d1:EF fuel (n+2) 66 [vI c,vI 7] gS=some (padT c 7,()):=by
  rw [hk]
  exact digits_e (n+1) k 6 (by omega) (by omega) (by omega)
 have d2:EF fuel (n+2) 66 [vI (98-((1*10000000+c)*100).tmod 97),vI 2] gS=some (padT (98-((1*10000000+c)*100).tmod 97) 2,()):=by
  rw [hj]
  exact digits_e (n+1) j 1 (by omega) (by omega) (by omega)
 have l1:=padT_len (z:=c) (w:=7) ⟨by omega,by omega⟩ (by omega) (by omega)
 have l2:=padT_len (z:=98-((1*10000000+c)*100).tmod 97) (w:=2) ⟨by omega,by omega⟩ (by omega) (by omega)
 have l0:nItm.length=3:=rfl
 rw [bne_self_eq_false,cond_false,bind_go (prefixI (n+1))]
 dsimp only
 rw [strB_s (by simp only [List.length_cons,List.length_nil];omega),cond_true,bind_go d1]
 dsimp only
 rw [strB_s (by simp only [List.length_append,List.length_cons,List.length_nil];omega),cond_true,strB_s (by simp only [List.length_append,List.length_cons,List.length_nil];omega),cond_true,bind_go d2]
 dsimp only
 rw [strB_s (by simp only [List.length_append,List.length_cons,List.length_nil];omega),cond_true]
 rfl
theorem share18_e (p w0:List Int) (w:List (List Nat)) (hg:GridOK p w0) {c:Nat} (h:WtOK p w c) (hc:c≤1000):EF fuel (n+2) 164 [.o (.c ⟨.sl 2 (.pair .bool .nat),ptsZ p⟩),vW w] [.agg [.bool,.nat,.nat]]=some (decide (meanN p w<0),limbsK (meanN p w).natAbs,limbsK (meanD p w),()):=by
 obtain ⟨hT,lF,lT⟩:=h.sums hg
 have h1:=hg.pos
 have h2:=hg.most
 have h3:=h.len
 have hz:(p.zip w).length=p.length:=by rw [List.length_zip];omega
 have hmz:mz (sumF (p.zip w)) (sumT (p.zip w))=sumF (p.zip w):=by unfold mz;rw [if_neg (by omega)]
 have hzero:EF fuel (n+1) 70 [vI 0] gZ=some (decide ((0:Int)<0),limbsK (0:Int).natAbs,()):=pd2Of_e (b:=true) n 0 (capI_ok (by omega) (by omega))
 refine (ref18_share_m (n+1) (ptsZ p) w).trans ?_
 rw [bind_go hzero]
 unfold meanN meanD
 rw [hmz]
 have hlen:(ptsZ p).length=p.length:=by simp [ptsZ]
 rw [hlen]
 refine congrArg (a₂:=some (Ans.ret ((decide (rn (sumF (p.zip w)) (sumT (p.zip w)).natAbs<0),limbsK (rn (sumF (p.zip w)) (sumT (p.zip w)).natAbs).natAbs,limbsK (rd (sumF (p.zip w)) (sumT (p.zip w)).natAbs),()):denL [.bool,.nat,.nat]))) unwrapA ?_
 suffices key:∀{o:Option (Ans (denL [.bool,.nat,.nat]))},o=some (shareA (p.zip w) (0,0))→o=some (Ans.ret (decide (rn (sumF (p.zip w)) (sumT (p.zip w)).natAbs<0),limbsK (rn (sumF (p.zip w)) (sumT (p.zip w)).natAbs).natAbs,limbsK (rd (sumF (p.zip w)) (sumT (p.zip w)).natAbs),()))from
  key (loopA_list (ts:=[tN,tI,tB,tN]) (p.zip w) (fun k (b:Int × Int)=>(limbsK b.2.natAbs,(k:Int),decide (b.1<0),limbsK b.1.natAbs,())) shareA (fun k b=>nlen b.1.natAbs≤1002+k∧nlen b.2.natAbs≤1002+k∧0≤b.2∧b.2+sumT ((p.zip w).drop k)=sumT (p.zip w)) (fun k hk b hb=>by
   have hk1:k<p.length:=by omega
   have hk2:k<w.length:=by omega
   have hx:=hg.pts k hk1
   have ha:=h.ok _ (List.getElem_mem hk2)
   have hcap:capD w[k]=true:=capD_ok ha.1 (by omega)
   have l1:=nlen_val ha.1
   have hix:ix (ptsZ p) (k:Int)=some (decide (p[k]<0),limbsK p[k].natAbs):=ix_get (by unfold ptsZ;rw [List.getElem?_map,List.getElem?_eq_getElem hk1];rfl)
   obtain ⟨b1,b2,b3,b4⟩:=hb
   rw [List.drop_eq_getElem_cons hk,List.getElem_zip,sumT]at b4
   dsimp only at b4 ⊢
   rw [dlt hk1,cond_true,bind_go hix,bind_go (ix_lt hk2),shareA_cons,List.getElem_zip]
   dsimp only
   have hixw:=ix_lt hk2
   generalize p[k]=x at *
   generalize w[k]=a at *
   have l2:nlen x.natAbs≤1:=nlen_1000 (by omega)
   have l0:nlen (val a:Int).natAbs≤1000:=by rw [Int.natAbs_natCast];omega
   have l3:=nlen_mulZ x (val a:Int)
   have l6:=nlen_addZ b.1 (x*(val a:Int))
   have l7:=nlen_addZ b.2 (val a:Int)
   have hadd:=pd1Add_e (b:=true) n (limbsK b.2.natAbs) a (capDK (by omega)) hcap
   rw [val_K,show b.2.natAbs+val a=(b.2+(val a:Int)).natAbs by omega]at hadd
   rw [bind_go (zmake2 n a hcap)]
   dsimp only
   rw [bind_go (zmul2 n x _ (by omega) (by omega))]
   dsimp only
   rw [bind_go (zadd2 n b.1 _ (by omega) (by omega)),bind_go hixw]
   dsimp only
   rw [bind_go hadd,w64n (by omega)]
   exact .inr ⟨_,rfl,⟨by dsimp only;omega,by dsimp only;omega,by dsimp only;omega,by dsimp only;omega⟩,rfl⟩) (fun b hb=>by
   obtain ⟨b1,b2,b3,b4⟩:=hb
   rw [List.drop_length,sumT,Int.add_zero]at b4
   have hmk:=zmake2 n (limbsK b.2.natAbs) (capDK (by omega))
   rw [val_K,show ((b.2.natAbs:Nat):Int)=b.2 by omega]at hmk
   have hq:=pd3Make_e (b:=true) n (decide (b.1<0)) (limbsK b.1.natAbs) (decide (b.2<0)) (limbsK b.2.natAbs) (capDK (by omega)) (capDK (by omega)) (by rw [val_K,sg_own];exact decide_eq_true (by omega))
   simp only [val_K,sg_own]at hq
   dsimp only
   rw [hz,dge (Nat.le_refl _),cond_false,bind_go hmk]
   dsimp only
   rw [bind_go hq]
   unfold shareA
   rw [sumT,sumF,Int.add_zero,Int.add_zero]
   exact ⟨rfl,rfl⟩) (0,0) ⟨by simp [nlen_zero],by simp [nlen_zero],by omega,by simp⟩ (fuel_lt (by omega)))
 rintro o rfl
 unfold shareA
 rw [Int.zero_add,Int.zero_add]
theorem mean27_e (p w0:List Int) (w:List (List Nat)) (hg0:gridE p w0=0) {c:Nat} (h:WtOK p w c) (hc:c≤1000):EF fuel (n+4) 51 [vG p w0,vW w] [.agg [.bool,.nat,.nat],.c (.int .i64)]=some (decide (meanN p w<0),limbsK (meanN p w).natAbs,limbsK (meanD p w),0,()):=by
 have hg:=grid_ok hg0
 have h1:=hg.pos
 have h2:=hg.most
 have h3:=h.len
 have hchk:EF fuel (n+2) 162 [vG p w0,vW w] [.c (.int .i64)]=some (0,()):=by
  refine (ref18_check_m (n+1) p w0 w).trans ?_
  rw [bind_go (grid18_e n p w0),hg0]
  dsimp only
  rw [show ((0:Int) != 0)=false from rfl,cond_false,h3,show ((p.length:Int) != (p.length:Int))=false by simp,cond_false]
  refine congrArg (a₂:=some (Ans.ret ((0,()):denL [.int .i64]))) unwrapA ?_
  refine loopA_inv (R:=denL [.int .i64]) (ts:=[tI,tI]) (fun x=>x=(0,0,())) (fun _=>0) (fun x hx=>?_) _ rfl (fuel_lt (by omega))
  subst hx
  have h0:0<w.length:=by omega
  have ha:=h.ok _ (List.getElem_mem h0)
  have hp:=h.pos _ (List.getElem_mem h0)
  have hbits:=bitsN_pos hp
  dsimp only
  rw [show decide ((0:Int)<(p.length:Int))=true from decide_eq_true (by omega),cond_true,bind_go (show ix w 0=some w[0]from ix_lt h0),bind_go (pd1Bits_e (b:=true) n w[0] (capD_ok ha.1 (by omega)))]
  dsimp only
  rw [decide_eq_true (show (0:Int)<((bitsN (val w[0]):Nat):Int)by omega)]
  exact .inl ⟨rfl,rfl⟩
 have hm:EF fuel (n+3) 109 [vG p w0,vW w] [.agg [.bool,.nat,.nat],.c (.int .i64)]=some (decide (meanN p w<0),limbsK (meanN p w).natAbs,limbsK (meanD p w),0,()):=by
  refine (ref18_Mean_m (n+2) p w0 w).trans ?_
  rw [bind_go hchk]
  dsimp only
  rw [show ((0:Int) != 0)=false from rfl,cond_false,h3]
  have hl:(ptsZ p).length=p.length:=by simp [ptsZ]
  rw [←hl]
  refine congrArg (a₂:=some (Ans.ret ((decide (meanN p w<0),limbsK (meanN p w).natAbs,limbsK (meanD p w),0,()):denL [.bool,.nat,.nat,.int .i64]))) unwrapA ?_
  refine loopA_app (R:=denL [.bool,.nat,.nat,.int .i64]) (t:=.sl 2 (.pair .bool .nat)) rfl (ptsZ p) (fun _=>.ret ((decide (meanN p w<0),limbsK (meanN p w).natAbs,limbsK (meanD p w),0,()):denL [.bool,.nat,.nat,.int .i64])) (fun k hk=>?_) ?_ (fuel_lt (by omega))
  ·have hk1:k<p.length:=by omega
   have hx:=hg.pts k hk1
   have hof:EF fuel (n+2) 70 [vI p[k]] gZ=some (decide (p[k]<0),limbsK p[k].natAbs,()):=pd2Of_e (b:=true) (n+1) p[k] (capI_ok (by omega) (by omega))
   have e:(ptsZ p)[k]=(decide (p[k]<0),limbsK p[k].natAbs):=by simp [ptsZ]
   dsimp only [cast]
   rw [dlt hk,cond_true,bind_go (ix_lt hk1),bind_go hof]
   dsimp only
   rw [capB_le (by simp;omega),cond_true,w64n (by omega),e]
  ·dsimp only [cast]
   rw [dge (Nat.le_refl _),cond_false,bind_go (share18_e n p w0 w hg h hc)]
   exact ⟨rfl,rfl⟩
 refine (ref27_Mean_m (n+3) p w0 w).trans ?_
 rw [bind_go hm]
 rfl
theorem print4_e (U:Int) (h:nlen U.natAbs≤100000):EF fuel (n+3) 53 [.o (.agg [⟨.bool,decide (U<0)⟩,⟨.nat,limbsK U.natAbs⟩,⟨.int .i64,2⟩])] [.c .str,.c (.int .i64)]=some (decTK U 2,0,()):=by
 have hpl:EF fuel (n+2) 110 [vI 2] [.c .bool]=some (true,()):=ref04_places_m (n+1) 2
 have hp1:=r1print_e n (limbsK U.natAbs) (limbsK_dig _) (by rw [limbsK_eq];show nlen _≤_;omega)
 rw [val_K]at hp1
 have hlen:(decK U.natAbs).length<10995116277800:=by
  have:=dec_len (n:=U.natAbs) (by omega)
  rw [decK_eq]
  omega
 refine (ref04_Print_m (n+2) (decide (U<0)) (limbsK U.natAbs) 2).trans ?_
 rw [bind_go hpl]
 dsimp only
 rw [Bool.not_true,cond_false,bind_go (znorm2 (n+1) U (by omega))]
 dsimp only
 rw [bind_go hp1]
 have e1:decTK U 2=bif decide (U<0) then 45 :: dec2K U.natAbs 2 else dec2K U.natAbs 2:=rfl
 have e2:dec2K U.natAbs 2=(dec1K U.natAbs 2).take ((dec1K U.natAbs 2).length-2) ++ [46] ++ (dec1K U.natAbs 2).drop ((dec1K U.natAbs 2).length-2):=rfl
 have e3:dec1K U.natAbs 2=bif Nat.ble (decK U.natAbs).length 2 then List.replicate (2+1-(decK U.natAbs).length) 48 ++ decK U.natAbs else decK U.natAbs:=rfl
 rw [e1,e2]
 generalize dec1K U.natAbs 2=D at *
 generalize decK U.natAbs=T at *
 generalize decide (U<0)=t
 dsimp only
 refine congrArg (a₂:=some (Ans.ret (((bif t then 45 :: (D.take (D.length-2) ++ [46] ++ D.drop (D.length-2)) else D.take (D.length-2) ++ [46] ++ D.drop (D.length-2)),0,()):denL [.str,.int .i64]))) unwrapA ?_
 refine loopA_inv (R:=denL [.str,.int .i64]) (ts:=[tS]) (fun x=>∃j,(j=0∨j+T.length≤3)∧x=(List.replicate j 48 ++ T,())) (fun (x:List UInt8 × Unit)=>3-x.1.length) (fun x hx=>?_) _ ⟨0,.inl rfl,rfl⟩ (fuel_lt (by omega))
 obtain ⟨j,hj,rfl⟩:=hx
 have hl:(List.replicate j (48:UInt8) ++ T).length=j+T.length:=by simp
 dsimp only
 by_cases h2:j+T.length≤2
 ·rw [hl,decide_eq_true (show ((j+T.length:Nat):Int)≤2 by omega),cond_true,strB_le (by simp;omega),cond_true]
  refine .inr ⟨(List.replicate (j+1) 48 ++ T,()),by rw [List.replicate_succ];rfl,⟨j+1,.inr (by omega),rfl⟩,?_⟩
  show 3-(List.replicate (j+1) (48:UInt8) ++ T).length<3-(j+T.length)
  rw [List.length_append,List.length_replicate]
  omega
 ·have hD:List.replicate j (48:UInt8) ++ T=D:=by
   rw [e3]
   by_cases h3:T.length≤2
   ·rw [Nat.ble_eq_true_of_le h3,cond_true,show 2+1-T.length=j by omega]
   ·have hb:Nat.ble T.length 2=false:=by
     cases hc:Nat.ble T.length 2
     ·rfl
     ·exact absurd (ble_of hc) h3
    rw [hb,cond_false,show j=0 by omega]
    rfl
  rw [hD]at hl ⊢
  have hDl:2<D.length:=by omega
  have s1:sub D 0 ((D.length-2:Nat):Int)=some (D.take (D.length-2)):=sub_le (a:=0) (Nat.zero_le _) (by omega)
  have s2:sub D ((D.length-2:Nat):Int) (D.length:Int)=some (D.drop (D.length-2)):=by
   have:=sub_le (l:=D) (a:=D.length-2) (b:=D.length) (by omega) (Nat.le_refl _)
   rwa [List.take_length]at this
  have e4:IntKind.i64.wrap ((D.length:Int)-2)=((D.length-2:Nat):Int):=by rw [w64 (by omega) (by omega)];omega
  rw [decide_eq_false (show ¬(D.length:Int)≤2 by omega),cond_false,show decide ((0:Int)<2)=true from rfl,cond_true,e4,bind_go s1,strB_le (by simp;omega),cond_true,bind_go s2,strB_le (by simp;omega),cond_true]
  cases t
  ·exact .inl ⟨rfl,rfl⟩
  ·rw [cond_true,strB_le (by simp;omega)]
   exact .inl ⟨rfl,rfl⟩
theorem explain56_e (p w0:List Int) (pool:List PI) (steps:List (Int × Int)) (hs:∀s∈steps,in64 s.2) (hb:∀y∈pool,∀r∈y.2.2.2.2.2.2.2.2,r.length≤1048576) :
  EF fuel (n+6) 20 [vG p w0,vP pool,vSt steps] gLn=some ((explainE p w0 pool steps).1,(explainE p w0 pool steps).2,()):=by
 rw [ref56_Explain_m (n+5) p w0 pool steps,bind_go (start26_e (n+2) p w0)]
 unfold explainE
 dsimp only
 by_cases h0:(startE p w0).2=0
 case neg=>rw [show ((startE p w0).2 != 0)=true by simpa using h0,cond_true,if_pos h0];rfl
 rw [h0,show ((0:Int) != 0)=false from rfl,cond_false,if_neg (show ¬((0:Int)≠0)by decide),bind_go (check33_e n pool p.length hb)]
 dsimp only
 by_cases h1:poolE pool p.length=0
 case neg=>rw [show (poolE pool p.length != 0)=true by simpa using h1,cond_true,if_pos h1];rfl
 rw [h1,show ((0:Int) != 0)=false from rfl,cond_false,if_neg (show ¬((0:Int)≠0)by decide)]
 by_cases h2:18<steps.length
 ·rw [decide_eq_true (show (18:Int)<(steps.length:Int)by omega),cond_true,if_pos h2];rfl
 rw [decide_eq_false (show ¬(18:Int)<(steps.length:Int)by omega),cond_false,if_neg h2]
 obtain ⟨hg,hlen,hok,hpos⟩:=start_ok h0
 have hgz:=start_zero h0
 obtain ⟨hp1,hp2⟩:=pool_ok h1
 generalize (startE p w0).1=ws at *
 refine congrArg (a₂:=some (Ans.ret (((explE p pool steps 0 ws []).1,(explE p pool steps 0 ws []).2,()):denL gLn.ts))) unwrapA ?_
 refine loopA_list (R:=denL gLn.ts) (ts:=[tI,VT.sl 1 tS,tI,VT.sl 1 tN,tI,VT.sl 1 tS]) steps (fun k (b:Nat × List (List Nat) × List (List UInt8))=>((k:Int),b.2.2,0,b.2.1,0,[],())) (fun l b=>.ret (((explE p pool l b.1 b.2.1 b.2.2).1,(explE p pool l b.1 b.2.1 b.2.2).2,()):denL gLn.ts)) (fun k b=>b.1=k∧WtOK p b.2.1 (k+1)∧b.2.2.length=k) (fun k hk b hb=>?_) (fun b hb=>?_) (0,ws,[]) ⟨rfl,⟨hlen,hok,hpos⟩,rfl⟩ (fuel_lt (by omega))
 ·obtain ⟨i,w,L⟩:=b
  obtain ⟨rfl,hw,hL⟩:=hb
  dsimp only at hw hL hk ⊢
  rw [dlt hk,cond_true,bind_go (ix_lt hk),bind_go (find56_e (n+4) pool steps[i].1 (by omega)),explE]
  have hin:=hs _ (List.getElem_mem hk)
  generalize steps[i]=s at *
  cases hf:findE pool s.1 with
  | none=>exact .inl ⟨rfl,rfl⟩
  | some y =>
   have hy:y.1=s.1:=by simpa using List.find?_some hf
   have hn:=hp2 y (List.mem_of_find?_eq_some hf)
   rw [hy]at hn
   dsimp only [foundA]
   rw [Bool.not_true,cond_false,bind_go (upd26_e (n+2) w y.2.2.2.2.2.2.2.2 s.2 (fun a ha=>⟨(hw.ok a ha).1,by have:=(hw.ok a ha).2;omega⟩) (hb y (List.mem_of_find?_eq_some hf)))]
   dsimp only
   by_cases hu:(updE w y.2.2.2.2.2.2.2.2 s.2).2=0
   case neg =>
    rw [show ((updE w y.2.2.2.2.2.2.2.2 s.2).2 != 0)=true by simpa using hu,cond_true,if_pos hu]
    exact .inl ⟨rfl,rfl⟩
   obtain ⟨u1,u2,u3⟩:=upd_ok hu hw.ok hw.pos
   have hw':WtOK p (updE w y.2.2.2.2.2.2.2.2 s.2).1 (i+1+1):=⟨u1.trans hw.len,u2,u3⟩
   obtain ⟨hT,lF,lT⟩:=hw'.sums hg
   generalize (updE w y.2.2.2.2.2.2.2.2 s.2).1=w' at *
   have hnum:=hn
   unfold numB at hnum
   rw [Bool.and_eq_true]at hnum
   have i1:=of_decide_eq_true hnum.1
   have i2:=of_decide_eq_true hnum.2
   have hmz:nlen (mz (sumF (p.zip w')) (sumT (p.zip w'))).natAbs=nlen (sumF (p.zip w')).natAbs:=by unfold mz;rw [if_neg (by omega)]
   have hN:=nlen_rnz (mz (sumF (p.zip w')) (sumT (p.zip w'))) (sumT (p.zip w')).natAbs
   have lN:nlen (meanN p w').natAbs≤i+26:=by have:=hN.1;unfold meanN;omega
   have lD:nlen (meanD p w')≤i+26:=by have:=hN.2;unfold meanD;omega
   have pD:0<meanD p w':=rd_pos _ (by omega)
   have lR:=(nlen_rnz (pz (meanN p w') (meanD p w')) (pd (meanD p w'))).1
   have lP:=nlen_pz' (meanN p w') (meanD p w')
   have lU:nlen (meanU p w').natAbs≤i+28:=by
    have:=rndU_nlen (rn (pz (meanN p w') (meanD p w')) (pd (meanD p w'))) (rd (pz (meanN p w') (meanD p w')) (pd (meanD p w'))) 2 1 (by omega)
    unfold meanU
    omega
   have t1:=itoa_l21 (z:=((i+1:Nat):Int)) ⟨by omega,by omega⟩
   have t2:=itoa_l21 hin
   have t3:=idT_len (y:=nItm) (k:=1) (c:=s.1) rfl ⟨by omega,by omega⟩
   have t4:(decTK (meanU p w') 2).length<10995116277800:=by rw [decTK_eq];exact decTx_len (by omega) (by omega)
   have hid:=r09printI (n+2) s.1
   rw [decide_eq_false (show ¬s.1<1 by omega),cond_false,decide_eq_false (show ¬9999999<s.1 by omega),cond_false]at hid
   have hrd:EF fuel (n+5) 52 [vQN (meanN p w') (meanD p w'),vI 2,vI 1] [.agg [.bool,.nat,.int .i64],.c (.int .i64)]=some (decide (meanU p w'<0),limbsK (meanU p w').natAbs,2,0,()):=round4 (n+2) (meanN p w') pD (by omega) (by omega)
   rw [hu,show ((0:Int) != 0)=false from rfl,cond_false,if_neg (show ¬((0:Int)≠0)by decide),w64n (by omega),bind_go (mean27_e (n+1) p w0 w' hgz hw' (by omega))]
   dsimp only
   rw [bind_go hrd]
   dsimp only
   rw [bind_go (print4_e (n+2) (meanU p w') (by omega)),bind_go hid,bind_go (r56number_e (n+1) ((i+1:Nat):Int) ⟨by omega,by omega⟩),bind_go (r56number_e (n+1) s.2 hin)]
   dsimp only
   rw [strB_le (by simp only [List.length_append,List.length_cons,List.length_nil];omega),strB_le (by simp only [List.length_append,List.length_cons,List.length_nil];omega),strB_le (by simp only [List.length_append,List.length_cons,List.length_nil];omega),strB_le (by simp only [List.length_append,List.length_cons,List.length_nil];omega),strB_le (by simp only [List.length_append,List.length_cons,List.length_nil];omega),strB_le (by simp only [List.length_append,List.length_cons,List.length_nil];omega),capB_le (by rw [hL,List.length_singleton];omega)]
   exact .inr ⟨(i+1,w',L ++ [lineT p w' (i+1) s]),rfl,⟨rfl,hw',by simp [hL]⟩,rfl⟩
 ·dsimp only
  rw [dge (Nat.le_refl _),cond_false]
  exact ⟨rfl,rfl⟩
end
theorem lawExplains (p w0:List Int) (pool:List PI) (steps:List (Int × Int)) (hl:steps.length≤1048576) (hs:∀s∈steps,in64 s.2) (hb:∀y∈pool,∀r∈y.2.2.2.2.2.2.2.2,r.length≤1048576) :
  EF fuel 21 5 [vG p w0,vP pool,vSt steps] gB=some (true,()):=by
 refine (law56_ReportExplains_m 20 p w0 pool steps).trans ?_
 have aw:=awake_e
 have hlen:(explainE p w0 pool steps).1.length<2000000:=by
  by_cases h0:(explainE p w0 pool steps).2=0
  ·rw [(explain_take h0).1];omega
  ·rw [explain_err h0];simp
 rw [bind_go (explain_e 14 p w0 pool steps hs),bind_go (explain56_e 14 p w0 pool steps hs hb)]
 dsimp only
 rw [bind_go (sameL_e 19 _ hlen)]
 dsimp only
 rw [beq_self_eq_true,cond_true,bind_go aw]
 dsimp only
 cases decide ((6:Int)<(steps.length:Int))
 ·rfl
 ·cases decide ((steps.length:Int)≤18) <;> rfl
theorem reportExplains.law (as':List AV) (h:OkA 1048576 [shG,.sl shPI,.sl shSt] as'):AC 5 as' (boo true):=by
 obtain ⟨a,r1,rfl,h1,q1⟩:=okA_more h
 obtain ⟨b,r2,rfl,h2,q2⟩:=okA_more q1
 obtain ⟨c,rfl,h3⟩:=okA_one q2
 obtain ⟨g,rfl,_⟩:=h1.den
 obtain ⟨pool,rfl,_,hp⟩:=h2.den
 obtain ⟨steps,rfl,hl,hs⟩:=h3.den
 exact E_calls (lawExplains g.1 g.2 pool steps hl (fun s hs'=>(hs s hs').2) (fun y hy r hr=>((hp y hy).2.2.2.2.2.2.2.2.2 r hr).1)) rfl
end Go.Proofs.YtcggnmddcbhchaaGreatDoor
set_option linter.unusedSimpArgs false
set_option linter.unusedVariables false
namespace Go.Proofs.YtcggnmddcbhchaaGreatDoor
open Go.ChangeShapes Go.WideShapes Go.ChangeAt Go.RowKit Lim
def strD {H:Type} (ss:List (List UInt8)):DataW H:=.agg (ss.map fun s=>.lit (.string s))
theorem cells_of_strs {H:Type} {enc:TypeId × Value→H} {P:Program} {w:World} {base:Nat} {sp:Nat→Bool} {held:Bool} {fuel:Nat} {t e:TypeId} {n:Nat} {cs:List Value} {ss:List (List UInt8)} {p:List MemPlace}
  (ht:P.underlying t=some (.array n e)) (he:P.underlying e=some .string) (hce:P.cellsOf e=1)
  (h:DataW.trod enc P w base sp held fuel t cs=some (strD ss,p)) (i:Nat) (s:List UInt8) (hs:ss[i]? = some s):cs[i]? = some (.string ⟨s.toArray⟩):=by
 cases fuel with
 | zero=>simp [DataW.trod]at h
 | succ fuel =>
  simp only [DataW.trod,ht,hce,Nat.mul_one]at h
  split at h
  ·obtain ⟨xs,hm,hx⟩:=Option.map_eq_some_iff.1 h
   have hxs:xs.map (·.1)=ss.map fun s=>(DataW.lit (.string s):DataW H):=by
    have:=congrArg Prod.fst hx
    simpa [strD]using this
   have hxl:xs.length=n:=by simpa using Lib.mapM_length hm
   have hzl:ss.length=n:=by
    have:=congrArg List.length hxs
    simp at this
    omega
   have hi:i<n:=by
    rw [←hzl]
    exact (List.getElem?_eq_some_iff.1 hs).1
   obtain ⟨b,hb,hf⟩:=Lib.mapM_at hm i i (by simp [hi])
   obtain ⟨z,hc,rfl,_⟩:=DataW.trod_string he hf
   have h1:cs[i]? = some (.string z):=by
    have:=congrArg (·[0]?) hc
    simpa [List.getElem?_take,List.getElem?_drop]using this
   have h2:(xs.map (·.1))[i]? = some (DataW.lit (.string z.data.toList):DataW H):=by simp [hb]
   rw [hxs,List.getElem?_map,hs]at h2
   simp only [Option.map_some,Option.some.injEq,DataW.lit.injEq,Lit.string.injEq]at h2
   rw [h1,h2]
  ·cases h
theorem strs_of_head {P:Program} {W:World} {name:String} {ss:List (List UInt8)} {rest:List (String × DataW Unit)} {g:Nat} {t e:TypeId} {n:Nat}
  (hg:P.globalNamed name=some g) (hty:(P.globals[g]?).map (·.type)=some t) (ht:P.underlying t=some (.array n e)) (he:P.underlying e=some .string) (hce:P.cellsOf e=1)
  (h:laidMet P ((name,strD ss) :: rest) W) (i:Nat) (s:List UInt8) (hs:ss[i]? = some s):W.cell? ⟨g,i,none⟩=some (.string ⟨s.toArray⟩):=by
 obtain ⟨ps,⟨g',t',cs,fuel,p,q,hg',ht',hvar,hd,_,_⟩,_⟩:=h
 obtain rfl:=Option.some.inj (hg.symm.trans hg')
 obtain rfl:=Option.some.inj (hty.symm.trans ht')
 rw [World.var?_cell hg hvar i]
 simpa using cells_of_strs ht he hce hd i s hs
theorem glob_of {W : World} {rest : List (String × DataW Unit)} (h : laidMet Tryz.prog (("examboard/ident.prefixes", strD [[73, 84, 77], [70, 82, 77], [67, 65, 78], [83, 69, 83], [82, 65, 84], [65, 83, 84]]) :: rest) W) : GlobOK W := by
 intro g cs hg q v hv
 unfold globT at hg
 cases hb:Nat.beq g 0 with
 | false=>rw [hb]at hg;cases hg
 | true =>
  rw [hb]at hg
  cases hg
  have hb:=Nat.eq_of_beq_eq_true hb
  subst hb
  have key:=strs_of_head (g:=0) (t:=97) (e:=9) (n:=6) (by kernel_rfl) (by kernel_rfl) Tryz.underlying97 Tryz.underlying9 (by kernel_rfl) h q
  rcases q with _|_|_|_|_|_|q
  ·cases hv;exact ⟨key _ rfl,rfl⟩
  ·cases hv;exact ⟨key _ rfl,rfl⟩
  ·cases hv;exact ⟨key _ rfl,rfl⟩
  ·cases hv;exact ⟨key _ rfl,rfl⟩
  ·cases hv;exact ⟨key _ rfl,rfl⟩
  ·cases hv;exact ⟨key _ rfl,rfl⟩
  ·simp at hv
end Go.Proofs.YtcggnmddcbhchaaGreatDoor
