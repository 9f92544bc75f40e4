import Derived.Test.YtcaahphghaddgaaGreatDoorI1
import Derived.Laws.Tables
import Derived.Laws.CopyOwn
import Derived.Laws.StructEq
import Derived.WideLaws
/- Texts merged: Qk Ql WhG WhH WhI WhJ WhK WhL WhM WhN Qm WhO Qn WhP Qo KQ KT KH Qd Qf. -/
set_option linter.unusedSimpArgs false
set_option linter.unusedVariables false
namespace Go.Proofs.YtcaahphghaddgaaGreatDoor
open Go.RowKit Lim
theorem isD_rng {b:UInt8}:isD b=true ↔ 48≤b.toNat∧b.toNat≤57:=by simp [isD]
theorem valD_end (s:List UInt8) (b:UInt8):valD (s ++ [b])=valD s*10+(b.toNat-48):=by simp [valD,List.foldl_append]
theorem valD_low:∀(k:Nat) (s:List UInt8),s.length=k→s.all isD=true→valD s<10 ^ k
 | 0,s,hk,_=>by rw [List.length_eq_zero_iff.1 hk];simp [valD]
 | k+1,s,hk,ha=>by
  have hn:s≠[]:=fun h=>by rw [h]at hk;simp at hk
  obtain ⟨r,b,rfl⟩:∃r b,s=r ++ [b]:=⟨s.dropLast,s.getLast hn,(List.dropLast_concat_getLast hn).symm⟩
  rw [List.all_append]at ha
  obtain ⟨ha,hb⟩:=Bool.and_eq_true_iff.1 ha
  simp only [List.all_cons,List.all_nil,Bool.and_true]at hb
  have hb2:=isD_rng.1 hb
  have:=valD_low k r (by simpa using hk) ha
  rw [valD_end,Nat.pow_succ]
  omega
theorem nParse_m {F:Nat} (n0:Nat) (x0:List UInt8):EF F (n0+1) 116 [.o (.c ⟨.str,x0⟩)] [.c .nat,.c (.int .i64)]=unwrapA (bif x0 == [] then some (.ret ([],2,())) else (ix x0 0).bind fun b=>bif (Nat.cast (R:=Int) b.toNat) == 48 then bif decide (1<(Nat.cast (R:=Int) (List.length x0))) then some (.ret ([],2,())) else loopA 0 [tN,tI,tI] (fun x=>bif decide (x.2.1<(Nat.cast (R:=Int) (List.length x0))) then (ix x0 x.2.1).bind fun b=>bif decide ((Nat.cast (R:=Int) b.toNat)<48) then some (.ret ([],2,())) else (ix x0 x.2.1).bind fun b=>bif decide (57<(Nat.cast (R:=Int) b.toNat)) then some (.ret ([],2,())) else some (.cont 0 [tN,tI,tI] (x.1,IntKind.i64.wrap (x.2.1+1),x.2.2.1,())) else bif decide (400<(Nat.cast (R:=Int) (List.length x0))) then some (.ret ([],5,())) else (EF F n0 136 [.o (.c ⟨VT.int IntKind.u64,10⟩)] [.c tN]).bind fun x=>loopA 0 [tN,tI] (fun x_1=>bif decide (x_1.2.1<(Nat.cast (R:=Int) (List.length x0))) then (EF F n0 138 [vN x_1.1,vN x.1] [.c tN]).bind fun x=>(ix x0 x_1.2.1).bind fun b=>(EF F n0 136 [.o (.c ⟨VT.int IntKind.u64,IntKind.u64.wrap (IntKind.u8.wrap ((Nat.cast (R:=Int) b.toNat)-48))⟩)] [.c tN]).bind fun x_2=>(EF F n0 137 [vN x.1,vN x_2.1] [.c tN]).bind fun x=>some (.cont 0 [tN,tI] (x.1,IntKind.i64.wrap (x_1.2.1+1),())) else some (.ret (x_1.1,0,()))) F ([],0,())) F ([],0,0,()) else loopA 0 [tN,tI,tI] (fun x=>bif decide (x.2.1<(Nat.cast (R:=Int) (List.length x0))) then (ix x0 x.2.1).bind fun b=>bif decide ((Nat.cast (R:=Int) b.toNat)<48) then some (.ret ([],2,())) else (ix x0 x.2.1).bind fun b=>bif decide (57<(Nat.cast (R:=Int) b.toNat)) then some (.ret ([],2,())) else some (.cont 0 [tN,tI,tI] (x.1,IntKind.i64.wrap (x.2.1+1),x.2.2.1,())) else bif decide (400<(Nat.cast (R:=Int) (List.length x0))) then some (.ret ([],5,())) else (EF F n0 136 [.o (.c ⟨VT.int IntKind.u64,10⟩)] [.c tN]).bind fun x=>loopA 0 [tN,tI] (fun x_1=>bif decide (x_1.2.1<(Nat.cast (R:=Int) (List.length x0))) then (EF F n0 138 [vN x_1.1,vN x.1] [.c tN]).bind fun x=>(ix x0 x_1.2.1).bind fun b=>(EF F n0 136 [.o (.c ⟨VT.int IntKind.u64,IntKind.u64.wrap (IntKind.u8.wrap ((Nat.cast (R:=Int) b.toNat)-48))⟩)] [.c tN]).bind fun x_2=>(EF F n0 137 [vN x.1,vN x_2.1] [.c tN]).bind fun x=>some (.cont 0 [tN,tI] (x.1,IntKind.i64.wrap (x_1.2.1+1),())) else some (.ret (x_1.1,0,()))) F ([],0,())) F ([],0,0,())):=by kernel_rfl
def e400:Nat:=400
theorem ten400:Nat.log2 (10 ^ e400*10)≤34359738368:=by
 have:Nat.log2 (10 ^ e400*10)=1332:=by decide +kernel
 omega
theorem ten_le:10≤10 ^ e400:=by
 have:10 ^ 1≤10 ^ e400:=Nat.pow_le_pow_right (by omega) (by decide)
 simpa using this
theorem capN_400 {n:Nat} (h:n≤10 ^ e400*10):capN (limbsK n)=true:=capN_K (Nat.le_trans (log2_le h) ten400)
theorem digit_int {b:UInt8} (h:isD b=true):((b.toNat:Int)<48)=False∧(57<(b.toNat:Int))=False:=by
 have:=isD_rng.1 h
 exact ⟨by simp;omega,by simp;omega⟩
theorem not_digit {b:UInt8} (h:isD b=false):(b.toNat:Int)<48∨(¬(b.toNat:Int)<48∧57<(b.toNat:Int)):=by
 have:¬(48≤b.toNat∧b.toNat≤57):=fun hh=>by rw [isD_rng.2 hh]at h;cases h
 omega
theorem u8_sub {b:UInt8} (h:isD b=true):IntKind.u64.wrap (IntKind.u8.wrap ((b.toNat:Int)-48))=((b.toNat-48:Nat):Int):=by
 have:=isD_rng.1 h
 have e:IntKind.u8.wrap ((b.toNat:Int)-48)=((b.toNat-48:Nat):Int):=by
  simp [IntKind.wrap,IntKind.bits,IntKind.signed]
  omega
 rw [e]
 exact u64w (by omega) (by omega)
theorem takeD_all {s:List UInt8} {k:Nat} (hk:k<s.length) (h1:(s.take k).all isD=true) (h2:isD s[k]=true):(s.take (k+1)).all isD=true:=by
 rw [List.take_add_one,List.all_append,h1,List.getElem?_eq_getElem hk]
 simpa using h2
theorem all_at {s:List UInt8} {k:Nat} (hk:k<s.length) (h:isD s[k]=false):s.all isD=false:=by
 cases hh:s.all isD with
 | false=>rfl
 | true=>rw [List.all_eq_true.1 hh _ (List.getElem_mem hk)]at h;cases h
theorem takeD_val {s:List UInt8} {k:Nat} (hk:k<s.length):valD (s.take (k+1))=valD (s.take k)*10+(s[k].toNat-48):=by
 rw [List.take_add_one,List.getElem?_eq_getElem hk]
 exact valD_end _ _
theorem valD_400 {s:List UInt8} (hs:s.length≤400) (ha:s.all isD=true) (k:Nat):valD (s.take k)<10 ^ e400:=by
 have h1:(s.take k).all isD=true:=List.all_eq_true.2 fun x hx=>List.all_eq_true.1 ha x (List.mem_of_mem_take hx)
 refine Nat.lt_of_lt_of_le (valD_low _ _ rfl h1) (Nat.pow_le_pow_right (by omega) ?_)
 rw [List.length_take]
 unfold e400
 omega
def natE (s:List UInt8):Int:=bif s.isEmpty then 2 else bif s.head? == some 48 && decide (1<s.length) then 2 else bif s.all isD then (bif decide (400<s.length) then 5 else 0) else 2
def natA (s:List UInt8):List Nat × Int × Unit:=bif s.all isD then (bif decide (400<s.length) then ([],5,()) else (limbsK (valD s),0,())) else ([],2,())
section
variable (n:Nat)
theorem nParse_e (s:List UInt8) (hs:s.length≤4294967296):EF fuel (n+2) 116 [vS s] [.c .nat,.c (.int .i64)]=some (bif natE s == 0 then (limbsK (valD s),0,()) else ([],natE s,())):=by
 have key:∀{K:Option (Ans (denL [tN,tI]))} {st:denL [tN,tI,tI]→Option (Ans (denL [tN,tI]))} , (∀k,(hk:k<s.length)→st ([],(k:Int),0,())=bif isD s[k] then some (.cont 0 [tN,tI,tI] ([],((k+1:Nat):Int),0,())) else some (.ret ([],2,())))→st ([],(s.length:Int),0,())=K→(s.all isD=true→K=some (.ret (natA s)))→loopA 0 [tN,tI,tI] st fuel ([],0,0,())=some (.ret (natA s)):=by
  intro K st h1 h2 h3
  refine loopA_inv (ts:=[tN,tI,tI]) (fun x=>∃k,k≤s.length∧x=([],(k:Int),0,())∧(s.take k).all isD=true) (fun (x:List Nat × Int × Int × Unit)=>s.length-x.2.1.toNat) (fun x hx=>?_) _ ⟨0,by omega,rfl,by simp⟩ (fuel_lt (by omega))
  obtain ⟨k,hk,rfl,ha⟩:=hx
  by_cases hk2:k=s.length
  ·subst hk2
   rw [List.take_length]at ha
   exact .inl ⟨by rw [h2,h3 ha],rfl⟩
  ·have hk3:k<s.length:=by omega
   rw [h1 k hk3]
   cases hd:isD s[k]with
   | false=>exact .inl ⟨by rw [cond_false];unfold natA;rw [all_at hk3 hd];rfl,rfl⟩
   | true =>
    refine .inr ⟨_,rfl,⟨k+1,by omega,rfl,takeD_all hk3 ha hd⟩,?_⟩
    show s.length-((k+1:Nat):Int).toNat<s.length-(k:Int).toNat
    omega
 refine (nParse_m (n+1) s).trans ?_
 have c48:∀b:UInt8,((b.toNat:Int) == 48)=(b == 48):=fun b=>by
  rw [Bool.eq_iff_iff,beq_iff_eq,beq_iff_eq]
  refine ⟨fun h=>UInt8.toNat_inj.1 (by show b.toNat=48;omega),fun h=>by rw [h];rfl⟩
 have fin:∀(q:Bool),natE s=(bif q then natE s else natE s):=fun q=>by cases q <;> rfl
 cases s with
 | nil=>rfl
 | cons b0 s0 =>
  have hne:((b0 :: s0:List UInt8) == [])=false:=rfl
  rw [hne,cond_false,show ix (b0 :: s0) 0=some b0 from rfl,Option.bind_some,c48]
  generalize hs':b0 :: s0=s at *
  have hnil:s.isEmpty=false:=by subst hs';rfl
  have hh:s.head? = some b0:=by subst hs';rfl
  have lp:∀{o:Option (Ans (denL [tN,tI]))},o=some (.ret (natA s))→(b0 == 48 && decide (1<s.length))=false→unwrapA o=some (bif natE s == 0 then (limbsK (valD s),0,()) else ([],natE s,())):=by
   intro o ho hz
   rw [ho]
   unfold natE natA
   rw [hnil,hh,show ((some b0:Option UInt8) == some 48)=(b0 == 48)from rfl,hz,cond_false,cond_false]
   cases s.all isD
   ·rfl
   ·cases decide (400<s.length) <;> rfl
  have main:∀{o:Option (Ans (denL [tN,tI]))},o=loopA 0 [tN,tI,tI] (fun x=>bif decide (x.snd.fst<(Nat.cast (R:=Int) (List.length s))) then (ix s x.snd.fst).bind fun b=>bif decide ((Nat.cast (R:=Int) b.toNat)<48) then some (.ret ([],2,())) else (ix s x.snd.fst).bind fun b=>bif decide (57<(Nat.cast (R:=Int) b.toNat)) then some (.ret ([],2,())) else some (.cont 0 [tN,tI,tI] (x.fst,IntKind.i64.wrap (x.snd.fst+1),x.snd.snd.fst,())) else bif decide (400<(Nat.cast (R:=Int) (List.length s))) then some (.ret ([],5,())) else (EF fuel (n+1) 136 [V.o (V0.c { t:=VT.int IntKind.u64,x:=10 })] [Sg.c tN]).bind fun x=>loopA 0 [tN,tI] (fun x_1=>bif decide (x_1.snd.fst<(Nat.cast (R:=Int) (List.length s))) then (EF fuel (n+1) 138 [vN x_1.fst,vN x.fst] [Sg.c tN]).bind fun x=>(ix s x_1.snd.fst).bind fun b=>(EF fuel (n+1) 136 [V.o (V0.c { t:=VT.int IntKind.u64,x:=IntKind.u64.wrap (IntKind.u8.wrap ((Nat.cast (R:=Int) b.toNat)-48)) })] [Sg.c tN]).bind fun x_2=>(EF fuel (n+1) 137 [vN x.fst,vN x_2.fst] [Sg.c tN]).bind fun x=>some (.cont 0 [tN,tI] (x.fst,IntKind.i64.wrap (x_1.snd.fst+1),())) else some (.ret (x_1.fst,0,()))) fuel ([],0,())) fuel ([],0,0,())→o=some (.ret (natA s)):=by
   intro o ho
   rw [ho]
   refine key (fun k hk=>?_) rfl (fun ha=>?_)
   ·dsimp only
    rw [dlt hk,cond_true,ix_lt hk,Option.bind_some]
    cases hd:isD s[k]with
    | false =>
     rcases not_digit hd with h|⟨h,h2⟩
     ·rw [decide_eq_true h];rfl
     ·rw [decide_eq_false h,cond_false,Option.bind_some,decide_eq_true h2];rfl
    | true =>
     obtain ⟨h1,h2⟩:=digit_int hd
     rw [decide_eq_false (by rw [h1];exact id),cond_false,Option.bind_some,decide_eq_false (by rw [h2];exact id),cond_false,cond_true,w64n (by omega)]
   ·dsimp only
    rw [dge (Nat.le_refl _),cond_false]
    unfold natA
    rw [ha,cond_true]
    have c4:decide (400<(s.length:Int))=decide (400<s.length):=decide_eq_decide.2 (by omega)
    rw [c4]
    cases h4:decide (400<s.length)with
    | true=>rfl
    | false =>
     have h4:=of_decide_eq_false h4
     rw [cond_false,cond_false,bind_go (pNOf_e n 10 (capU_ok (by omega) (by omega)))]
     refine loopA_range (R:=denL [tN,tI]) (ts:=[tN,tI]) (N:=s.length) (fun k=>(limbsK (valD (s.take k)),(k:Int),())) (fun k hk=>?_) ?_ rfl (fuel_lt (by omega))
     ·have v1:=valD_400 (by omega) ha k
      have hd:isD s[k]=true:=List.all_eq_true.1 ha _ (List.getElem_mem hk)
      have hd2:=isD_rng.1 hd
      dsimp only
      have q0:=ten_le
      have q1:capN (limbsK (valD (s.take k)))=true:=capN_400 (by omega)
      have q2:valD (s.take k)*10≤10 ^ e400*10:=by omega
      rw [dlt hk,cond_true,bind_go (pNMul_e n _ _ q1 (capN_400 (n:=(10:Int).toNat) (by show 10≤_;omega))),ix_lt hk,Option.bind_some,u8_sub hd,bind_go (pNOf_e n _ (capU_ok (by omega) (by omega)))]
      dsimp only
      rw [val_K,val_K,show Int.toNat 10=10 from rfl,bind_go (pNAdd_e n _ _ (capN_400 q2) (capN_400 (n:=((s[k].toNat-48:Nat):Int).toNat) (by rw [Int.toNat_natCast];omega))),val_K,val_K,w64n (by omega),takeD_val hk,Int.toNat_natCast]
     ·dsimp only
      rw [dge (Nat.le_refl _),cond_false,List.take_length]
  cases hz:b0 == 48
  ·rw [cond_false]
   exact lp (main rfl) (by rw [hz];rfl)
  ·rw [cond_true]
   have c1:decide (1<(s.length:Int))=decide (1<s.length):=decide_eq_decide.2 (by omega)
   rw [c1]
   cases hl:decide (1<s.length)
   ·rw [cond_false]
    exact lp (main rfl) (by rw [hl,Bool.and_false])
   ·rw [cond_true]
    unfold natE
    rw [hnil,hh,show ((some b0:Option UInt8) == some 48)=(b0 == 48)from rfl,hz,hl]
    rfl
end
end Go.Proofs.YtcaahphghaddgaaGreatDoor
set_option linter.unusedSimpArgs false
set_option linter.unusedVariables false
namespace Go.Proofs.YtcaahphghaddgaaGreatDoor
open Go.RowKit Lim
set_option maxHeartbeats 4000000 in
set_option maxRecDepth 100000 in
theorem atoi1_c (s:List UInt8) (hd:s.all isD=true) (h0:0<s.length) (h7:s.length≤9):AT 139 [str s] (.tup [i64 (valD s:Nat),.lit .nilIface]):=by
 refine ⟨⟨_,Tryz.func139,by kernel_rfl,by kernel_rfl⟩,fun w Z vs hE hz _ hrep=>?_⟩
 obtain ⟨_,rfl,q1⟩:=reps1 hrep
 obtain rfl:=q1.lit_eq
 change Calls Tryz.prog _ _ w _
 have hsz:(bs s).size=s.length:=bs_size s
 have e1:(0:Int)<((bs s).size:Nat):=by omega
 have e2:(((bs s).size:Nat):Int)<10:=by omega
 obtain ⟨b,r,rfl⟩:∃b r,s=b :: r:=by cases s with|nil=>simp at h0|cons b r=>exact ⟨b,r,rfl⟩
 have hb:=isD_rng.1 (by simpa using (List.all_eq_true.1 hd b (by simp)):isD b=true)
 have g0:(bs (b :: r)).data[0]? = some b:=rfl
 have n1:((b.toNat:Nat):Int)≠45:=by omega
 have n2:((b.toNat:Nat):Int)≠43:=by omega
 have g45:∀h,(((((bs (b :: r))[0]'h).toNat:Nat):Int) == 45)=false:=fun h=>by
  show (((b.toNat:Nat):Int) == 45)=false
  rw [beq_eq_false_iff_ne];exact n1
 have g43:∀h,(((((bs (b :: r))[0]'h).toNat:Nat):Int) == 43)=false:=fun h=>by
  show (((b.toNat:Nat):Int) == 43)=false
  rw [beq_eq_false_iff_ne];exact n2
 have e19:decide (((r.length:Nat):Int)+1<19)=true:=decide_eq_true (by simp at h7;omega)
 have e19':((r.length:Nat):Int)+1<19:=by simp at h7;omega
 go_enter Tryz.func139,Tryz.ntmps139
 go_wp2
 rw [run_bytes_of_string (P:=Tryz.prog) w 9 63 5 (bs (b :: r)) Tryz.underlying9 Tryz.underlying63 Tryz.underlying5]
 have hcell:∀(cap:Nat) (i:Nat) (hi:i<(b :: r).length),(w.drew.alloc (.cells (bytesRow (bs (b :: r)) cap) 5 ((bytesRow (bs (b :: r)) cap).size,(bytesRow (bs (b :: r)) cap).size+1))).cell? ⟨w.heap.size,i,none⟩=some (.int .u8 ((b :: r)[i]'hi).toNat):=fun cap i hi=>by
  have h:=heap_alloc_new w.drew (.cells (bytesRow (bs (b :: r)) cap) 5 ((bytesRow (bs (b :: r)) cap).size,(bytesRow (bs (b :: r)) cap).size+1))
  have h:(w.drew.alloc (.cells (bytesRow (bs (b :: r)) cap) 5 ((bytesRow (bs (b :: r)) cap).size,(bytesRow (bs (b :: r)) cap).size+1))).heap[w.heap.size]? = _:=h
  rw [Lib.cell_of_heap h]
  unfold bytesRow
  have hi':i<(bs (b :: r)).data.size:=hi
  rw [Array.getElem?_append_left (by simpa using hi'),Array.getElem?_map,Array.getElem?_eq_getElem hi']
  rfl
 have hc:=hcell (grownCap w (bs (b :: r)).size 0 5)
 clear hcell
 have hB:Below w.heap.size w (w.drew.alloc (.cells (bytesRow (bs (b :: r)) (grownCap w (bs (b :: r)).size 0 5)) 5 ((bytesRow (bs (b :: r)) (grownCap w (bs (b :: r)).size 0 5)).size,(bytesRow (bs (b :: r)) (grownCap w (bs (b :: r)).size 0 5)).size+1))):=((Below.refl _ _).drew).alloc (Nat.le_refl _) _
 generalize w.drew.alloc (.cells (bytesRow (bs (b :: r)) (grownCap w (bs (b :: r)).size 0 5)) 5 ((bytesRow (bs (b :: r)) (grownCap w (bs (b :: r)).size 0 5)).size,(bytesRow (bs (b :: r)) (grownCap w (bs (b :: r)).size 0 5)).size+1))=w1 at hc hB ⊢
 generalize grownCap w (bs (b :: r)).size 0 5=cap
 simp only [Result.andThen_ok,Oper.upon_value]
 have hL:(b :: r).length=r.length+1:=rfl
 go_wp2
 go_loopw [6,49] (fun n i wl=>∃k:Nat,i=.int .i64 k∧k≤(b :: r).length∧n=.int .i64 (valD ((b :: r).take k):Nat)∧wl=w1) (fun _ i _=>(b :: r).length-(intOf i).toNat)
 case atStart=>exact ⟨0,rfl,Nat.zero_le _,rfl,rfl⟩
 case round =>
  obtain ⟨k,rfl,hk,rfl,rfl⟩:=hrel
  by_cases hlt:k<(b :: r).length
  ·have hck:=hc k hlt
   have hx:=isD_rng.1 (List.all_eq_true.1 hd _ (List.getElem_mem hlt))
   have hv:=valD_low k ((b :: r).take k) (by rw [List.length_take];omega) (List.all_eq_true.2 fun x hx=>List.all_eq_true.1 hd x (List.mem_of_mem_take hx))
   have hp:10 ^ k≤10 ^ 9:=Nat.pow_le_pow_right (by omega) (by omega)
   have hnx:=takeD_val hlt
   generalize (b :: r)[k]=x at *
   generalize valD ((b :: r).take k)=m at *
   have hm:m<1000000000:=Nat.lt_of_lt_of_le hv hp
   go_wp2
   refine ⟨⟨k+1,by simp,by omega,?_,trivial⟩,?_⟩
   ·rw [hnx]
    congr 1
    omega
   ·simp only [intOf]
    omega
  ·obtain rfl:k=(b :: r).length:=by omega
   rw [List.take_length]
   go_wp2
   go_ret2
   refine ⟨_,rfl,hB,.tup rfl fun i hi=>?_⟩
   match i with
   | 0=>exact .lit rfl
   | 1=>exact .lit rfl
   | i+2=>exact absurd hi (by simp)
theorem atoi_c (s:List UInt8) (hd:s.all isD=true) (h0:0<s.length) (h7:s.length≤9):AT 117 [str s] (.tup [i64 (valD s:Nat),.lit .nilIface]):=by
 have T:=atoi1_c s hd h0 h7
 refine ⟨⟨_,Tryz.func117,by kernel_rfl,by kernel_rfl⟩,fun w Z vs hE hz _ hrep=>?_⟩
 obtain ⟨_,rfl,q1⟩:=reps1 hrep
 obtain rfl:=q1.lit_eq
 change Calls Tryz.prog _ _ w _
 go_enter Tryz.func117,Tryz.ntmps117
 go_wp2_with (go_at_call 139;refine (T.2 w (fun _ _=>False) _ hE (fun _ _ h=>h.elim) (fun h=>by cases h) (.agg rfl fun j hj=>by
  match j with
  | 0=>exact .lit rfl
  | j+1=>exact absurd hj (by simp))).mono ?_)
 rintro e w2 ⟨v,rfl,hb2,hr2⟩
 obtain ⟨us,rfl,hl,hu⟩:∃us:Array Value,v=.tuple us∧us.size=2∧us=#[.int .i64 (valD s:Nat),.nilIface]:=by
  cases hr2 with
  | @tup cs us hl hr =>
   refine ⟨us,rfl,hl,?_⟩
   apply Array.ext
   ·exact hl
   ·intro i hi _
    have:i<2:=by rw [hl]at hi;simpa using hi
    match i,this with
    | 0,_=>exact (hr 0 (by simp)).lit_eq
    | 1,_=>exact (hr 1 (by simp)).lit_eq
 subst hu
 go_wp2
 go_ret2
 refine ⟨_,rfl,hb2,.tup rfl fun i hi=>?_⟩
 match i with
 | 0=>exact .lit rfl
 | 1=>exact .lit rfl
 | i+2=>exact absurd hi (by simp)
end Go.Proofs.YtcaahphghaddgaaGreatDoor
set_option linter.unusedSimpArgs false
set_option linter.unusedVariables false
namespace Go.Proofs.YtcaahphghaddgaaGreatDoor
open Go.RowKit Lim
def badW (ws:List (List UInt8)):Bool:=ws.any fun w=>natE w != 0
theorem natparse_c (s:List UInt8) (hs:s.length≤4294967296):∃a,AC 116 [str s] (.tup [.nat a,i64 (natE s)]):=by
 have h:=E_ac (nParse_e 0 s hs) rfl
 cases c:natE s == 0 with
 | true =>
  rw [c]at h
  have e:natE s=0:=by simpa using c
  rw [e]
  exact ⟨_,h⟩
 | false =>
  rw [c]at h
  exact ⟨_,h⟩
set_option maxHeartbeats 2000000 in
theorem pnums_bad (ws:List (List UInt8)) (hl:ws.length≤1048576) (hw:∀w∈ws,w.length≤1048576) (hb:badW ws=true):AC 94 [.sl 1 (ws.map fun w=>str w)] (.tup [.sl 1 [],i64 2]):=by
 refine ACalls.of ⟨31,[],[]⟩ (fn:=Tryz.f94) Tryz.func94 rfl rfl rfl (by kernel_rfl) (by kernel_rfl) (Nat.le_of_ble_eq_true rfl) ?_
 simp (maxSteps:=1000000) -implicitDefEqProofs only [List.length_map,go_sem,awp_seq,Nat.reduceBEq,Nat.reduceLT]
 refine loop_mk (α:={k:Nat // k≤ws.length∧badW (ws.drop k)=true}) (fun k=>[(0,some (.av (.sl 1 (ws.map fun w=>str w)))),(2,some (.av (.lit (.slice none 0 0)))),(3,some (.av (i64 0))),(11,some (.av (.sl 1 (ws.map fun w=>str w)))),(12,some (.av (i64 (ws.length:Nat)))),(13,some (.av (i64 (k.1:Nat))))]) (fun _=>[]) (fun _=>[]) (fun k=>ws.length-k.1) ⟨0,Nat.zero_le _,hb⟩ ?_ ?_
 ·simp (maxSteps:=1000000) -implicitDefEqProofs only [go_sem,awp_seq,Nat.reduceBEq,Int.cast_ofNat_Int]
 ·rintro ⟨k,hk,hbk⟩
  by_cases hlt:k<ws.length
  ·have g1:decide (((k:Nat):Int)<(ws.length:Nat))=true:=by simp;omega
   have e1:=map_get (fun w=>str w) ws hlt
   have w1:IntKind.i64.wrap ((k:Int)+1)=((k+1:Nat):Int):=by rw [IntWalk.i64_in _ (by omega)];omega
   obtain ⟨a,N⟩:=natparse_c ws[k] (by have:=hw _ (List.getElem_mem hlt);omega)
   rw [List.drop_eq_getElem_cons hlt]at hbk
   unfold badW at hbk
   rw [List.any_cons]at hbk
   generalize ws[k]=x at *
   cases c:natE x != 0 with
   | true =>
    generalize natE x=e at *
    simp (maxSteps:=1000000) -implicitDefEqProofs only [g1,e1,Int.toNat_natCast,Int.natCast_nonneg,go_sem,awp_seq,Nat.reduceBEq,Nat.reduceLT]
    refine callA_mk (q:=[]) N ?_
    simp (maxSteps:=1000000) -implicitDefEqProofs only [c,go_sem,awp_seq,Nat.reduceBEq,Nat.reduceLT]
   | false =>
    have hbk2:badW (ws.drop (k+1))=true:=by rw [c,Bool.false_or]at hbk;exact hbk
    generalize natE x=e at *
    simp (maxSteps:=1000000) -implicitDefEqProofs only [g1,e1,Int.toNat_natCast,Int.natCast_nonneg,go_sem,awp_seq,Nat.reduceBEq,Nat.reduceLT]
    refine callA_mk (q:=[]) N ?_
    simp (maxSteps:=1000000) -implicitDefEqProofs only [c,w1,go_sem,awp_seq,Nat.reduceBEq,Nat.reduceLT]
    refine roundK_mk ⟨k+1,by omega,hbk2⟩ ?_ (by show ws.length-(k+1)<ws.length-k;omega)
    simp (maxSteps:=1000000) -implicitDefEqProofs only [go_sem,awp_seq,Nat.reduceBEq]
  ·rw [List.drop_of_length_le (by omega)]at hbk
   exact absurd hbk (by decide)
end Go.Proofs.YtcaahphghaddgaaGreatDoor
set_option linter.unusedSimpArgs false
set_option linter.unusedVariables false
namespace Go.Proofs.YtcaahphghaddgaaGreatDoor
open Go.RowKit Lim
theorem natE_ok {s:List UInt8} (h:natE s=0):s.all isD=true∧0<s.length:=by
 cases s with
 | nil=>exact absurd h (by decide)
 | cons b r =>
  refine ⟨?_,by simp⟩
  unfold natE at h
  simp only [List.isEmpty_cons,cond_false]at h
  cases hc:((b :: r).head? == some 48 && decide (1<(b :: r).length))with
  | true=>rw [hc,cond_true]at h;exact absurd h (by decide)
  | false =>
   rw [hc,cond_false]at h
   cases ha:(b :: r).all isD with
   | true=>rfl
   | false=>rw [ha,cond_false]at h;exact absurd h (by decide)
def pRow (ws:List (List UInt8)) (k:Nat):List AV:=(ws.take k).map (fun w=>i64 (valD w:Nat)) ++ List.replicate (ws.length-k) (i64 0)
theorem pRow_len (ws:List (List UInt8)) (k:Nat) (h:k≤ws.length):(pRow ws k).length=ws.length:=by simp [pRow];omega
theorem pRow_set (ws:List (List UInt8)) (k:Nat) (h:k<ws.length):(pRow ws k).set k (i64 (valD ws[k]:Nat))=pRow ws (k+1):=by
 unfold pRow
 have hl:((ws.take k).map (fun w=>i64 (valD w:Nat))).length=k:=by simp;omega
 rw [List.set_append_right _ _ (by omega),hl,Nat.sub_self,show ws.length-k=(ws.length-(k+1))+1 by omega,List.replicate_succ,List.set_cons_zero,List.take_succ_eq_append_getElem h,List.map_append]
 simp
set_option maxHeartbeats 4000000 in
theorem pnums_ok (ws:List (List UInt8)) (hl:ws.length≤1000) (hg:∀w∈ws,natE w=0) (h7:∀w∈ws,w.length≤7):AC 94 [.sl 1 (ws.map fun w=>str w)] (.tup [.sl 1 (ws.map fun w=>i64 (valD w:Nat)),i64 0]):=by
 have h1:(0:Int)≤(ws.length:Nat):=by omega
 refine ACalls.of ⟨31,[],[]⟩ (fn:=Tryz.f94) Tryz.func94 rfl rfl rfl (by kernel_rfl) (by kernel_rfl) (Nat.le_of_ble_eq_true rfl) ?_
 simp (maxSteps:=1000000) -implicitDefEqProofs only [List.length_map,go_sem,awp_seq,Nat.reduceBEq,Nat.reduceLT]
 refine loop_mk (α:={k:Nat // k≤ws.length}) (fun k=>[(0,some (.av (.sl 1 (ws.map fun w=>str w)))),(2,some (.av (.lit (.slice none 0 0)))),(3,some (.av (i64 0))),(11,some (.av (.sl 1 (ws.map fun w=>str w)))),(12,some (.av (i64 (ws.length:Nat)))),(13,some (.av (i64 (k.1:Nat))))]) (fun _=>[]) (fun _=>[]) (fun k=>ws.length-k.1) ⟨0,Nat.zero_le _⟩ ?_ ?_
 ·simp (maxSteps:=1000000) -implicitDefEqProofs only [go_sem,awp_seq,Nat.reduceBEq,Int.cast_ofNat_Int]
 rintro ⟨k,hk⟩
 by_cases hlt:k<ws.length
 ·have g1:decide (((k:Nat):Int)<(ws.length:Nat))=true:=by simp;omega
  have e1:=map_get (fun w=>str w) ws hlt
  have w1:IntKind.i64.wrap ((k:Int)+1)=((k+1:Nat):Int):=by rw [IntWalk.i64_in _ (by omega)];omega
  obtain ⟨a,N⟩:=natparse_c ws[k] (by have:=h7 _ (List.getElem_mem hlt);omega)
  rw [hg _ (List.getElem_mem hlt)]at N
  generalize ws[k]=x at *
  have c:((0:Int) != 0)=false:=rfl
  simp (maxSteps:=1000000) -implicitDefEqProofs only [g1,e1,Int.toNat_natCast,Int.natCast_nonneg,go_sem,awp_seq,Nat.reduceBEq,Nat.reduceLT]
  refine callA_mk (q:=[]) N ?_
  simp (maxSteps:=1000000) -implicitDefEqProofs only [c,w1,go_sem,awp_seq,Nat.reduceBEq,Nat.reduceLT]
  refine roundK_mk ⟨k+1,by omega⟩ ?_ (by show ws.length-(k+1)<ws.length-k;omega)
  simp (maxSteps:=1000000) -implicitDefEqProofs only [go_sem,awp_seq,Nat.reduceBEq]
 ·have g1:decide (((k:Nat):Int)<(ws.length:Nat))=false:=by simp;omega
  simp (maxSteps:=1000000) -implicitDefEqProofs only [g1,h1,List.length_map,Int.toNat_natCast,go_sem,awp_seq,Nat.reduceBEq,Nat.reduceLT,Int.cast_ofNat_Int]
  refine ⟨by omega,by omega,by omega,?_⟩
  have p0:List.replicate ws.length (AV.lit (.int .i64 0))=pRow ws 0:=by simp [pRow]
  refine loop_mk (α:={k:Nat // k≤ws.length}) (fun k=>[(0,some (.av (.sl 1 (ws.map fun w=>str w)))),(2,some (.av (.lit (.slice none 0 0)))),(3,some (.av (i64 0))),(8,some (.osl 27 1 0 ws.length)),(28,some (.av (.sl 1 (ws.map fun w=>str w)))),(29,some (.av (i64 (ws.length:Nat)))),(30,some (.av (i64 (k.1:Nat))))]) (fun _=>[]) (fun k=>[(27,.row 3 1 (pRow ws k.1))]) (fun k=>ws.length-k.1) ⟨0,Nat.zero_le _⟩ ?_ ?_
  ·simp (maxSteps:=1000000) -implicitDefEqProofs only [go_sem,awp_seq,Nat.reduceBEq,Int.cast_ofNat_Int]
   rw [p0]
  rintro ⟨k,hk⟩
  by_cases hlt:k<ws.length
  ·have g1:decide (((k:Nat):Int)<(ws.length:Nat))=true:=by simp;omega
   have e1:=map_get (fun w=>str w) ws hlt
   have w1:IntKind.i64.wrap ((k:Int)+1)=((k+1:Nat):Int):=by rw [IntWalk.i64_in _ (by omega)];omega
   have hx:=natE_ok (hg _ (List.getElem_mem hlt))
   have h7x:=h7 _ (List.getElem_mem hlt)
   have A:=atoi_c ws[k] hx.1 hx.2 (by omega)
   have c7:decide ((7:Int)<(ws[k].length:Nat))=false:=by simp;omega
   have ps:=pRow_set ws k hlt
   have pl:=pRow_len ws k hk
   obtain ⟨y,pg⟩:∃y,(pRow ws k)[k]? = some y:=⟨_,List.getElem?_eq_getElem (by rw [pl];exact hlt)⟩
   generalize ws[k]=x at *
   simp (maxSteps:=1000000) -implicitDefEqProofs only [g1,e1,c7,bs_size,Int.toNat_natCast,Int.natCast_nonneg,go_sem,awp_seq,Nat.reduceBEq,Nat.reduceLeDiff,Nat.reduceLT]
   refine callA_t A ?_
   simp (maxSteps:=1000000) -implicitDefEqProofs only [w1,pl,ps,pg,hlt,Int.toNat_natCast,Int.natCast_nonneg,go_sem,awp_seq,Nat.reduceBEq,Nat.reduceLeDiff,Nat.reduceLT]
   refine roundK_mk ⟨k+1,by omega⟩ ?_ (by show ws.length-(k+1)<ws.length-k;omega)
   simp (maxSteps:=1000000) -implicitDefEqProofs only [go_sem,awp_seq,Nat.reduceBEq]
  ·have g1:decide (((k:Nat):Int)<(ws.length:Nat))=false:=by simp;omega
   obtain rfl:k=ws.length:=by omega
   simp (maxSteps:=1000000) -implicitDefEqProofs only [g1,go_sem,awp_seq,Nat.reduceBEq,Nat.reduceLT]
   refine ⟨by rw [pRow_len ws _ (Nat.le_refl _)];exact Nat.le_refl _,?_⟩
   rw [List.take_of_length_le (by rw [pRow_len ws _ (Nat.le_refl _)];exact Nat.le_refl _)]
   simp [pRow]
set_option maxHeartbeats 4000000 in
theorem pnums_far (ws:List (List UInt8)) (hl:ws.length≤1000) (hg:∀w∈ws,natE w=0) (h7:∀w∈ws,w.length≤1048576) (hb:(ws.any fun w=>decide (7<w.length))=true):AC 94 [.sl 1 (ws.map fun w=>str w)] (.tup [.sl 1 [],i64 3]):=by
 have h1:(0:Int)≤(ws.length:Nat):=by omega
 refine ACalls.of ⟨31,[],[]⟩ (fn:=Tryz.f94) Tryz.func94 rfl rfl rfl (by kernel_rfl) (by kernel_rfl) (Nat.le_of_ble_eq_true rfl) ?_
 simp (maxSteps:=1000000) -implicitDefEqProofs only [List.length_map,go_sem,awp_seq,Nat.reduceBEq,Nat.reduceLT]
 refine loop_mk (α:={k:Nat // k≤ws.length}) (fun k=>[(0,some (.av (.sl 1 (ws.map fun w=>str w)))),(2,some (.av (.lit (.slice none 0 0)))),(3,some (.av (i64 0))),(11,some (.av (.sl 1 (ws.map fun w=>str w)))),(12,some (.av (i64 (ws.length:Nat)))),(13,some (.av (i64 (k.1:Nat))))]) (fun _=>[]) (fun _=>[]) (fun k=>ws.length-k.1) ⟨0,Nat.zero_le _⟩ ?_ ?_
 ·simp (maxSteps:=1000000) -implicitDefEqProofs only [go_sem,awp_seq,Nat.reduceBEq,Int.cast_ofNat_Int]
 rintro ⟨k,hk⟩
 by_cases hlt:k<ws.length
 ·have g1:decide (((k:Nat):Int)<(ws.length:Nat))=true:=by simp;omega
  have e1:=map_get (fun w=>str w) ws hlt
  have w1:IntKind.i64.wrap ((k:Int)+1)=((k+1:Nat):Int):=by rw [IntWalk.i64_in _ (by omega)];omega
  obtain ⟨a,N⟩:=natparse_c ws[k] (by have:=h7 _ (List.getElem_mem hlt);omega)
  rw [hg _ (List.getElem_mem hlt)]at N
  generalize ws[k]=x at *
  have c:((0:Int) != 0)=false:=rfl
  simp (maxSteps:=1000000) -implicitDefEqProofs only [g1,e1,Int.toNat_natCast,Int.natCast_nonneg,go_sem,awp_seq,Nat.reduceBEq,Nat.reduceLT]
  refine callA_mk (q:=[]) N ?_
  simp (maxSteps:=1000000) -implicitDefEqProofs only [c,w1,go_sem,awp_seq,Nat.reduceBEq,Nat.reduceLT]
  refine roundK_mk ⟨k+1,by omega⟩ ?_ (by show ws.length-(k+1)<ws.length-k;omega)
  simp (maxSteps:=1000000) -implicitDefEqProofs only [go_sem,awp_seq,Nat.reduceBEq]
 ·have g1:decide (((k:Nat):Int)<(ws.length:Nat))=false:=by simp;omega
  simp (maxSteps:=1000000) -implicitDefEqProofs only [g1,h1,List.length_map,Int.toNat_natCast,go_sem,awp_seq,Nat.reduceBEq,Nat.reduceLT,Int.cast_ofNat_Int]
  refine ⟨by omega,by omega,by omega,?_⟩
  have p0:List.replicate ws.length (AV.lit (.int .i64 0))=pRow ws 0:=by simp [pRow]
  refine loop_mk (α:={k:Nat // k≤ws.length∧((ws.drop k).any fun w=>decide (7<w.length))=true}) (fun k=>[(0,some (.av (.sl 1 (ws.map fun w=>str w)))),(2,some (.av (.lit (.slice none 0 0)))),(3,some (.av (i64 0))),(8,some (.osl 27 1 0 ws.length)),(28,some (.av (.sl 1 (ws.map fun w=>str w)))),(29,some (.av (i64 (ws.length:Nat)))),(30,some (.av (i64 (k.1:Nat))))]) (fun _=>[]) (fun k=>[(27,.row 3 1 (pRow ws k.1))]) (fun k=>ws.length-k.1) ⟨0,Nat.zero_le _,hb⟩ ?_ ?_
  ·simp (maxSteps:=1000000) -implicitDefEqProofs only [go_sem,awp_seq,Nat.reduceBEq,Int.cast_ofNat_Int]
   rw [p0]
  rintro ⟨k,hk,hbk⟩
  by_cases hlt:k<ws.length
  ·have g1:decide (((k:Nat):Int)<(ws.length:Nat))=true:=by simp;omega
   have e1:=map_get (fun w=>str w) ws hlt
   have w1:IntKind.i64.wrap ((k:Int)+1)=((k+1:Nat):Int):=by rw [IntWalk.i64_in _ (by omega)];omega
   have hx:=natE_ok (hg _ (List.getElem_mem hlt))
   have h7x:=h7 _ (List.getElem_mem hlt)
   rw [List.drop_eq_getElem_cons hlt,List.any_cons]at hbk
   have ps:=pRow_set ws k hlt
   have pl:=pRow_len ws k hk
   obtain ⟨y,pg⟩:∃y,(pRow ws k)[k]? = some y:=⟨_,List.getElem?_eq_getElem (by rw [pl];exact hlt)⟩
   generalize ws[k]=x at *
   by_cases hx7:7<x.length
   ·have c7:decide ((7:Int)<(x.length:Nat))=true:=by simp;omega
    simp (maxSteps:=1000000) -implicitDefEqProofs only [g1,e1,c7,bs_size,Int.toNat_natCast,Int.natCast_nonneg,go_sem,awp_seq,Nat.reduceBEq,Nat.reduceLeDiff,Nat.reduceLT]
   ·have c7:decide ((7:Int)<(x.length:Nat))=false:=by simp;omega
    rw [decide_eq_false hx7,Bool.false_or]at hbk
    have A:=atoi_c x hx.1 hx.2 (by omega)
    simp (maxSteps:=1000000) -implicitDefEqProofs only [g1,e1,c7,bs_size,Int.toNat_natCast,Int.natCast_nonneg,go_sem,awp_seq,Nat.reduceBEq,Nat.reduceLeDiff,Nat.reduceLT]
    refine callA_t A ?_
    simp (maxSteps:=1000000) -implicitDefEqProofs only [w1,pl,ps,pg,hlt,Int.toNat_natCast,Int.natCast_nonneg,go_sem,awp_seq,Nat.reduceBEq,Nat.reduceLeDiff,Nat.reduceLT]
    refine roundK_mk ⟨k+1,by omega,hbk⟩ ?_ (by show ws.length-(k+1)<ws.length-k;omega)
    simp (maxSteps:=1000000) -implicitDefEqProofs only [go_sem,awp_seq,Nat.reduceBEq]
  ·rw [List.drop_of_length_le (by omega)]at hbk
   exact absurd hbk (by decide)
end Go.Proofs.YtcaahphghaddgaaGreatDoor
set_option linter.unusedSimpArgs false
set_option linter.unusedVariables false
namespace Go.Proofs.YtcaahphghaddgaaGreatDoor
open Go.RowKit Lim
def formE (w:List UInt8):Int × Int :=
 if (w == [99,111,110,116,101,110,116])=true then (1,4) else
 if (w == [119,111,114,100,115])=true then (2,2) else
 if (w == [115,101,99,111,110,100,115])=true then (3,2) else
 if (w == [112,111,105,110,116,115])=true then (4,3) else
 if (w == [107,101,121])=true then (5,4) else
 if (w == [115,101,116])=true then (6,4) else
 if (w == [105,110,99,108,117,100,101])=true then (7,2) else
 if (w == [101,120,99,108,117,100,101])=true then (8,2) else
 if (w == [102,97,109,105,108,105,101,115])=true then (9,1) else
 (0,0)
set_option maxHeartbeats 1000000 in
theorem form_c (w:List UInt8):AT 95 [str w] (.tup [i64 (formE w).1,i64 (formE w).2]):=by
 unfold formE
 cases c1:(w == [99,111,110,116,101,110,116])with
 | true =>
  simp only [if_true,if_false,Bool.false_eq_true]
  refine ACalls.of ⟨5,[],[]⟩ (fn:=Tryz.f95) Tryz.func95 rfl rfl rfl (by kernel_rfl) (by kernel_rfl) (Nat.le_of_ble_eq_true rfl) ?_
  simp (maxSteps:=1000000) -implicitDefEqProofs only [mk_bs,toList_bs,c1,go_sem,awp_seq,Nat.reduceBEq,Nat.reduceLeDiff,Nat.reduceLT]
 | false =>
 cases c2:(w == [119,111,114,100,115])with
 | true =>
  simp only [if_true,if_false,Bool.false_eq_true]
  refine ACalls.of ⟨5,[],[]⟩ (fn:=Tryz.f95) Tryz.func95 rfl rfl rfl (by kernel_rfl) (by kernel_rfl) (Nat.le_of_ble_eq_true rfl) ?_
  simp (maxSteps:=1000000) -implicitDefEqProofs only [mk_bs,toList_bs,c1,c2,go_sem,awp_seq,Nat.reduceBEq,Nat.reduceLeDiff,Nat.reduceLT]
 | false =>
 cases c3:(w == [115,101,99,111,110,100,115])with
 | true =>
  simp only [if_true,if_false,Bool.false_eq_true]
  refine ACalls.of ⟨5,[],[]⟩ (fn:=Tryz.f95) Tryz.func95 rfl rfl rfl (by kernel_rfl) (by kernel_rfl) (Nat.le_of_ble_eq_true rfl) ?_
  simp (maxSteps:=1000000) -implicitDefEqProofs only [mk_bs,toList_bs,c1,c2,c3,go_sem,awp_seq,Nat.reduceBEq,Nat.reduceLeDiff,Nat.reduceLT]
 | false =>
 cases c4:(w == [112,111,105,110,116,115])with
 | true =>
  simp only [if_true,if_false,Bool.false_eq_true]
  refine ACalls.of ⟨5,[],[]⟩ (fn:=Tryz.f95) Tryz.func95 rfl rfl rfl (by kernel_rfl) (by kernel_rfl) (Nat.le_of_ble_eq_true rfl) ?_
  simp (maxSteps:=1000000) -implicitDefEqProofs only [mk_bs,toList_bs,c1,c2,c3,c4,go_sem,awp_seq,Nat.reduceBEq,Nat.reduceLeDiff,Nat.reduceLT]
 | false =>
 cases c5:(w == [107,101,121])with
 | true =>
  simp only [if_true,if_false,Bool.false_eq_true]
  refine ACalls.of ⟨5,[],[]⟩ (fn:=Tryz.f95) Tryz.func95 rfl rfl rfl (by kernel_rfl) (by kernel_rfl) (Nat.le_of_ble_eq_true rfl) ?_
  simp (maxSteps:=1000000) -implicitDefEqProofs only [mk_bs,toList_bs,c1,c2,c3,c4,c5,go_sem,awp_seq,Nat.reduceBEq,Nat.reduceLeDiff,Nat.reduceLT]
 | false =>
 cases c6:(w == [115,101,116])with
 | true =>
  simp only [if_true,if_false,Bool.false_eq_true]
  refine ACalls.of ⟨5,[],[]⟩ (fn:=Tryz.f95) Tryz.func95 rfl rfl rfl (by kernel_rfl) (by kernel_rfl) (Nat.le_of_ble_eq_true rfl) ?_
  simp (maxSteps:=1000000) -implicitDefEqProofs only [mk_bs,toList_bs,c1,c2,c3,c4,c5,c6,go_sem,awp_seq,Nat.reduceBEq,Nat.reduceLeDiff,Nat.reduceLT]
 | false =>
 cases c7:(w == [105,110,99,108,117,100,101])with
 | true =>
  simp only [if_true,if_false,Bool.false_eq_true]
  refine ACalls.of ⟨5,[],[]⟩ (fn:=Tryz.f95) Tryz.func95 rfl rfl rfl (by kernel_rfl) (by kernel_rfl) (Nat.le_of_ble_eq_true rfl) ?_
  simp (maxSteps:=1000000) -implicitDefEqProofs only [mk_bs,toList_bs,c1,c2,c3,c4,c5,c6,c7,go_sem,awp_seq,Nat.reduceBEq,Nat.reduceLeDiff,Nat.reduceLT]
 | false =>
 cases c8:(w == [101,120,99,108,117,100,101])with
 | true =>
  simp only [if_true,if_false,Bool.false_eq_true]
  refine ACalls.of ⟨5,[],[]⟩ (fn:=Tryz.f95) Tryz.func95 rfl rfl rfl (by kernel_rfl) (by kernel_rfl) (Nat.le_of_ble_eq_true rfl) ?_
  simp (maxSteps:=1000000) -implicitDefEqProofs only [mk_bs,toList_bs,c1,c2,c3,c4,c5,c6,c7,c8,go_sem,awp_seq,Nat.reduceBEq,Nat.reduceLeDiff,Nat.reduceLT]
 | false =>
 cases c9:(w == [102,97,109,105,108,105,101,115])with
 | true =>
  simp only [if_true,if_false,Bool.false_eq_true]
  refine ACalls.of ⟨5,[],[]⟩ (fn:=Tryz.f95) Tryz.func95 rfl rfl rfl (by kernel_rfl) (by kernel_rfl) (Nat.le_of_ble_eq_true rfl) ?_
  simp (maxSteps:=1000000) -implicitDefEqProofs only [mk_bs,toList_bs,c1,c2,c3,c4,c5,c6,c7,c8,c9,go_sem,awp_seq,Nat.reduceBEq,Nat.reduceLeDiff,Nat.reduceLT]
 | false =>
 simp only [if_false,Bool.false_eq_true]
 refine ACalls.of ⟨5,[],[]⟩ (fn:=Tryz.f95) Tryz.func95 rfl rfl rfl (by kernel_rfl) (by kernel_rfl) (Nat.le_of_ble_eq_true rfl) ?_
 simp (maxSteps:=1000000) -implicitDefEqProofs only [mk_bs,toList_bs,c1,c2,c3,c4,c5,c6,c7,c8,c9,go_sem,awp_seq,Nat.reduceBEq,Nat.reduceLeDiff,Nat.reduceLT]
end Go.Proofs.YtcaahphghaddgaaGreatDoor
set_option linter.unusedSimpArgs false
set_option linter.unusedVariables false
namespace Go.Proofs.YtcaahphghaddgaaGreatDoor
open Go.RowKit Lim
theorem consK_len (b:UInt8) (m:Nat):∀L:List (List UInt8),(∀x∈L,x.length≤m)→∀x∈consK b L,x.length≤m+1
 | [],_,x,hx=>by simp [consK]at hx;subst hx;simp
 | y :: r,h,x,hx=>by
  simp only [consK,List.mem_cons]at hx
  rcases hx with rfl|hx
  ·have:=h y (by simp);simp;omega
  ·have:=h x (by simp [hx]);omega
theorem splK_mem (c:UInt8):∀(s:List UInt8),∀x∈splK c s,x.length≤s.length
 | [],x,hx=>by simp [splK]at hx;subst hx;simp
 | b :: l,x,hx=>by
  unfold splK at hx
  cases hc:b == c with
  | true =>
   rw [hc,cond_true]at hx
   rcases List.mem_cons.1 hx with rfl|hx
   ·simp
   ·have:=splK_mem c l x hx;simp;omega
  | false =>
   rw [hc,cond_false]at hx
   exact consK_len b l.length _ (splK_mem c l) x hx
def numsE (ws:List (List UInt8)):Int:=if badW ws=true then 2 else if (ws.any fun w=>decide (7<w.length))=true then 3 else 0
def numsV (ws:List (List UInt8)):List Int:=if numsE ws=0 then ws.map fun w=>((valD w:Nat):Int) else []
theorem pnums_c (ws:List (List UInt8)) (hl:ws.length≤1000) (hw:∀w∈ws,w.length≤1048576):AC 94 [.sl 1 (ws.map fun w=>str w)] (.tup [.sl 1 ((numsV ws).map fun z=>i64 z),i64 (numsE ws)]):=by
 unfold numsV
 by_cases hb:badW ws=true
 ·have e:numsE ws=2:=by unfold numsE;rw [if_pos hb]
  rw [e,if_neg (by decide)]
  exact pnums_bad ws (by omega) hw hb
 have hg:∀w∈ws,natE w=0:=fun w hx=>by
  apply Classical.byContradiction
  intro hne
  exact hb (List.any_eq_true.2 ⟨w,hx,by simpa using hne⟩)
 by_cases h7:(ws.any fun w=>decide (7<w.length))=true
 ·have e:numsE ws=3:=by unfold numsE;rw [if_neg hb,if_pos h7]
  rw [e,if_neg (by decide)]
  exact pnums_far ws hl hg hw h7
 ·have e:numsE ws=0:=by unfold numsE;rw [if_neg hb,if_neg h7]
  rw [e,if_pos rfl,List.map_map]
  exact pnums_ok ws hl hg fun w hx=>by
   apply Classical.byContradiction
   intro hne
   exact h7 (List.any_eq_true.2 ⟨w,hx,by simp;omega⟩)
end Go.Proofs.YtcaahphghaddgaaGreatDoor
set_option linter.unusedSimpArgs false
set_option linter.unusedVariables false
namespace Go.Proofs.YtcaahphghaddgaaGreatDoor
open Go.RowKit Lim
def isLen (a:List UInt8):Bool:=a == [108,101,110,103,116,104]
def plenE (ws:List (List UInt8)):Int × Int:=match ws with
 | [a,b]=>if isLen a=true then (if numsE [b]=0 then ((valD b:Nat):Int) else 0,numsE [b]) else (0,2)
 | _=>(0,2)
theorem slice_strs {e:TypeId} {lm:Bool} {z:List AV} {b:Nat} {k:TV→Prop} (ws:List (List UInt8)) {c:Nat} (h:c≤ws.length) (hk:k (.av (.sl 1 ((ws.drop c).map fun w=>str w)))):sliceK ⟨.slc e 1 lm,z,b⟩ (.av (.sl 1 (ws.map fun w=>str w))) (some (.av (i64 (c:Nat)))) none k:=by
 refine ⟨_,⟨rfl,c,(ws.map fun w=>str w).length,⟨rfl,by omega,by simp;omega,by simp⟩,rfl⟩,?_⟩
 rw [List.take_length,←List.map_drop]
 exact hk
set_option maxHeartbeats 2000000 in
theorem plen_c (line:List UInt8) (hl:line.length≤1048576):AC 56 [str line] (.tup [i64 (plenE (splK 32 line)).1,i64 (plenE (splK 32 line)).2]):=by
 have S:=split_k line 32 (by omega)
 have hm:=splK_mem 32 line
 have hne:=splK_ne 32 line
 have hcnt:=splK_len 32 line
 have hcl:line.count 32≤line.length:=List.count_le_length
 generalize splK 32 line=ws at *
 by_cases h2:ws.length=2
 case neg =>
  have e:plenE ws=(0,2):=by
   unfold plenE
   split
   ·exact absurd rfl h2
   ·rfl
  rw [e]
  have g:(((ws.length:Nat):Int) != 2)=true:=by rw [bne_iff_ne];omega
  refine ACalls.of ⟨7,[],[]⟩ (fn:=Tryz.f56) Tryz.func56 rfl rfl rfl (by kernel_rfl) (by kernel_rfl) (Nat.le_of_ble_eq_true rfl) ?_
  simp (maxSteps:=1000000) -implicitDefEqProofs only [go_sem,awp_seq,Nat.reduceBEq,Nat.reduceLT]
  refine callA_t S ?_
  simp (maxSteps:=1000000) -implicitDefEqProofs only [g,List.length_map,go_sem,awp_seq,Nat.reduceBEq,Nat.reduceLeDiff,Nat.reduceLT]
 obtain ⟨a,b,rfl⟩:∃a b,ws=[a,b]:=by
  match ws,h2 with
  | [a,b],_=>exact ⟨a,b,rfl⟩
 cases ca:isLen a with
 | false =>
  have e:plenE [a,b]=(0,2):=by unfold plenE;simp only [ca,if_false,Bool.false_eq_true]
  rw [e]
  have g:(a == [108,101,110,103,116,104])=false:=ca
  refine ACalls.of ⟨7,[],[]⟩ (fn:=Tryz.f56) Tryz.func56 rfl rfl rfl (by kernel_rfl) (by kernel_rfl) (Nat.le_of_ble_eq_true rfl) ?_
  simp (maxSteps:=1000000) -implicitDefEqProofs only [go_sem,awp_seq,Nat.reduceBEq,Nat.reduceLT]
  refine callA_t S ?_
  simp (maxSteps:=1000000) -implicitDefEqProofs only [mk_bs,toList_bs,g,Bool.not_false,List.map_cons,List.map_nil,go_sem,awp_seq,Nat.reduceBEq,Nat.reduceAdd,Nat.reduceLeDiff,Nat.reduceLT,Int.reduceLE,Int.reduceToNat,Int.cast_ofNat_Int]
 | true =>
  have P:=pnums_c [b] (by simp) (fun w hx=>by simp at hx;subst hx;have:=hm w (by simp);omega)
  have e:plenE [a,b]=(if numsE [b]=0 then ((valD b:Nat):Int) else 0,numsE [b]):=by unfold plenE;simp only [ca,if_true]
  rw [e]
  unfold numsV at P
  have g:(a == [108,101,110,103,116,104])=true:=ca
  by_cases h0:numsE [b]=0
  ·rw [h0,if_pos rfl]at P
   rw [h0,if_pos rfl]
   have c:((0:Int) != 0)=false:=rfl
   refine ACalls.of ⟨7,[],[]⟩ (fn:=Tryz.f56) Tryz.func56 rfl rfl rfl (by kernel_rfl) (by kernel_rfl) (Nat.le_of_ble_eq_true rfl) ?_
   simp (maxSteps:=1000000) -implicitDefEqProofs only [go_sem,awp_seq,Nat.reduceBEq,Nat.reduceLT]
   refine callA_t S ?_
   simp (maxSteps:=1000000) -implicitDefEqProofs only [mk_bs,toList_bs,g,Bool.not_true,List.map_cons,List.map_nil,go_sem,awp_seq,Nat.reduceBEq,Nat.reduceAdd,Nat.reduceLeDiff,Nat.reduceLT,Int.reduceLE,Int.reduceToNat,Int.cast_ofNat_Int]
   refine slice_strs [a,b] (c:=1) (by simp) ?_
   simp (maxSteps:=1000000) -implicitDefEqProofs only [List.drop_succ_cons,List.drop_zero,go_sem,awp_seq]
   refine callA_mk (q:=[]) P ?_
   simp (maxSteps:=1000000) -implicitDefEqProofs only [c,List.map_cons,List.map_nil,go_sem,awp_seq,Nat.reduceBEq,Nat.reduceLeDiff,Nat.reduceLT,Int.reduceLE,Int.reduceToNat]
  ·have c:(numsE [b] != 0)=true:=by simpa using h0
   rw [if_neg h0]at P
   rw [if_neg h0]
   generalize numsE [b]=e at *
   refine ACalls.of ⟨7,[],[]⟩ (fn:=Tryz.f56) Tryz.func56 rfl rfl rfl (by kernel_rfl) (by kernel_rfl) (Nat.le_of_ble_eq_true rfl) ?_
   simp (maxSteps:=1000000) -implicitDefEqProofs only [go_sem,awp_seq,Nat.reduceBEq,Nat.reduceLT]
   refine callA_t S ?_
   simp (maxSteps:=1000000) -implicitDefEqProofs only [mk_bs,toList_bs,g,Bool.not_true,List.map_cons,List.map_nil,go_sem,awp_seq,Nat.reduceBEq,Nat.reduceAdd,Nat.reduceLeDiff,Nat.reduceLT,Int.reduceLE,Int.reduceToNat,Int.cast_ofNat_Int]
   refine slice_strs [a,b] (c:=1) (by simp) ?_
   simp (maxSteps:=1000000) -implicitDefEqProofs only [List.drop_succ_cons,List.drop_zero,go_sem,awp_seq]
   refine callA_mk (q:=[]) P ?_
   simp (maxSteps:=1000000) -implicitDefEqProofs only [c,List.map_cons,List.map_nil,go_sem,awp_seq,Nat.reduceBEq,Nat.reduceLeDiff,Nat.reduceLT]
end Go.Proofs.YtcaahphghaddgaaGreatDoor
set_option linter.unusedSimpArgs false
set_option linter.unusedVariables false
namespace Go.Proofs.YtcaahphghaddgaaGreatDoor
open Go.RowKit Lim
theorem splK_app {c:UInt8} {r:List UInt8}:∀(x:List UInt8),c ∉ x→splK c (x ++ c :: r)=x :: splK c r
 | [],_=>by simp [splK]
 | b :: x,h=>by
  have hb:(b == c)=false:=by
   rw [beq_eq_false_iff_ne]
   intro e
   exact h (by rw [e];exact List.mem_cons_self)
  simp only [List.cons_append,splK,hb,cond_false]
  rw [splK_app x (fun hm=>h (List.mem_cons_of_mem _ hm))]
  rfl
theorem splK_head {c:UInt8}:∀s:List UInt8,(splK c s=[s]∧c ∉ s)∨∃x r,s=x ++ c :: r∧c ∉ x∧splK c s=x :: splK c r
 | []=>.inl ⟨rfl,by simp⟩
 | b :: s=>by
  simp only [splK]
  cases hb:b == c with
  | true =>
   have hb:=eq_of_beq hb
   subst hb
   exact .inr ⟨[],s,rfl,by simp,by simp⟩
  | false =>
   rw [beq_eq_false_iff_ne]at hb
   rw [cond_false]
   rcases splK_head (c:=c) s with ⟨h1,h2⟩|⟨x,r,h1,h2,h3⟩
   ·exact .inl ⟨by rw [h1];rfl,fun hm=>by rcases List.mem_cons.1 hm with e|e;exact hb e.symm;exact h2 e⟩
   ·exact .inr ⟨b :: x,r,by rw [h1];rfl,fun hm=>by rcases List.mem_cons.1 hm with e|e;exact hb e.symm;exact h2 e,by rw [h3];rfl⟩
theorem splK_one {c:UInt8} {x:List UInt8} (h:c ∉ x):splK c x=[x]:=by
 rcases splK_head (c:=c) x with ⟨h1,_⟩|⟨y,r,rfl,_,_⟩
 ·exact h1
 ·exact absurd (by simp) h
theorem splK_last {c:UInt8} {s x:List UInt8} (h:splK c s=[x]):s=x∧c ∉ s:=by
 rcases splK_head (c:=c) s with ⟨h1,h2⟩|⟨y,r,_,_,h3⟩
 ·rw [h1]at h;exact ⟨(List.cons.inj h).1,h2⟩
 ·rw [h3]at h
  exact absurd (List.cons.inj h).2 (splK_ne c r)
theorem splK_more {c:UInt8} {s x y:List UInt8} {l:List (List UInt8)} (h:splK c s=x :: y :: l):∃r,s=x ++ c :: r∧c ∉ x∧splK c r=y :: l:=by
 rcases splK_head (c:=c) s with ⟨h1,_⟩|⟨x',r,h1,h2,h3⟩
 ·rw [h1]at h;simp at h
 ·rw [h3]at h
  obtain ⟨e1,e2⟩:=List.cons.inj h
  subst e1
  exact ⟨r,h1,h2,e2⟩
theorem spl2 {c:UInt8} {s a b:List UInt8} (h:splK c s=[a,b]):s=a ++ c :: b:=by
 obtain ⟨r,h1,_,h2⟩:=splK_more h
 rw [h1,(splK_last h2).1]
theorem spl3 {c:UInt8} {s a b d:List UInt8} (h:splK c s=[a,b,d]):s=a ++ c :: (b ++ c :: d):=by
 obtain ⟨r,h1,_,h2⟩:=splK_more h
 rw [h1,spl2 h2]
theorem spl4 {c:UInt8} {s a b d e:List UInt8} (h:splK c s=[a,b,d,e]):s=a ++ c :: (b ++ c :: (d ++ c :: e)):=by
 obtain ⟨r,h1,_,h2⟩:=splK_more h
 rw [h1,spl3 h2]
theorem pl_dig {b:UInt8}:isD b=true ↔ 48≤b.toNat∧b.toNat≤57:=by simp [isD]
theorem pl_nat {d:Nat} (h:d<10):(UInt8.ofNat (48+d)).toNat=48+d:=by
 rw [UInt8.toNat_ofNat']
 omega
theorem pl_of {b:UInt8} (h:isD b=true):UInt8.ofNat (48+(b.toNat-48))=b:=by
 obtain ⟨h1,h2⟩:=pl_dig.1 h
 rw [show 48+(b.toNat-48)=b.toNat by omega]
 exact UInt8.ofNat_toNat
theorem pl_end (s:List UInt8) (b:UInt8):valD (s ++ [b])=valD s*10+(b.toNat-48):=by simp [valD,List.foldl_append]
theorem pl_val (n:Nat):valD (Lib.decDigits n)=n:=by
 induction n using Nat.strongRecOn with
 | _ n ih =>
  by_cases h:n<10
  ·rw [Lib.decDigits_one h]
   simp only [valD,List.foldl_cons,List.foldl_nil]
   rw [pl_nat h];omega
  ·rw [dec_big h,pl_end,ih (n / 10) (by omega),pl_nat (by omega)];omega
theorem pl_all (n:Nat):(Lib.decDigits n).all isD=true:=by
 induction n using Nat.strongRecOn with
 | _ n ih =>
  by_cases h:n<10
  ·rw [Lib.decDigits_one h]
   simp only [List.all_cons,List.all_nil,Bool.and_true]
   rw [pl_dig,pl_nat h];omega
  ·rw [dec_big h,List.all_append,ih (n / 10) (by omega)]
   simp only [List.all_cons,List.all_nil,Bool.and_true,Bool.true_and]
   rw [pl_dig,pl_nat (by omega)];omega
theorem pl_pos (n:Nat):0<(Lib.decDigits n).length:=by
 by_cases h:n<10
 ·rw [Lib.decDigits_one h];simp
 ·rw [dec_big h];simp
theorem pl_head (n:Nat) (h:0<n):(Lib.decDigits n).head?≠some 48:=by
 induction n using Nat.strongRecOn with
 | _ n ih =>
  by_cases h10:n<10
  ·rw [Lib.decDigits_one h10]
   simp only [List.head?_cons,ne_eq,Option.some.injEq]
   intro e
   have h1:=congrArg UInt8.toNat e
   rw [pl_nat h10]at h1
   simp at h1
   omega
  ·have:=ih (n / 10) (by omega) (by omega)
   rw [dec_big h10]
   cases hd:Lib.decDigits (n / 10)with
   | nil=>have:=pl_pos (n / 10);rw [hd]at this;simp at this
   | cons b l=>rw [hd]at this;simpa using this
theorem pl_len {n k:Nat} (hk:0<k) (h:n<10 ^ k):(Lib.decDigits n).length≤k:=by
 induction n using Nat.strongRecOn generalizing k with
 | _ n ih =>
  by_cases h10:n<10
  ·rw [Lib.decDigits_one h10];simp;omega
  ·obtain ⟨j,rfl⟩:=Nat.exists_eq_succ_of_ne_zero (show k≠0 by omega)
   have hj:0<j:=by
    cases j with
    | zero=>simp at h;omega
    | succ j=>omega
   have:=ih (n / 10) (by omega) hj (by rw [Nat.succ_eq_add_one,Nat.pow_succ]at h;omega)
   rw [dec_big h10]
   simp;omega
theorem pl_back:∀(k:Nat) (s:List UInt8),s.length=k→s.all isD=true→s≠[]→(1<s.length→s.head?≠some 48)→Lib.decDigits (valD s)=s∧(s.head?≠some 48→0<valD s)
 | 0,s,hk,_,hn,_=>absurd (List.length_eq_zero_iff.1 hk) hn
 | k+1,s,hk,ha,hn,hz=>by
  obtain ⟨r,b,rfl⟩:∃r b,s=r ++ [b]:=⟨s.dropLast,s.getLast hn,(List.dropLast_concat_getLast hn).symm⟩
  rw [List.all_append]at ha
  obtain ⟨ha,hb⟩:=Bool.and_eq_true_iff.1 ha
  simp only [List.all_cons,List.all_nil,Bool.and_true]at hb
  have hb2:=pl_dig.1 hb
  rw [pl_end]
  by_cases hr:r=[]
  ·subst hr
   have e:valD []=0:=rfl
   rw [e,Nat.zero_mul,Nat.zero_add,Lib.decDigits_one (by omega),pl_of hb]
   refine ⟨rfl,fun h=>?_⟩
   have:b.toNat≠48:=fun h2=>h (by simp;exact UInt8.toNat_inj.1 (by simpa using h2))
   omega
  ·have hl:1<(r ++ [b]).length:=by
    have:=List.length_pos_iff.2 hr
    simp;omega
   have hh:r.head?≠some 48:=by
    have:=hz hl
    cases r with
    | nil=>exact absurd rfl hr
    | cons c r=>simpa using this
   obtain ⟨h1,h2⟩:=pl_back k r (by simpa using hk) ha hr (fun _=>hh)
   have h3:=h2 hh
   rw [dec_big (by omega),show (valD r*10+(b.toNat-48)) / 10=valD r by omega,show (valD r*10+(b.toNat-48)) % 10=b.toNat-48 by omega,h1,pl_of hb]
   exact ⟨rfl,fun _=>by omega⟩
theorem pl_low:∀(k:Nat) (s:List UInt8),s.length=k→s.all isD=true→valD s<10 ^ k
 | 0,s,hk,_=>by rw [List.length_eq_zero_iff.1 hk];simp [valD]
 | k+1,s,hk,ha=>by
  have hn:s≠[]:=fun h=>by rw [h]at hk;simp at hk
  obtain ⟨r,b,rfl⟩:∃r b,s=r ++ [b]:=⟨s.dropLast,s.getLast hn,(List.dropLast_concat_getLast hn).symm⟩
  rw [List.all_append]at ha
  obtain ⟨ha,hb⟩:=Bool.and_eq_true_iff.1 ha
  simp only [List.all_cons,List.all_nil,Bool.and_true]at hb
  have hb2:=pl_dig.1 hb
  have:=pl_low k r (by simpa using hk) ha
  rw [pl_end,Nat.pow_succ]
  omega
abbrev nv (w:List UInt8):Int:=((valD w:Nat):Int)
theorem nv_rng {w:List UInt8} (h:natE w=0) (h7:w.length≤7):0≤nv w∧nv w≤9999999:=by
 have h1:=pl_low _ w rfl (natE_ok h).1
 have h2:10 ^ w.length≤10 ^ 7:=Nat.pow_le_pow_right (by omega) h7
 have h3:(10:Nat) ^ 7=10000000:=by decide
 show 0≤((valD w:Nat):Int)∧((valD w:Nat):Int)≤9999999
 omega
theorem nv_back {w:List UInt8} (h:natE w=0):Lib.itoa (nv w)=w:=by
 obtain ⟨h1,h2⟩:=natE_ok h
 have hn:w≠[]:=fun e=>by rw [e]at h2;simp at h2
 rw [Lib.itoa_nonneg]
 refine (pl_back _ w rfl h1 hn fun hl hh=>?_).1
 unfold natE at h
 have e1:w.isEmpty=false:=by cases w with|nil=>exact absurd rfl hn|cons _ _=>rfl
 rw [e1,cond_false,hh]at h
 have e2:((some (48:UInt8) == some 48) && decide (1<w.length))=true:=by simpa using hl
 rw [e2,cond_true]at h
 exact absurd h (by decide)
theorem itoa_dec {n:Int} (h:0≤n):Lib.itoa n=Lib.decDigits n.toNat:=by
 obtain ⟨k,rfl⟩:=Int.eq_ofNat_of_zero_le h
 rw [Lib.itoa_nonneg];rfl
theorem itoa_num {n:Int} (h0:0≤n) (h1:n≤9999999):natE (Lib.itoa n)=0∧(Lib.itoa n).length≤7∧nv (Lib.itoa n)=n:=by
 rw [itoa_dec h0]
 have t7:(10:Nat) ^ 7=10000000:=by decide
 have hl:(Lib.decDigits n.toNat).length≤7:=pl_len (by omega) (by omega)
 refine ⟨?_,hl,by show ((valD (Lib.decDigits n.toNat):Nat):Int)=n;rw [pl_val];omega⟩
 unfold natE
 have e1:(Lib.decDigits n.toNat).isEmpty=false:=by
  have:=pl_pos n.toNat
  cases hd:Lib.decDigits n.toNat with
  | nil=>rw [hd]at this;simp at this
  | cons _ _=>rfl
 have e2:((Lib.decDigits n.toNat).head? == some 48 && decide (1<(Lib.decDigits n.toNat).length))=false:=by
  by_cases hz:n.toNat<10
  ·rw [Lib.decDigits_one hz]
   simp
  ·have:=pl_head n.toNat (by omega)
   have e3:((Lib.decDigits n.toNat).head? == some 48)=false:=by simpa using this
   rw [e3];rfl
 rw [e1,cond_false,e2,cond_false,pl_all,cond_true,decide_eq_false (show ¬400<(Lib.decDigits n.toNat).length by omega),cond_false]
theorem dig_no {c:UInt8} (hc:isD c=false) {n:Int} (h:0≤n):c ∉ Lib.itoa n:=fun hm=>by
 rw [itoa_dec h]at hm
 have:=List.all_eq_true.1 (pl_all n.toNat) c hm
 rw [hc]at this;cases this
theorem nums_iff {ws:List (List UInt8)}:numsE ws=0 ↔ ∀w∈ws,natE w=0∧w.length≤7:=by
 unfold numsE
 by_cases hb:badW ws=true
 ·rw [if_pos hb]
  refine ⟨fun h=>absurd h (by decide),fun h=>?_⟩
  obtain ⟨w,hw,hn⟩:=List.any_eq_true.1 hb
  rw [(h w hw).1]at hn
  exact absurd hn (by decide)
 rw [if_neg hb]
 have hg:∀w∈ws,natE w=0:=fun w hx=>by
  apply Classical.byContradiction
  intro hne
  exact hb (List.any_eq_true.2 ⟨w,hx,by simpa using hne⟩)
 by_cases h7:(ws.any fun w=>decide (7<w.length))=true
 ·rw [if_pos h7]
  refine ⟨fun h=>absurd h (by decide),fun h=>?_⟩
  obtain ⟨w,hw,hn⟩:=List.any_eq_true.1 h7
  have:=(h w hw).2
  simp at hn
  omega
 ·rw [if_neg h7]
  refine ⟨fun _ w hx=>⟨hg w hx,?_⟩,fun _=>rfl⟩
  apply Classical.byContradiction
  intro hne
  exact h7 (List.any_eq_true.2 ⟨w,hx,by simp;omega⟩)
theorem nums_itoa {ns:List Int} (h:∀n∈ns,0≤n∧n≤9999999):numsE (ns.map Lib.itoa)=0:=nums_iff.2 fun w hw=>by
 obtain ⟨n,hn,rfl⟩:=List.mem_map.1 hw
 exact ⟨(itoa_num (h n hn).1 (h n hn).2).1,(itoa_num (h n hn).1 (h n hn).2).2.1⟩
abbrev kwCont:List UInt8:=[99,111,110,116,101,110,116]
abbrev kwWord:List UInt8:=[119,111,114,100,115]
abbrev kwSec:List UInt8:=[115,101,99,111,110,100,115]
abbrev kwPts:List UInt8:=[112,111,105,110,116,115]
abbrev kwKey:List UInt8:=[107,101,121]
abbrev kwSet:List UInt8:=[115,101,116]
abbrev kwInc:List UInt8:=[105,110,99,108,117,100,101]
abbrev kwExc:List UInt8:=[101,120,99,108,117,100,101]
abbrev kwFam:List UInt8:=[102,97,109,105,108,105,101,115]
theorem form_cases (w:List UInt8):(w=kwCont∧formE w=(1,4))∨(w=kwWord∧formE w=(2,2))∨(w=kwSec∧formE w=(3,2))∨(w=kwPts∧formE w=(4,3))∨(w=kwKey∧formE w=(5,4))∨(w=kwSet∧formE w=(6,4))∨(w=kwInc∧formE w=(7,2))∨(w=kwExc∧formE w=(8,2))∨(w=kwFam∧formE w=(9,1))∨formE w=(0,0):=by
 by_cases h1:w=kwCont
 ·subst h1;exact .inl ⟨rfl,by decide⟩
 by_cases h2:w=kwWord
 ·subst h2;exact .inr (.inl ⟨rfl,by decide⟩)
 by_cases h3:w=kwSec
 ·subst h3;exact .inr (.inr (.inl ⟨rfl,by decide⟩))
 by_cases h4:w=kwPts
 ·subst h4;exact .inr (.inr (.inr (.inl ⟨rfl,by decide⟩)))
 by_cases h5:w=kwKey
 ·subst h5;exact .inr (.inr (.inr (.inr (.inl ⟨rfl,by decide⟩))))
 by_cases h6:w=kwSet
 ·subst h6;exact .inr (.inr (.inr (.inr (.inr (.inl ⟨rfl,by decide⟩)))))
 by_cases h7:w=kwInc
 ·subst h7;exact .inr (.inr (.inr (.inr (.inr (.inr (.inl ⟨rfl,by decide⟩))))))
 by_cases h8:w=kwExc
 ·subst h8;exact .inr (.inr (.inr (.inr (.inr (.inr (.inr (.inl ⟨rfl,by decide⟩)))))))
 by_cases h9:w=kwFam
 ·subst h9;exact .inr (.inr (.inr (.inr (.inr (.inr (.inr (.inr (.inl ⟨rfl,by decide⟩))))))))
 refine .inr (.inr (.inr (.inr (.inr (.inr (.inr (.inr (.inr ?_))))))))
 unfold formE
 simp only [beq_iff_eq,h1,h2,h3,h4,h5,h6,h7,h8,h9,if_false]
abbrev zR:RuleV:=⟨0,0,0,0,[]⟩
def ruleN (k v:Int):RuleV:=if k=2∨k=3 then ⟨k,0,0,v,[]⟩ else ⟨k,v,0,0,[]⟩
def ruleP:List (List UInt8)→RuleV × Int
 | [w]=>if formE w=(9,1) then (⟨9,0,0,0,[]⟩,0) else (zR,2)
 | [w,a]=>if (formE w).2=2 then (if numsE [a]=0 then (ruleN (formE w).1 (nv a),0) else (zR,numsE [a])) else (zR,2)
 | [w,a,b]=>if formE w=(4,3) then (if numsE [a,b]=0 then (⟨4,0,nv a,nv b,[]⟩,0) else (zR,numsE [a,b])) else (zR,2)
 | [w,a,b,c]=>if formE w=(1,4) then (if a=[] then (zR,2) else if numsE [b,c]=0 then (⟨1,0,nv b,nv c,a⟩,0) else (zR,numsE [b,c]))
   else if (formE w).2=4 then (if numsE [a,b,c]=0 then (⟨(formE w).1,nv a,nv b,nv c,[]⟩,0) else (zR,numsE [a,b,c])) else (zR,2)
 | _=>(zR,2)
theorem text0 (s:List UInt8):textT s []=s:=by simp [textT,Lib.join,List.intercalate]
theorem text1 (s:List UInt8) (a:Int):textT s [a]=s ++ 32 :: Lib.itoa a:=by simp [textT,Lib.join,List.intercalate]
theorem text2 (s:List UInt8) (a b:Int):textT s [a,b]=s ++ 32 :: (Lib.itoa a ++ 32 :: Lib.itoa b):=by simp [textT,Lib.join,List.intercalate]
theorem text3 (s:List UInt8) (a b c:Int):textT s [a,b,c]=s ++ 32 :: (Lib.itoa a ++ 32 :: (Lib.itoa b ++ 32 :: Lib.itoa c)):=by simp [textT,Lib.join,List.intercalate]
end Go.Proofs.YtcaahphghaddgaaGreatDoor
set_option linter.unusedSimpArgs false
set_option linter.unusedVariables false
namespace Go.Proofs.YtcaahphghaddgaaGreatDoor
open Go.RowKit Lim
theorem if_num {c:Int} {x r:RuleV} (h:(if c=0 then (x,(0:Int)) else (zR,c))=(r,0)):c=0∧x=r:=by
 by_cases hc:c=0
 ·rw [if_pos hc]at h;exact ⟨hc,congrArg Prod.fst h⟩
 ·rw [if_neg hc]at h;exact absurd (congrArg Prod.snd h) hc
theorem zR_no {r:RuleV} {e:Int} {P:Prop} (h:(zR,e)=(r,0)) (he:e≠0):P:=absurd (congrArg Prod.snd h) he
theorem if_no {p:Prop} [Decidable p] {x:RuleV × Int} {r:RuleV} (h:(if p then x else (zR,2))=(r,0)):p∧x=(r,0):=by
 by_cases hp:p
 ·rw [if_pos hp]at h;exact ⟨hp,h⟩
 ·rw [if_neg hp]at h;exact zR_no h (by decide)
theorem in64_0:in64Z 0:=⟨by omega,by omega⟩
theorem in64_nv {w:List UInt8} (h:natE w=0) (h7:w.length≤7):in64Z (nv w):=by
 have:=nv_rng h h7
 exact ⟨by omega,by omega⟩
structure RLe (m:Nat) (r:RuleV):Prop where
 n:in64Z r.n
 lo:in64Z r.lo
 hi:in64Z r.hi
 code:r.code.length≤m
theorem rule_back {l:List UInt8} {r:RuleV} (h:ruleP (splK 32 l)=(r,0)):lineT r=l∧RLe l.length r:=by
 cases hw:splK 32 l with
 | nil=>exact absurd hw (splK_ne 32 l)
 | cons w us =>
 rw [hw]at h
 match us,hw,h with
 | [],hw,h =>
  have e1:=(splK_last hw).1
  simp only [ruleP]at h
  rcases form_cases w with ⟨e,f⟩|⟨e,f⟩|⟨e,f⟩|⟨e,f⟩|⟨e,f⟩|⟨e,f⟩|⟨e,f⟩|⟨e,f⟩|⟨e,f⟩|f <;> rw [f]at h
  case inr.inr.inr.inr.inr.inr.inr.inr.inl =>
   obtain rfl:=(congrArg Prod.fst (if_no h).2)
   refine ⟨?_,in64_0,in64_0,in64_0,Nat.zero_le _⟩
   rw [e1,e]
   exact text0 _
  all_goals exact absurd (if_no h).1 (by decide)
 | [a],hw,h =>
  have e1:=spl2 hw
  simp only [ruleP]at h
  rcases form_cases w with ⟨e,f⟩|⟨e,f⟩|⟨e,f⟩|⟨e,f⟩|⟨e,f⟩|⟨e,f⟩|⟨e,f⟩|⟨e,f⟩|⟨e,f⟩|f <;> rw [f]at h
  all_goals first
   | exact absurd (if_no h).1 (by decide)
   | skip
  all_goals obtain ⟨h1,rfl⟩:=if_num (if_no h).2
  all_goals have h2:=nums_iff.1 h1 a (by simp)
  all_goals have h3:=in64_nv h2.1 h2.2
  all_goals have h4:=nv_back h2.1
  all_goals rw [e1,e]
  ·exact ⟨(text1 _ (nv a)).trans (by rw [h4]),in64_0,in64_0,h3,Nat.zero_le _⟩
  ·exact ⟨(text1 _ (nv a)).trans (by rw [h4]),in64_0,in64_0,h3,Nat.zero_le _⟩
  ·exact ⟨(text1 _ (nv a)).trans (by rw [h4]),h3,in64_0,in64_0,Nat.zero_le _⟩
  ·exact ⟨(text1 _ (nv a)).trans (by rw [h4]),h3,in64_0,in64_0,Nat.zero_le _⟩
 | [a,b],hw,h =>
  have e1:=spl3 hw
  simp only [ruleP]at h
  rcases form_cases w with ⟨e,f⟩|⟨e,f⟩|⟨e,f⟩|⟨e,f⟩|⟨e,f⟩|⟨e,f⟩|⟨e,f⟩|⟨e,f⟩|⟨e,f⟩|f <;> rw [f]at h
  all_goals first
   | exact absurd (if_no h).1 (by decide)
   | skip
  obtain ⟨h1,rfl⟩:=if_num (if_no h).2
  have h2:=nums_iff.1 h1 a (by simp)
  have h3:=nums_iff.1 h1 b (by simp)
  rw [e1,e]
  exact ⟨(text2 _ (nv a) (nv b)).trans (by rw [nv_back h2.1,nv_back h3.1]),in64_0,in64_nv h2.1 h2.2,in64_nv h3.1 h3.2,Nat.zero_le _⟩
 | [a,b,c],hw,h =>
  have e1:=spl4 hw
  simp only [ruleP]at h
  rcases form_cases w with ⟨e,f⟩|⟨e,f⟩|⟨e,f⟩|⟨e,f⟩|⟨e,f⟩|⟨e,f⟩|⟨e,f⟩|⟨e,f⟩|⟨e,f⟩|f <;> rw [f]at h
  case inl =>
   rw [if_pos rfl]at h
   by_cases ha:a=[]
   ·rw [if_pos ha]at h;exact zR_no h (by decide)
   rw [if_neg ha]at h
   obtain ⟨h1,rfl⟩:=if_num h
   have h2:=nums_iff.1 h1 b (by simp)
   have h3:=nums_iff.1 h1 c (by simp)
   rw [e1,e]
   refine ⟨(text2 _ (nv b) (nv c)).trans ?_,in64_0,in64_nv h2.1 h2.2,in64_nv h3.1 h3.2,by simp;omega⟩
   rw [nv_back h2.1,nv_back h3.1]
   simp [kwCont]
  all_goals rw [if_neg (by decide)]at h
  all_goals first
   | exact absurd (if_no h).1 (by decide)
   | skip
  all_goals obtain ⟨h1,rfl⟩:=if_num (if_no h).2
  all_goals have h2:=nums_iff.1 h1 a (by simp)
  all_goals have h3:=nums_iff.1 h1 b (by simp)
  all_goals have h4:=nums_iff.1 h1 c (by simp)
  all_goals rw [e1,e]
  all_goals exact ⟨(text3 _ (nv a) (nv b) (nv c)).trans (by rw [nv_back h2.1,nv_back h3.1,nv_back h4.1]),in64_nv h2.1 h2.2,in64_nv h3.1 h3.2,in64_nv h4.1 h4.2,Nat.zero_le _⟩
 | _ :: _ :: _ :: _ :: _,hw,h=>exact zR_no h (by decide)
theorem idx_miss {c:UInt8} {s:List UInt8} (h:c ∉ s):Lib.index s [c] = -1:=by
 induction s with
 | nil=>rfl
 | cons b s ih =>
  simp only [List.mem_cons,not_or]at h
  unfold Lib.index
  have:([c]:List UInt8).isPrefixOf (b :: s)=false:=by
   simp [List.isPrefixOf]
   exact h.1
  rw [this,ih h.2]
  rfl
theorem idx_at {c:UInt8} {a b:List UInt8} (h:c ∉ a):Lib.index (a ++ c :: b) [c]=(a.length:Int):=by
 induction a with
 | nil =>
  rw [List.nil_append]
  unfold Lib.index
  simp [List.isPrefixOf]
 | cons x a ih =>
  simp only [List.mem_cons,not_or]at h
  rw [List.cons_append]
  unfold Lib.index
  have:([c]:List UInt8).isPrefixOf (x :: (a ++ c :: b))=false:=by
   simp [List.isPrefixOf]
   exact h.1
  rw [this,ih h.2]
  have h2:((a.length:Int) == -1)=false:=by rw [beq_eq_false_iff_ne];omega
  simp [h2]
theorem cutc_miss {c:UInt8} {s:List UInt8} (h:c ∉ s):Lib.cut s [c]=(s,[],false):=by
 unfold Lib.cut
 rw [idx_miss h]
 rfl
theorem cutc_at {c:UInt8} {a b:List UInt8} (h:c ∉ a):Lib.cut (a ++ c :: b) [c]=(a,b,true):=by
 unfold Lib.cut
 rw [idx_at h,if_pos (by omega)]
 simp
theorem seg_bytes:∀(n:Nat) (s:List UInt8),(segL n s).2=true→(segL n s).1.all segB=true→∀b∈s,okByte b=true∨b=46
 | 0,_,h,_=>by cases h
 | n+1,s,h,ha=>by
  intro b hb
  unfold segL at h ha
  rcases splK_head (c:=46) s with ⟨_,hs⟩|⟨x,r,rfl,hs,_⟩
  ·rw [cutc_miss hs]at h ha
   simp only [Bool.false_eq_true,if_false,List.all_cons,List.all_nil,Bool.and_true]at ha
   unfold segB at ha
   exact .inl (List.all_eq_true.1 (Bool.and_eq_true_iff.1 ha).1 b hb)
  ·rw [cutc_at hs]at h ha
   simp only [if_true,List.all_cons]at h ha
   obtain ⟨h1,h2⟩:=Bool.and_eq_true_iff.1 ha
   unfold segB at h1
   rcases List.mem_append.1 hb with hb|hb
   ·exact .inl (List.all_eq_true.1 (Bool.and_eq_true_iff.1 h1).1 b hb)
   ·rcases List.mem_cons.1 hb with e|hb
    ·exact .inr e
    ·exact seg_bytes n r h h2 b hb
theorem code_ok {s:List UInt8} (h:contentB s=true):(32:UInt8) ∉ s∧(10:UInt8) ∉ s∧s≠[]:=by
 have hne:s≠[]:=fun e=>by
  subst e
  exact absurd h (by decide)
 unfold contentB at h
 obtain ⟨h1,h2⟩:=Bool.and_eq_true_iff.1 (Bool.and_eq_true_iff.1 h).2
 have key:=seg_bytes 5 s h1 h2
 refine ⟨fun hm=>?_,fun hm=>?_,hne⟩
 ·rcases key _ hm with e|e <;> exact absurd e (by decide)
 ·rcases key _ hm with e|e <;> exact absurd e (by decide)
theorem bnds_ok {a b:Int} (h:boundsE a b=0):(0≤a∧a≤9999999)∧(0≤b∧b≤9999999):=by
 unfold boundsE at h
 split at h
 ·exact absurd h (by decide)
 ·rename_i hn
  simp at hn
  omega
theorem cont_ok {a b:Int} {s:List UInt8} (h:contE a b s=0):contentB s=true∧boundsE a b=0:=by
 unfold contE at h
 cases hc:contentB s with
 | false=>rw [hc]at h;simp at h
 | true=>rw [hc]at h;exact ⟨rfl,h⟩
theorem key_ok {a b n:Int} (h:keyE a b n=0):(0≤n∧n≤9999999)∧boundsE a b=0:=by
 unfold keyE at h
 split at h
 ·exact absurd h (by decide)
 ·rename_i hn
  simp at hn
  exact ⟨by omega,h⟩
theorem num_ok {n:Int} (h:numB n=true):0≤n∧n≤9999999:=by
 unfold numB at h
 simp at h
 omega
theorem set_ok {a b n:Int} (h:setE a b n=0):(0≤n∧n≤9999999)∧boundsE a b=0:=by
 unfold setE at h
 split at h
 ·exact absurd h (by decide)
 ·rename_i hn
  simp at hn
  exact ⟨num_ok hn.1,h⟩
theorem inc_ok {n:Int} (h:(if numB n then (0:Int) else 3)=0):0≤n∧n≤9999999:=by
 cases hc:numB n with
 | false=>rw [hc]at h;exact absurd h (by decide)
 | true=>exact num_ok hc
theorem line_no {s:List UInt8} {ns:List Int} (hs:(10:UInt8) ∉ s) (hn:∀n∈ns,0≤n) (hl:ns.length≤3):(10:UInt8) ∉ textT s ns:=by
 have d:∀n∈ns,(10:UInt8) ∉ Lib.itoa n:=fun n h=>dig_no (by decide) (hn n h)
 match ns,d with
 | [],_=>rw [text0];exact hs
 | [a],d =>
  have da:=d a (by simp)
  rw [text1]
  simp [hs,da]
 | [a,b],d =>
  have da:=d a (by simp)
  have db:=d b (by simp)
  rw [text2]
  simp [hs,da,db]
 | [a,b,c],d =>
  have da:=d a (by simp)
  have db:=d b (by simp)
  have dc:=d c (by simp)
  rw [text3]
  simp [hs,da,db,dc]
 | _ :: _ :: _ :: _ :: _,_=>simp at hl
theorem spl_1 {w:List UInt8} (hw:(32:UInt8) ∉ w) {a:Int} (ha:0≤a):splK 32 (textT w [a])=[w,Lib.itoa a]:=by
 rw [text1,splK_app w hw,splK_one (dig_no (by decide) ha)]
theorem spl_2 {w:List UInt8} (hw:(32:UInt8) ∉ w) {a b:Int} (ha:0≤a) (hb:0≤b):splK 32 (textT w [a,b])=[w,Lib.itoa a,Lib.itoa b]:=by
 rw [text2,splK_app w hw,splK_app _ (dig_no (by decide) ha),splK_one (dig_no (by decide) hb)]
theorem spl_3 {w:List UInt8} (hw:(32:UInt8) ∉ w) {a b c:Int} (ha:0≤a) (hb:0≤b) (hc:0≤c):splK 32 (textT w [a,b,c])=[w,Lib.itoa a,Lib.itoa b,Lib.itoa c]:=by
 rw [text3,splK_app w hw,splK_app _ (dig_no (by decide) ha),splK_app _ (dig_no (by decide) hb),splK_one (dig_no (by decide) hc)]
theorem nums_1 {a:Int} (ha:0≤a∧a≤9999999):numsE [Lib.itoa a]=0:=nums_itoa (ns:=[a]) fun n hn=>by simp at hn;subst hn;exact ha
theorem nums_2 {a b:Int} (ha:0≤a∧a≤9999999) (hb:0≤b∧b≤9999999):numsE [Lib.itoa a,Lib.itoa b]=0:=nums_itoa (ns:=[a,b]) fun n hn=>by
 simp at hn
 rcases hn with rfl|rfl <;> assumption
theorem nums_3 {a b c:Int} (ha:0≤a∧a≤9999999) (hb:0≤b∧b≤9999999) (hc:0≤c∧c≤9999999):numsE [Lib.itoa a,Lib.itoa b,Lib.itoa c]=0:=nums_itoa (ns:=[a,b,c]) fun n hn=>by
 simp at hn
 rcases hn with rfl|rfl|rfl <;> assumption
def LP (r:RuleV):Prop:=(10:UInt8) ∉ lineT r∧ruleP (splK 32 (lineT r))=(r,0)
theorem line_p1 {n lo hi:Int} {code:List UInt8} (hd:demOk ⟨1,n,lo,hi,code⟩=true) (hc:chkE ⟨1,n,lo,hi,code⟩=0):LP ⟨1,n,lo,hi,code⟩:=by
 unfold LP
 have hd:(n == 0)=true:=hd
 obtain rfl:n=0:=by simpa using hd
 obtain ⟨h1,h2⟩:=cont_ok (show contE lo hi code=0 from hc)
 obtain ⟨h3,h4⟩:=bnds_ok h2
 obtain ⟨h5,h6,h7⟩:=code_ok h1
 have e:lineT ⟨1,0,lo,hi,code⟩=textT (kwCont ++ 32 :: code) [lo,hi]:=by
  show textT ([99,111,110,116,101,110,116,32] ++ code) [lo,hi]=_
  rfl
 rw [e]
 refine ⟨line_no (by simp [kwCont,h6]) (fun m hm=>by simp at hm;rcases hm with rfl|rfl <;> omega) (by simp),?_⟩
 rw [text2,List.append_assoc,show (32 :: code) ++ 32 :: (Lib.itoa lo ++ 32 :: Lib.itoa hi)=32 :: (code ++ 32 :: (Lib.itoa lo ++ 32 :: Lib.itoa hi))from rfl,splK_app kwCont (by decide),splK_app code h5,splK_app _ (dig_no (by decide) h3.1),splK_one (dig_no (by decide) h4.1)]
 simp only [ruleP]
 rw [if_pos (by decide),if_neg h7,if_pos (nums_2 h3 h4),(itoa_num h3.1 h3.2).2.2,(itoa_num h4.1 h4.2).2.2]
theorem line_p2 {n lo hi:Int} {code:List UInt8} (hd:demOk ⟨2,n,lo,hi,code⟩=true) (hc:chkE ⟨2,n,lo,hi,code⟩=0):LP ⟨2,n,lo,hi,code⟩:=by
 unfold LP
 have hd:((n == 0) && (lo == 0) && code.isEmpty)=true:=hd
 obtain ⟨⟨rfl,rfl⟩,rfl⟩:(n=0∧lo=0)∧code=[]:=by simpa using hd
 obtain ⟨h3,h4⟩:=bnds_ok (show boundsE 0 hi=0 from hc)
 have e:lineT ⟨2,0,0,hi,[]⟩=textT kwWord [hi]:=rfl
 rw [e]
 refine ⟨line_no (by decide) (fun m hm=>by simp at hm;subst hm;omega) (by simp),?_⟩
 rw [spl_1 (by decide) h4.1]
 simp only [ruleP]
 rw [if_pos (by decide),if_pos (nums_1 h4),(itoa_num h4.1 h4.2).2.2]
 rfl
theorem line_p3 {n lo hi:Int} {code:List UInt8} (hd:demOk ⟨3,n,lo,hi,code⟩=true) (hc:chkE ⟨3,n,lo,hi,code⟩=0):LP ⟨3,n,lo,hi,code⟩:=by
 unfold LP
 have hd:((n == 0) && (lo == 0) && code.isEmpty)=true:=hd
 obtain ⟨⟨rfl,rfl⟩,rfl⟩:(n=0∧lo=0)∧code=[]:=by simpa using hd
 obtain ⟨h3,h4⟩:=bnds_ok (show boundsE 0 hi=0 from hc)
 have e:lineT ⟨3,0,0,hi,[]⟩=textT kwSec [hi]:=rfl
 rw [e]
 refine ⟨line_no (by decide) (fun m hm=>by simp at hm;subst hm;omega) (by simp),?_⟩
 rw [spl_1 (by decide) h4.1]
 simp only [ruleP]
 rw [if_pos (by decide),if_pos (nums_1 h4),(itoa_num h4.1 h4.2).2.2]
 rfl
theorem line_p4 {n lo hi:Int} {code:List UInt8} (hd:demOk ⟨4,n,lo,hi,code⟩=true) (hc:chkE ⟨4,n,lo,hi,code⟩=0):LP ⟨4,n,lo,hi,code⟩:=by
 unfold LP
 have hd:((n == 0) && code.isEmpty)=true:=hd
 obtain ⟨rfl,rfl⟩:n=0∧code=[]:=by simpa using hd
 obtain ⟨h3,h4⟩:=bnds_ok (show boundsE lo hi=0 from hc)
 have e:lineT ⟨4,0,lo,hi,[]⟩=textT kwPts [lo,hi]:=rfl
 rw [e]
 refine ⟨line_no (by decide) (fun m hm=>by simp at hm;rcases hm with rfl|rfl <;> omega) (by simp),?_⟩
 rw [spl_2 (by decide) h3.1 h4.1]
 simp only [ruleP]
 rw [if_pos (by decide),if_pos (nums_2 h3 h4),(itoa_num h3.1 h3.2).2.2,(itoa_num h4.1 h4.2).2.2]
theorem line_p5 {n lo hi:Int} {code:List UInt8} (hd:demOk ⟨5,n,lo,hi,code⟩=true) (hc:chkE ⟨5,n,lo,hi,code⟩=0):LP ⟨5,n,lo,hi,code⟩:=by
 unfold LP
 have hd:code.isEmpty=true:=hd
 obtain rfl:code=[]:=by simpa using hd
 have ec:chkE ⟨5,n,lo,hi,[]⟩=keyE lo hi n:=by
  unfold chkE
  rw [if_neg (show ¬(5:Int)=1 by decide),if_pos rfl]
 obtain ⟨h2,hb⟩:=key_ok (ec ▸ hc)
 obtain ⟨h3,h4⟩:=bnds_ok hb
 have e:lineT ⟨5,n,lo,hi,[]⟩=textT kwKey [n,lo,hi]:=rfl
 rw [e]
 refine ⟨line_no (by decide) (fun m hm=>by simp at hm;rcases hm with rfl|rfl|rfl <;> omega) (by simp),?_⟩
 rw [spl_3 (by decide) h2.1 h3.1 h4.1]
 simp only [ruleP]
 rw [if_neg (by decide),if_pos (by decide),if_pos (nums_3 h2 h3 h4),(itoa_num h2.1 h2.2).2.2,(itoa_num h3.1 h3.2).2.2,(itoa_num h4.1 h4.2).2.2]
 rfl
theorem line_p6 {n lo hi:Int} {code:List UInt8} (hd:demOk ⟨6,n,lo,hi,code⟩=true) (hc:chkE ⟨6,n,lo,hi,code⟩=0):LP ⟨6,n,lo,hi,code⟩:=by
 unfold LP
 have hd:code.isEmpty=true:=hd
 obtain rfl:code=[]:=by simpa using hd
 obtain ⟨h2,hb⟩:=set_ok (show setE lo hi n=0 from hc)
 obtain ⟨h3,h4⟩:=bnds_ok hb
 have e:lineT ⟨6,n,lo,hi,[]⟩=textT kwSet [n,lo,hi]:=rfl
 rw [e]
 refine ⟨line_no (by decide) (fun m hm=>by simp at hm;rcases hm with rfl|rfl|rfl <;> omega) (by simp),?_⟩
 rw [spl_3 (by decide) h2.1 h3.1 h4.1]
 simp only [ruleP]
 rw [if_neg (by decide),if_pos (by decide),if_pos (nums_3 h2 h3 h4),(itoa_num h2.1 h2.2).2.2,(itoa_num h3.1 h3.2).2.2,(itoa_num h4.1 h4.2).2.2]
 rfl
theorem line_p7 {n lo hi:Int} {code:List UInt8} (hd:demOk ⟨7,n,lo,hi,code⟩=true) (hc:chkE ⟨7,n,lo,hi,code⟩=0):LP ⟨7,n,lo,hi,code⟩:=by
 unfold LP
 have hd:((lo == 0) && (hi == 0) && code.isEmpty)=true:=hd
 obtain ⟨⟨rfl,rfl⟩,rfl⟩:(lo=0∧hi=0)∧code=[]:=by simpa using hd
 have h4:=inc_ok (show (if numB n then (0:Int) else 3)=0 from hc)
 have e:lineT ⟨7,n,0,0,[]⟩=textT kwInc [n]:=rfl
 rw [e]
 refine ⟨line_no (by decide) (fun m hm=>by simp at hm;subst hm;omega) (by simp),?_⟩
 rw [spl_1 (by decide) h4.1]
 simp only [ruleP]
 rw [if_pos (by decide),if_pos (nums_1 h4),(itoa_num h4.1 h4.2).2.2]
 rfl
theorem line_p8 {n lo hi:Int} {code:List UInt8} (hd:demOk ⟨8,n,lo,hi,code⟩=true) (hc:chkE ⟨8,n,lo,hi,code⟩=0):LP ⟨8,n,lo,hi,code⟩:=by
 unfold LP
 have hd:((lo == 0) && (hi == 0) && code.isEmpty)=true:=hd
 obtain ⟨⟨rfl,rfl⟩,rfl⟩:(lo=0∧hi=0)∧code=[]:=by simpa using hd
 have h4:=inc_ok (show (if numB n then (0:Int) else 3)=0 from hc)
 have e:lineT ⟨8,n,0,0,[]⟩=textT kwExc [n]:=rfl
 rw [e]
 refine ⟨line_no (by decide) (fun m hm=>by simp at hm;subst hm;omega) (by simp),?_⟩
 rw [spl_1 (by decide) h4.1]
 simp only [ruleP]
 rw [if_pos (by decide),if_pos (nums_1 h4),(itoa_num h4.1 h4.2).2.2]
 rfl
theorem line_p9 {n lo hi:Int} {code:List UInt8} (hd:demOk ⟨9,n,lo,hi,code⟩=true) (hc:chkE ⟨9,n,lo,hi,code⟩=0):LP ⟨9,n,lo,hi,code⟩:=by
 unfold LP
 have hd:((n == 0) && (lo == 0) && (hi == 0) && code.isEmpty)=true:=hd
 obtain ⟨⟨⟨rfl,rfl⟩,rfl⟩,rfl⟩:((n=0∧lo=0)∧hi=0)∧code=[]:=by simpa using hd
 have e:lineT ⟨9,0,0,0,[]⟩=kwFam:=text0 _
 rw [e]
 refine ⟨by decide,?_⟩
 rw [splK_one (by decide)]
 simp only [ruleP]
 rw [if_pos (by decide)]
theorem rule_print {r:RuleV} (hd:demOk r=true) (hc:chkE r=0):LP r:=by
 obtain ⟨k,n,lo,hi,code⟩:=r
 rcases dem_kind hd with h|h|h|h|h|h|h|h|h <;> (have h:k=_:=h) <;> subst h
 ·exact line_p1 hd hc
 ·exact line_p2 hd hc
 ·exact line_p3 hd hc
 ·exact line_p4 hd hc
 ·exact line_p5 hd hc
 ·exact line_p6 hd hc
 ·exact line_p7 hd hc
 ·exact line_p8 hd hc
 ·exact line_p9 hd hc
end Go.Proofs.YtcaahphghaddgaaGreatDoor
set_option linter.unusedSimpArgs false
set_option linter.unusedVariables false
namespace Go.Proofs.YtcaahphghaddgaaGreatDoor
open Go.RowKit Lim
def goP:Nat→List (List UInt8)→List RuleV→List RuleV × Int × Int
 | _,[],acc=>(acc,0,0)
 | k,[x],acc=>if x=[] then (acc,0,0) else ([],(k:Int),2)
 | k,x :: y :: l,acc=>if (ruleP (splK 32 x)).2=0 then goP (k+1) (y :: l) (acc ++ [(ruleP (splK 32 x)).1]) else ([],(k:Int),(ruleP (splK 32 x)).2)
def parseE (t:List UInt8):(Int × List RuleV) × Int × Int :=
 match splK 10 t with
 | x :: y :: l =>
  if (plenE (splK 32 x)).2=0 then
   (if (goP 2 (y :: l) []).2.2=0 then
    (if specE (plenE (splK 32 x)).1 (goP 2 (y :: l) []).1=0 then (((plenE (splK 32 x)).1,(goP 2 (y :: l) []).1),0,0)
    else ((0,[]),1,specE (plenE (splK 32 x)).1 (goP 2 (y :: l) []).1))
   else ((0,[]),(goP 2 (y :: l) []).2.1,(goP 2 (y :: l) []).2.2))
  else ((0,[]),1,(plenE (splK 32 x)).2)
 | _=>((0,[]),1,2)
abbrev kwLen:List UInt8:=[108,101,110,103,116,104]
def linesT (rs:List RuleV):List UInt8:=rs.flatMap fun r=>lineT r ++ [10]
theorem linesT_cons (r:RuleV) (rs:List RuleV):linesT (r :: rs)=lineT r ++ 10 :: linesT rs:=by simp [linesT]
theorem specT_eq (n:Int) (rs:List RuleV):specT n rs=textT kwLen [n] ++ 10 :: linesT rs:=by
 unfold specT wrt linesT
 rw [List.flatMap_map,List.append_assoc]
 rfl
theorem goP_err:∀(L:List (List UInt8)) (k:Nat) (acc:List RuleV),(goP k L acc).2.2≠0→(k:Int)≤(goP k L acc).2.1
 | [],k,acc,h=>absurd rfl h
 | [x],k,acc,h=>by
  unfold goP at h ⊢
  by_cases hx:x=[]
  ·rw [if_pos hx]at h;exact absurd rfl h
  ·rw [if_neg hx];exact Int.le_refl _
 | x :: y :: l,k,acc,h=>by
  unfold goP at h ⊢
  by_cases hr:(ruleP (splK 32 x)).2=0
  ·rw [if_pos hr]at h ⊢
   have:=goP_err (y :: l) (k+1) _ h
   omega
  ·rw [if_neg hr];exact Int.le_refl _
theorem goP_back:∀(L:List (List UInt8)) (t:List UInt8) (k:Nat) (acc:List RuleV),splK 10 t=L→(goP k L acc).2.2=0→(goP k L acc).2.1=0∧∃rs,(goP k L acc).1=acc ++ rs∧t=linesT rs∧∀r∈rs,RLe t.length r
 | [],t,k,acc,hL,_=>absurd hL (splK_ne 10 t)
 | [x],t,k,acc,hL,h=>by
  unfold goP at h ⊢
  by_cases hx:x=[]
  ·rw [if_pos hx]
   subst hx
   exact ⟨rfl,[],by simp,by rw [(splK_last hL).1];rfl,fun r hr=>absurd hr List.not_mem_nil⟩
  ·rw [if_neg hx]at h;exact absurd h (show ¬(2:Int)=0 by decide)
 | x :: y :: l,t,k,acc,hL,h=>by
  unfold goP at h ⊢
  by_cases hr:(ruleP (splK 32 x)).2=0
  ·rw [if_pos hr]at h ⊢
   obtain ⟨t',h1,h2,h3⟩:=splK_more hL
   obtain ⟨q1,rs,q2,q3,q4⟩:=goP_back (y :: l) t' (k+1) _ h3 h
   obtain ⟨p1,p2⟩:=rule_back (l:=x) (r:=(ruleP (splK 32 x)).1) (Prod.ext rfl hr)
   have hl:t.length=x.length+(t'.length+1):=by rw [h1];simp
   refine ⟨q1,(ruleP (splK 32 x)).1 :: rs,by rw [q2];simp,by rw [linesT_cons,p1,←q3,h1],fun r hr=>?_⟩
   rcases List.mem_cons.1 hr with e|hr
   ·subst e
    exact ⟨p2.n,p2.lo,p2.hi,by have:=p2.code;omega⟩
   ·have:=q4 r hr
    exact ⟨this.n,this.lo,this.hi,by have:=this.code;omega⟩
  ·rw [if_neg hr]at h;exact absurd h hr
theorem goP_print:∀(rs:List RuleV) (k:Nat) (acc:List RuleV),(∀r∈rs,LP r)→goP k (splK 10 (linesT rs)) acc=(acc ++ rs,0,0)
 | [],k,acc,_=>by
  show goP k (splK 10 []) acc=_
  simp [splK,goP]
 | r :: rs,k,acc,h=>by
  obtain ⟨h1,h2⟩:=h r (by simp)
  have ih:=goP_print rs (k+1) (acc ++ [r]) fun x hx=>h x (by simp [hx])
  rw [linesT_cons,splK_app _ h1]
  cases hs:splK 10 (linesT rs)with
  | nil=>exact absurd hs (splK_ne 10 _)
  | cons y l =>
   rw [hs]at ih
   unfold goP
   rw [h2,if_pos rfl,ih]
   simp
theorem len_back {x:List UInt8} {n:Int} (h:plenE (splK 32 x)=(n,0)):textT kwLen [n]=x∧in64Z n:=by
 unfold plenE at h
 split at h
 ·rename_i a b hw
  cases ha:isLen a with
  | false=>rw [ha]at h;exact absurd (congrArg Prod.snd h) (show ¬(2:Int)=0 by decide)
  | true =>
   rw [ha,if_pos rfl]at h
   have h1:numsE [b]=0:=congrArg Prod.snd h
   have h2:(if numsE [b]=0 then ((valD b:Nat):Int) else 0)=n:=congrArg Prod.fst h
   rw [if_pos h1]at h2
   have h3:=nums_iff.1 h1 b (by simp)
   have ea:a=kwLen:=eq_of_beq ha
   rw [spl2 hw,text1,←h2,ea]
   exact ⟨by rw [nv_back h3.1],in64_nv h3.1 h3.2⟩
 ·exact absurd (congrArg Prod.snd h) (show ¬(2:Int)=0 by decide)
theorem len_print {n:Int} (h0:0≤n) (h1:n≤9999999):plenE (splK 32 (textT kwLen [n]))=(n,0)∧(10:UInt8) ∉ textT kwLen [n]:=by
 refine ⟨?_,line_no (by decide) (fun m hm=>by simp at hm;subst hm;omega) (by simp)⟩
 rw [spl_1 (by decide) h0]
 have e1:isLen kwLen=true:=by decide
 have e2:=nums_1 (a:=n) ⟨h0,h1⟩
 have e3:=(itoa_num h0 h1).2.2
 simp only [plenE]
 rw [if_pos e1,if_pos e2,e2]
 exact congrArg (·,(0:Int)) e3
theorem rules_chk:∀{rs:List RuleV},rulesE rs=0→∀r∈rs,demOk r=true∧chkE r=0
 | [],_,r,hr=>absurd hr List.not_mem_nil
 | x :: rs,h,r,hr=>by
  unfold rulesE at h
  by_cases h1:ruleE x≠0
  ·rw [if_pos h1]at h;exact absurd h h1
  rw [if_neg h1]at h
  rcases List.mem_cons.1 hr with rfl|hr
  ·cases hd:demOk r with
   | true=>rw [chk_ok hd]at h1;exact ⟨rfl,by simpa using h1⟩
   | false=>rw [chk_no hd]at h1;exact absurd (by decide:(1:Int)≠0) h1
  ·exact rules_chk h r hr
theorem spec_chk {n:Int} {rs:List RuleV} (h:specE n rs=0):(0≤n∧n≤9999999)∧∀r∈rs,LP r:=by
 unfold specE at h
 split at h
 ·exact absurd h (by decide)
 ·rename_i hn
  simp at hn
  split at h
  ·exact absurd h (by decide)
  ·exact ⟨by omega,fun r hr=>rule_print (rules_chk h r hr).1 (rules_chk h r hr).2⟩
theorem parse_print {n:Int} {rs:List RuleV} (h:specE n rs=0):parseE (specT n rs)=((n,rs),0,0):=by
 obtain ⟨⟨h1,h2⟩,h3⟩:=spec_chk h
 obtain ⟨e1,e2⟩:=len_print h1 h2
 have e3:=goP_print rs 2 [] h3
 unfold parseE
 rw [specT_eq,splK_app _ e2]
 cases hs:splK 10 (linesT rs)with
 | nil=>exact absurd hs (splK_ne 10 _)
 | cons y l =>
  rw [hs]at e3
  simp only [e1,e3,List.nil_append,h,if_true]
theorem parse_back {t:List UInt8} (h:(parseE t).2.2=0):(parseE t).2.1=0∧specE (parseE t).1.1 (parseE t).1.2=0∧specT (parseE t).1.1 (parseE t).1.2=t∧in64Z (parseE t).1.1∧∀r∈(parseE t).1.2,RLe t.length r:=by
 unfold parseE at h ⊢
 split at h
 ·rename_i x y l hw
  by_cases h1:(plenE (splK 32 x)).2=0
  ·rw [if_pos h1]at h ⊢
   by_cases h2:(goP 2 (y :: l) []).2.2=0
   ·rw [if_pos h2]at h ⊢
    by_cases h3:specE (plenE (splK 32 x)).1 (goP 2 (y :: l) []).1=0
    ·rw [if_pos h3]
     obtain ⟨t',p1,p2,p3⟩:=splK_more hw
     obtain ⟨q1,rs,q2,q3,q4⟩:=goP_back (y :: l) t' 2 [] p3 h2
     obtain ⟨r1,r2⟩:=len_back (x:=x) (n:=(plenE (splK 32 x)).1) (Prod.ext rfl h1)
     have hl:t.length=x.length+(t'.length+1):=by rw [p1];simp
     rw [List.nil_append]at q2
     refine ⟨rfl,h3,?_,r2,fun r hr=>?_⟩
     ·show specT _ (goP 2 (y :: l) []).1=t
      rw [q2,specT_eq,r1,←q3,p1]
     ·have hr:r∈(goP 2 (y :: l) []).1:=hr
      rw [q2]at hr
      have:=q4 r hr
      exact ⟨this.n,this.lo,this.hi,by have:=this.code;omega⟩
    ·rw [if_neg h3]at h;exact absurd h h3
   ·rw [if_neg h2]at h;exact absurd h h2
  ·rw [if_neg h1]at h;exact absurd h h1
 ·exact absurd h (by decide)
theorem parse_err {t:List UInt8} (h:(parseE t).2.2≠0):1≤(parseE t).2.1∧(parseE t).1=(0,[]):=by
 unfold parseE at h ⊢
 split at h
 ·rename_i x y l hw
  by_cases h1:(plenE (splK 32 x)).2=0
  ·rw [if_pos h1]at h ⊢
   by_cases h2:(goP 2 (y :: l) []).2.2=0
   ·rw [if_pos h2]at h ⊢
    by_cases h3:specE (plenE (splK 32 x)).1 (goP 2 (y :: l) []).1=0
    ·rw [if_pos h3]at h;exact absurd rfl h
    ·rw [if_neg h3];exact ⟨Int.le_refl _,rfl⟩
   ·rw [if_neg h2]
    have:=goP_err (y :: l) 2 [] h2
    exact ⟨by show 1≤(goP 2 (y :: l) []).2.1;omega,rfl⟩
  ·rw [if_neg h1];exact ⟨Int.le_refl _,rfl⟩
 ·exact ⟨Int.le_refl _,rfl⟩
end Go.Proofs.YtcaahphghaddgaaGreatDoor
set_option linter.unusedSimpArgs false
set_option linter.unusedVariables false
namespace Go.Proofs.YtcaahphghaddgaaGreatDoor
open Go.RowKit Lim
abbrev tRule:TypeId:=78
def ruleVs (r:RuleV):List Value:=[.int .i64 r.k,.int .i64 r.n,.int .i64 r.lo,.int .i64 r.hi,.string (bs r.code)]
def rulesVs (rs:List RuleV):List Value:=rs.flatMap ruleVs
theorem rulesVs_len:∀rs:List RuleV,(rulesVs rs).length=rs.length*5
 | []=>rfl
 | r :: rs=>by
  have:=rulesVs_len rs
  simp only [rulesVs,List.flatMap_cons,List.length_append,List.length_cons]at this ⊢
  simp only [ruleVs,List.length_cons,List.length_nil]
  omega
theorem rulesVs_app (rs:List RuleV) (r:RuleV):rulesVs rs ++ ruleVs r=rulesVs (rs ++ [r]):=by simp [rulesVs]
theorem rulesVs_get:∀(rs:List RuleV) (i j:Nat) (hi:i<rs.length),j<5→(rulesVs rs)[i*5+j]? = (ruleVs (rs[i]'hi))[j]?
 | [],i,j,hi,_=>by simp at hi
 | r :: rs,0,j,hi,hj=>by
  unfold rulesVs
  rw [List.flatMap_cons,Nat.zero_mul,Nat.zero_add,List.getElem?_append_left (by simpa [ruleVs]using hj)]
  rfl
 | r :: rs,i+1,j,hi,hj=>by
  have ih:=rulesVs_get rs i j (by simpa using hi) hj
  have e:(i+1)*5+j=5+(i*5+j):=by omega
  unfold rulesVs at ih ⊢
  rw [List.flatMap_cons,e,List.getElem?_append_right (by simp [ruleVs]),show 5+(i*5+j)-(ruleVs r).length=i*5+j by simp [ruleVs]]
  exact ih
theorem rules_rep {w:World} {Z:Zone} {B:Nat} {v:Value} {rs:List RuleV} (h:w.ownsRow B tRule 5 v rs.length (rulesVs rs)) (hZ:∀g,v.ownBlock=some g→∀o,Z g o):Rep w Z (rulesA rs) v:=by
 rcases h.2 with ⟨rfl,h0⟩|⟨g,cap,cur,rfl,hg1,hg2,hg3,hg4,hg5,hg6⟩
 ·obtain rfl:=List.length_eq_zero_iff.1 h0
  exact .nil
 ·have hgl:g<w.heap.size:=(Array.getElem?_eq_some_iff.1 hg2).1
  have key:Rep w Z (.sl 5 (rs.map ruleA)) (.slice (some ⟨g,0,none⟩) (rs.map ruleA).length cap):=by
   refine .sl (fun i j=>((rulesVs rs)[i*5+j]?).getD undef) hgl (by simpa using hg3) (fun i hi=>by simp [AV.cells]) (fun i j hi hj=>⟨?_,hZ g rfl _⟩) (fun i hi j hj=>?_)
   ·have hi':i<rs.length:=by simpa using hi
    have hlen:i*5+j<(rulesVs rs).length:=by rw [rulesVs_len];omega
    have:=h.cells (g:=g) rfl (i*5+j) _ (List.getElem?_eq_getElem hlen)
    rw [show (⟨g,0,none⟩:Addr).add (i*5+j)=⟨g,i*5+j,none⟩by unfold Addr.add;split <;> simp_all]at this
    rw [show 0+i*5+j=i*5+j by omega,this,List.getElem?_eq_getElem hlen]
    rfl
   ·have hi':i<rs.length:=by simpa using hi
    have hj':j<5:=by simpa [AV.cells]using hj
    rw [rulesVs_get rs i j hi' hj']
    simp only [List.getElem_map,AV.cells]
    match j,hj' with
    | 0,_=>exact .lit rfl
    | 1,_=>exact .lit rfl
    | 2,_=>exact .lit rfl
    | 3,_=>exact .lit rfl
    | 4,_=>exact .lit rfl
  rw [List.length_map]at key
  exact key
end Go.Proofs.YtcaahphghaddgaaGreatDoor
set_option linter.unusedSimpArgs false
set_option linter.unusedVariables false
namespace Go.Proofs.YtcaahphghaddgaaGreatDoor
open Go.RowKit Lim
theorem ruleP_len {w:List UInt8} {us:List (List UInt8)} (h:((us.length+1:Nat):Int)≠(formE w).2):ruleP (w :: us)=(zR,2):=by
 match us,h with
 | [],h =>
  simp only [ruleP]
  rw [if_neg]
  intro hf
  rw [hf]at h
  exact h rfl
 | [a],h =>
  simp only [ruleP]
  rw [if_neg]
  intro hf
  rw [hf]at h
  exact h rfl
 | [a,b],h =>
  simp only [ruleP]
  rw [if_neg]
  intro hf
  rw [hf]at h
  exact h rfl
 | [a,b,c],h =>
  simp only [ruleP]
  rw [if_neg,if_neg]
  ·intro hf
   rw [hf]at h
   exact h rfl
  ·intro hf
   rw [hf]at h
   exact h rfl
 | _ :: _ :: _ :: _ :: _,h=>rfl
theorem numsV_ok {ws:List (List UInt8)} (h:numsE ws=0):numsV ws=ws.map nv:=by
 unfold numsV
 rw [if_pos h]
theorem numsV_no {ws:List (List UInt8)} (h:numsE ws≠0):numsV ws=[]:=by
 unfold numsV
 rw [if_neg h]
section
variable {line:List UInt8} {w:List UInt8}
set_option maxHeartbeats 2000000 in
theorem prule_none {us:List (List UInt8)} (S:AT 93 [str line,str [32]] (strsA (w :: us))) (hf:formE w=(0,0)):AC 57 [str line] (.tup [ruleA zR,i64 2]):=by
 have F:=form_c w
 rw [hf]at F
 refine ACalls.of ⟨89,[],[]⟩ (fn:=Tryz.f57) Tryz.func57 rfl rfl rfl (by kernel_rfl) (by kernel_rfl) (Nat.le_of_ble_eq_true rfl) ?_
 simp (maxSteps:=1000000) -implicitDefEqProofs only [go_sem,awp_seq,Nat.reduceBEq,Nat.reduceLT]
 refine callA_t S ?_
 simp (maxSteps:=1000000) -implicitDefEqProofs only [List.map_cons,go_sem,awp_seq,Nat.reduceBEq,Nat.reduceLT,Int.reduceLE,Int.reduceToNat]
 refine callA_t F ?_
 simp (maxSteps:=1000000) -implicitDefEqProofs only [go_sem,awp_seq,Nat.reduceBEq,Nat.reduceAdd,Nat.reduceLT,Int.reduceBEq]
 all_goals rfl
set_option maxHeartbeats 2000000 in
theorem prule_len {us:List (List UInt8)} (hus:us.length≤1048576) (S:AT 93 [str line,str [32]] (strsA (w :: us))) {k c:Int} (hf:formE w=(k,c)) (hk:k≠0) (hc:((us.length+1:Nat):Int)≠c):AC 57 [str line] (.tup [ruleA zR,i64 2]):=by
 have F:=form_c w
 rw [hf]at F
 have g1:(k == 0)=false:=by simpa using hk
 have g2:((((us.length+1:Nat):Int)) != c)=true:=by rw [bne_iff_ne];exact hc
 have g3:(((us.length:Nat):Int)+1 != c)=true:=by rw [bne_iff_ne];omega
 refine ACalls.of ⟨89,[],[]⟩ (fn:=Tryz.f57) Tryz.func57 rfl rfl rfl (by kernel_rfl) (by kernel_rfl) (Nat.le_of_ble_eq_true rfl) ?_
 simp (maxSteps:=1000000) -implicitDefEqProofs only [go_sem,awp_seq,Nat.reduceBEq,Nat.reduceLT]
 refine callA_t S ?_
 simp (maxSteps:=1000000) -implicitDefEqProofs only [List.map_cons,go_sem,awp_seq,Nat.reduceBEq,Nat.reduceLT,Int.reduceLE,Int.reduceToNat]
 refine callA_t F ?_
 simp (maxSteps:=1000000) -implicitDefEqProofs only [g1,g2,g3,List.length_cons,List.length_map,go_sem,awp_seq,Nat.reduceBEq,Nat.reduceAdd,Nat.reduceLT]
 all_goals rfl
set_option maxHeartbeats 4000000 in
theorem prule_fam  (hm:∀x∈([]:List (List UInt8)),x.length≤1048576) (S:AT 93 [str line,str [32]] (strsA [w])) (hf:formE w=(9,1))  : AC 57 [str line] (.tup [ruleA ⟨9,0,0,0,[]⟩,i64 0]):=by
 have F:=form_c w
 rw [hf]at F
 have P:=pnums_c [] (by simp) hm
 have P:AC 94 [.sl 1 []] (.tup [.sl 1 [],i64 0]):=P
 have c0:((0:Int) != 0)=false:=rfl
 refine ACalls.of ⟨89,[],[]⟩ (fn:=Tryz.f57) Tryz.func57 rfl rfl rfl (by kernel_rfl) (by kernel_rfl) (Nat.le_of_ble_eq_true rfl) ?_
 simp (maxSteps:=1000000) -implicitDefEqProofs only [go_sem,awp_seq,Nat.reduceBEq,Nat.reduceLT]
 refine callA_t S ?_
 simp (maxSteps:=1000000) -implicitDefEqProofs only [List.map_cons,List.map_nil,go_sem,awp_seq,Nat.reduceBEq,Nat.reduceLT,Int.reduceLE,Int.reduceToNat]
 refine callA_t F ?_
 simp (maxSteps:=1000000) -implicitDefEqProofs only [List.length_cons,List.length_nil,List.map_cons,List.map_nil,go_sem,awp_seq,Nat.reduceBEq,Nat.reduceAdd,Nat.reduceLeDiff,Nat.reduceLT,Nat.reduceEqDiff,Int.reduceBEq,Int.cast_ofNat_Int]
 refine slice_strs [w] (c:=1) (by simp) ?_
 simp (maxSteps:=1000000) -implicitDefEqProofs only [List.drop_succ_cons,List.drop_zero,List.map_cons,List.map_nil,go_sem,awp_seq]
 refine callA_mk (q:=[]) P ?_
 simp (maxSteps:=1000000) -implicitDefEqProofs only [c0,List.map_cons,List.map_nil,go_sem,awp_seq,Nat.reduceBEq,Nat.reduceAdd,Nat.reduceLeDiff,Nat.reduceLT,Int.reduceBEq]
 all_goals rfl
set_option maxHeartbeats 4000000 in
theorem prule_words {a:List UInt8} (hm:∀x∈([a]:List (List UInt8)),x.length≤1048576) (S:AT 93 [str line,str [32]] (strsA [w,a])) (hf:formE w=(2,2)) (h0:numsE [a]=0):AC 57 [str line] (.tup [ruleA ⟨2,0,0,nv a,[]⟩,i64 0]):=by
 have F:=form_c w
 rw [hf]at F
 have P:=pnums_c [a] (by simp) hm
 rw [numsV_ok h0,h0]at P
 have c0:((0:Int) != 0)=false:=rfl
 refine ACalls.of ⟨89,[],[]⟩ (fn:=Tryz.f57) Tryz.func57 rfl rfl rfl (by kernel_rfl) (by kernel_rfl) (Nat.le_of_ble_eq_true rfl) ?_
 simp (maxSteps:=1000000) -implicitDefEqProofs only [go_sem,awp_seq,Nat.reduceBEq,Nat.reduceLT]
 refine callA_t S ?_
 simp (maxSteps:=1000000) -implicitDefEqProofs only [List.map_cons,List.map_nil,go_sem,awp_seq,Nat.reduceBEq,Nat.reduceLT,Int.reduceLE,Int.reduceToNat]
 refine callA_t F ?_
 simp (maxSteps:=1000000) -implicitDefEqProofs only [List.length_cons,List.length_nil,List.map_cons,List.map_nil,go_sem,awp_seq,Nat.reduceBEq,Nat.reduceAdd,Nat.reduceLeDiff,Nat.reduceLT,Nat.reduceEqDiff,Int.reduceBEq,Int.cast_ofNat_Int]
 refine slice_strs [w,a] (c:=1) (by simp) ?_
 simp (maxSteps:=1000000) -implicitDefEqProofs only [List.drop_succ_cons,List.drop_zero,List.map_cons,List.map_nil,go_sem,awp_seq]
 refine callA_mk (q:=[]) P ?_
 simp (maxSteps:=1000000) -implicitDefEqProofs only [c0,List.map_cons,List.map_nil,go_sem,awp_seq,Nat.reduceBNe,Nat.reduceBEq,Nat.reduceAdd,Nat.reduceLeDiff,Nat.reduceLT,Int.reduceLE,Int.reduceToNat,Int.reduceBEq]
 all_goals rfl
set_option maxHeartbeats 4000000 in
theorem prule_words_e {a:List UInt8} (hm:∀x∈([a]:List (List UInt8)),x.length≤1048576) (S:AT 93 [str line,str [32]] (strsA [w,a])) (hf:formE w=(2,2)) (h0:numsE [a]≠0):AC 57 [str line] (.tup [ruleA zR,i64 (numsE [a])]):=by
 have F:=form_c w
 rw [hf]at F
 have P:=pnums_c [a] (by simp) hm
 have c0:(numsE [a] != 0)=true:=by simpa using h0
 rw [numsV_no h0]at P
 generalize numsE [a]=e at *
 refine ACalls.of ⟨89,[],[]⟩ (fn:=Tryz.f57) Tryz.func57 rfl rfl rfl (by kernel_rfl) (by kernel_rfl) (Nat.le_of_ble_eq_true rfl) ?_
 simp (maxSteps:=1000000) -implicitDefEqProofs only [go_sem,awp_seq,Nat.reduceBEq,Nat.reduceLT]
 refine callA_t S ?_
 simp (maxSteps:=1000000) -implicitDefEqProofs only [List.map_cons,List.map_nil,go_sem,awp_seq,Nat.reduceBEq,Nat.reduceLT,Int.reduceLE,Int.reduceToNat]
 refine callA_t F ?_
 simp (maxSteps:=1000000) -implicitDefEqProofs only [List.length_cons,List.length_nil,List.map_cons,List.map_nil,go_sem,awp_seq,Nat.reduceBEq,Nat.reduceAdd,Nat.reduceLeDiff,Nat.reduceLT,Nat.reduceEqDiff,Int.reduceBEq,Int.cast_ofNat_Int]
 refine slice_strs [w,a] (c:=1) (by simp) ?_
 simp (maxSteps:=1000000) -implicitDefEqProofs only [List.drop_succ_cons,List.drop_zero,List.map_cons,List.map_nil,go_sem,awp_seq]
 refine callA_mk (q:=[]) P ?_
 simp (maxSteps:=1000000) -implicitDefEqProofs only [c0,List.map_cons,List.map_nil,go_sem,awp_seq,Nat.reduceBEq,Nat.reduceAdd,Nat.reduceLT]
 all_goals rfl
set_option maxHeartbeats 4000000 in
theorem prule_secs {a:List UInt8} (hm:∀x∈([a]:List (List UInt8)),x.length≤1048576) (S:AT 93 [str line,str [32]] (strsA [w,a])) (hf:formE w=(3,2)) (h0:numsE [a]=0):AC 57 [str line] (.tup [ruleA ⟨3,0,0,nv a,[]⟩,i64 0]):=by
 have F:=form_c w
 rw [hf]at F
 have P:=pnums_c [a] (by simp) hm
 rw [numsV_ok h0,h0]at P
 have c0:((0:Int) != 0)=false:=rfl
 refine ACalls.of ⟨89,[],[]⟩ (fn:=Tryz.f57) Tryz.func57 rfl rfl rfl (by kernel_rfl) (by kernel_rfl) (Nat.le_of_ble_eq_true rfl) ?_
 simp (maxSteps:=1000000) -implicitDefEqProofs only [go_sem,awp_seq,Nat.reduceBEq,Nat.reduceLT]
 refine callA_t S ?_
 simp (maxSteps:=1000000) -implicitDefEqProofs only [List.map_cons,List.map_nil,go_sem,awp_seq,Nat.reduceBEq,Nat.reduceLT,Int.reduceLE,Int.reduceToNat]
 refine callA_t F ?_
 simp (maxSteps:=1000000) -implicitDefEqProofs only [List.length_cons,List.length_nil,List.map_cons,List.map_nil,go_sem,awp_seq,Nat.reduceBEq,Nat.reduceAdd,Nat.reduceLeDiff,Nat.reduceLT,Nat.reduceEqDiff,Int.reduceBEq,Int.cast_ofNat_Int]
 refine slice_strs [w,a] (c:=1) (by simp) ?_
 simp (maxSteps:=1000000) -implicitDefEqProofs only [List.drop_succ_cons,List.drop_zero,List.map_cons,List.map_nil,go_sem,awp_seq]
 refine callA_mk (q:=[]) P ?_
 simp (maxSteps:=1000000) -implicitDefEqProofs only [c0,List.map_cons,List.map_nil,go_sem,awp_seq,Nat.reduceBNe,Nat.reduceBEq,Nat.reduceAdd,Nat.reduceLeDiff,Nat.reduceLT,Int.reduceLE,Int.reduceToNat,Int.reduceBEq]
 all_goals rfl
set_option maxHeartbeats 4000000 in
theorem prule_secs_e {a:List UInt8} (hm:∀x∈([a]:List (List UInt8)),x.length≤1048576) (S:AT 93 [str line,str [32]] (strsA [w,a])) (hf:formE w=(3,2)) (h0:numsE [a]≠0):AC 57 [str line] (.tup [ruleA zR,i64 (numsE [a])]):=by
 have F:=form_c w
 rw [hf]at F
 have P:=pnums_c [a] (by simp) hm
 have c0:(numsE [a] != 0)=true:=by simpa using h0
 rw [numsV_no h0]at P
 generalize numsE [a]=e at *
 refine ACalls.of ⟨89,[],[]⟩ (fn:=Tryz.f57) Tryz.func57 rfl rfl rfl (by kernel_rfl) (by kernel_rfl) (Nat.le_of_ble_eq_true rfl) ?_
 simp (maxSteps:=1000000) -implicitDefEqProofs only [go_sem,awp_seq,Nat.reduceBEq,Nat.reduceLT]
 refine callA_t S ?_
 simp (maxSteps:=1000000) -implicitDefEqProofs only [List.map_cons,List.map_nil,go_sem,awp_seq,Nat.reduceBEq,Nat.reduceLT,Int.reduceLE,Int.reduceToNat]
 refine callA_t F ?_
 simp (maxSteps:=1000000) -implicitDefEqProofs only [List.length_cons,List.length_nil,List.map_cons,List.map_nil,go_sem,awp_seq,Nat.reduceBEq,Nat.reduceAdd,Nat.reduceLeDiff,Nat.reduceLT,Nat.reduceEqDiff,Int.reduceBEq,Int.cast_ofNat_Int]
 refine slice_strs [w,a] (c:=1) (by simp) ?_
 simp (maxSteps:=1000000) -implicitDefEqProofs only [List.drop_succ_cons,List.drop_zero,List.map_cons,List.map_nil,go_sem,awp_seq]
 refine callA_mk (q:=[]) P ?_
 simp (maxSteps:=1000000) -implicitDefEqProofs only [c0,List.map_cons,List.map_nil,go_sem,awp_seq,Nat.reduceBEq,Nat.reduceAdd,Nat.reduceLT]
 all_goals rfl
set_option maxHeartbeats 4000000 in
theorem prule_inc {a:List UInt8} (hm:∀x∈([a]:List (List UInt8)),x.length≤1048576) (S:AT 93 [str line,str [32]] (strsA [w,a])) (hf:formE w=(7,2)) (h0:numsE [a]=0):AC 57 [str line] (.tup [ruleA ⟨7,nv a,0,0,[]⟩,i64 0]):=by
 have F:=form_c w
 rw [hf]at F
 have P:=pnums_c [a] (by simp) hm
 rw [numsV_ok h0,h0]at P
 have c0:((0:Int) != 0)=false:=rfl
 refine ACalls.of ⟨89,[],[]⟩ (fn:=Tryz.f57) Tryz.func57 rfl rfl rfl (by kernel_rfl) (by kernel_rfl) (Nat.le_of_ble_eq_true rfl) ?_
 simp (maxSteps:=1000000) -implicitDefEqProofs only [go_sem,awp_seq,Nat.reduceBEq,Nat.reduceLT]
 refine callA_t S ?_
 simp (maxSteps:=1000000) -implicitDefEqProofs only [List.map_cons,List.map_nil,go_sem,awp_seq,Nat.reduceBEq,Nat.reduceLT,Int.reduceLE,Int.reduceToNat]
 refine callA_t F ?_
 simp (maxSteps:=1000000) -implicitDefEqProofs only [List.length_cons,List.length_nil,List.map_cons,List.map_nil,go_sem,awp_seq,Nat.reduceBEq,Nat.reduceAdd,Nat.reduceLeDiff,Nat.reduceLT,Nat.reduceEqDiff,Int.reduceBEq,Int.cast_ofNat_Int]
 refine slice_strs [w,a] (c:=1) (by simp) ?_
 simp (maxSteps:=1000000) -implicitDefEqProofs only [List.drop_succ_cons,List.drop_zero,List.map_cons,List.map_nil,go_sem,awp_seq]
 refine callA_mk (q:=[]) P ?_
 simp (maxSteps:=1000000) -implicitDefEqProofs only [c0,List.map_cons,List.map_nil,go_sem,awp_seq,Nat.reduceBEq,Nat.reduceAdd,Nat.reduceLeDiff,Nat.reduceLT,Int.reduceLE,Int.reduceToNat,Int.reduceBEq]
 all_goals rfl
set_option maxHeartbeats 4000000 in
theorem prule_inc_e {a:List UInt8} (hm:∀x∈([a]:List (List UInt8)),x.length≤1048576) (S:AT 93 [str line,str [32]] (strsA [w,a])) (hf:formE w=(7,2)) (h0:numsE [a]≠0):AC 57 [str line] (.tup [ruleA zR,i64 (numsE [a])]):=by
 have F:=form_c w
 rw [hf]at F
 have P:=pnums_c [a] (by simp) hm
 have c0:(numsE [a] != 0)=true:=by simpa using h0
 rw [numsV_no h0]at P
 generalize numsE [a]=e at *
 refine ACalls.of ⟨89,[],[]⟩ (fn:=Tryz.f57) Tryz.func57 rfl rfl rfl (by kernel_rfl) (by kernel_rfl) (Nat.le_of_ble_eq_true rfl) ?_
 simp (maxSteps:=1000000) -implicitDefEqProofs only [go_sem,awp_seq,Nat.reduceBEq,Nat.reduceLT]
 refine callA_t S ?_
 simp (maxSteps:=1000000) -implicitDefEqProofs only [List.map_cons,List.map_nil,go_sem,awp_seq,Nat.reduceBEq,Nat.reduceLT,Int.reduceLE,Int.reduceToNat]
 refine callA_t F ?_
 simp (maxSteps:=1000000) -implicitDefEqProofs only [List.length_cons,List.length_nil,List.map_cons,List.map_nil,go_sem,awp_seq,Nat.reduceBEq,Nat.reduceAdd,Nat.reduceLeDiff,Nat.reduceLT,Nat.reduceEqDiff,Int.reduceBEq,Int.cast_ofNat_Int]
 refine slice_strs [w,a] (c:=1) (by simp) ?_
 simp (maxSteps:=1000000) -implicitDefEqProofs only [List.drop_succ_cons,List.drop_zero,List.map_cons,List.map_nil,go_sem,awp_seq]
 refine callA_mk (q:=[]) P ?_
 simp (maxSteps:=1000000) -implicitDefEqProofs only [c0,List.map_cons,List.map_nil,go_sem,awp_seq,Nat.reduceBEq,Nat.reduceAdd,Nat.reduceLT]
 all_goals rfl
set_option maxHeartbeats 4000000 in
theorem prule_exc {a:List UInt8} (hm:∀x∈([a]:List (List UInt8)),x.length≤1048576) (S:AT 93 [str line,str [32]] (strsA [w,a])) (hf:formE w=(8,2)) (h0:numsE [a]=0):AC 57 [str line] (.tup [ruleA ⟨8,nv a,0,0,[]⟩,i64 0]):=by
 have F:=form_c w
 rw [hf]at F
 have P:=pnums_c [a] (by simp) hm
 rw [numsV_ok h0,h0]at P
 have c0:((0:Int) != 0)=false:=rfl
 refine ACalls.of ⟨89,[],[]⟩ (fn:=Tryz.f57) Tryz.func57 rfl rfl rfl (by kernel_rfl) (by kernel_rfl) (Nat.le_of_ble_eq_true rfl) ?_
 simp (maxSteps:=1000000) -implicitDefEqProofs only [go_sem,awp_seq,Nat.reduceBEq,Nat.reduceLT]
 refine callA_t S ?_
 simp (maxSteps:=1000000) -implicitDefEqProofs only [List.map_cons,List.map_nil,go_sem,awp_seq,Nat.reduceBEq,Nat.reduceLT,Int.reduceLE,Int.reduceToNat]
 refine callA_t F ?_
 simp (maxSteps:=1000000) -implicitDefEqProofs only [List.length_cons,List.length_nil,List.map_cons,List.map_nil,go_sem,awp_seq,Nat.reduceBEq,Nat.reduceAdd,Nat.reduceLeDiff,Nat.reduceLT,Nat.reduceEqDiff,Int.reduceBEq,Int.cast_ofNat_Int]
 refine slice_strs [w,a] (c:=1) (by simp) ?_
 simp (maxSteps:=1000000) -implicitDefEqProofs only [List.drop_succ_cons,List.drop_zero,List.map_cons,List.map_nil,go_sem,awp_seq]
 refine callA_mk (q:=[]) P ?_
 simp (maxSteps:=1000000) -implicitDefEqProofs only [c0,List.map_cons,List.map_nil,go_sem,awp_seq,Nat.reduceBEq,Nat.reduceAdd,Nat.reduceLeDiff,Nat.reduceLT,Int.reduceLE,Int.reduceToNat,Int.reduceBEq]
 all_goals rfl
set_option maxHeartbeats 4000000 in
theorem prule_exc_e {a:List UInt8} (hm:∀x∈([a]:List (List UInt8)),x.length≤1048576) (S:AT 93 [str line,str [32]] (strsA [w,a])) (hf:formE w=(8,2)) (h0:numsE [a]≠0):AC 57 [str line] (.tup [ruleA zR,i64 (numsE [a])]):=by
 have F:=form_c w
 rw [hf]at F
 have P:=pnums_c [a] (by simp) hm
 have c0:(numsE [a] != 0)=true:=by simpa using h0
 rw [numsV_no h0]at P
 generalize numsE [a]=e at *
 refine ACalls.of ⟨89,[],[]⟩ (fn:=Tryz.f57) Tryz.func57 rfl rfl rfl (by kernel_rfl) (by kernel_rfl) (Nat.le_of_ble_eq_true rfl) ?_
 simp (maxSteps:=1000000) -implicitDefEqProofs only [go_sem,awp_seq,Nat.reduceBEq,Nat.reduceLT]
 refine callA_t S ?_
 simp (maxSteps:=1000000) -implicitDefEqProofs only [List.map_cons,List.map_nil,go_sem,awp_seq,Nat.reduceBEq,Nat.reduceLT,Int.reduceLE,Int.reduceToNat]
 refine callA_t F ?_
 simp (maxSteps:=1000000) -implicitDefEqProofs only [List.length_cons,List.length_nil,List.map_cons,List.map_nil,go_sem,awp_seq,Nat.reduceBEq,Nat.reduceAdd,Nat.reduceLeDiff,Nat.reduceLT,Nat.reduceEqDiff,Int.reduceBEq,Int.cast_ofNat_Int]
 refine slice_strs [w,a] (c:=1) (by simp) ?_
 simp (maxSteps:=1000000) -implicitDefEqProofs only [List.drop_succ_cons,List.drop_zero,List.map_cons,List.map_nil,go_sem,awp_seq]
 refine callA_mk (q:=[]) P ?_
 simp (maxSteps:=1000000) -implicitDefEqProofs only [c0,List.map_cons,List.map_nil,go_sem,awp_seq,Nat.reduceBEq,Nat.reduceAdd,Nat.reduceLT]
 all_goals rfl
set_option maxHeartbeats 4000000 in
theorem prule_pts {a:List UInt8} {b:List UInt8} (hm:∀x∈([a,b]:List (List UInt8)),x.length≤1048576) (S:AT 93 [str line,str [32]] (strsA [w,a,b])) (hf:formE w=(4,3)) (h0:numsE [a,b]=0):AC 57 [str line] (.tup [ruleA ⟨4,0,nv a,nv b,[]⟩,i64 0]):=by
 have F:=form_c w
 rw [hf]at F
 have P:=pnums_c [a,b] (by simp) hm
 rw [numsV_ok h0,h0]at P
 have c0:((0:Int) != 0)=false:=rfl
 refine ACalls.of ⟨89,[],[]⟩ (fn:=Tryz.f57) Tryz.func57 rfl rfl rfl (by kernel_rfl) (by kernel_rfl) (Nat.le_of_ble_eq_true rfl) ?_
 simp (maxSteps:=1000000) -implicitDefEqProofs only [go_sem,awp_seq,Nat.reduceBEq,Nat.reduceLT]
 refine callA_t S ?_
 simp (maxSteps:=1000000) -implicitDefEqProofs only [List.map_cons,List.map_nil,go_sem,awp_seq,Nat.reduceBEq,Nat.reduceLT,Int.reduceLE,Int.reduceToNat]
 refine callA_t F ?_
 simp (maxSteps:=1000000) -implicitDefEqProofs only [List.length_cons,List.length_nil,List.map_cons,List.map_nil,go_sem,awp_seq,Nat.reduceBEq,Nat.reduceAdd,Nat.reduceLeDiff,Nat.reduceLT,Nat.reduceEqDiff,Int.reduceBEq,Int.cast_ofNat_Int]
 refine slice_strs [w,a,b] (c:=1) (by simp) ?_
 simp (maxSteps:=1000000) -implicitDefEqProofs only [List.drop_succ_cons,List.drop_zero,List.map_cons,List.map_nil,go_sem,awp_seq]
 refine callA_mk (q:=[]) P ?_
 simp (maxSteps:=1000000) -implicitDefEqProofs only [c0,List.map_cons,List.map_nil,go_sem,awp_seq,Nat.reduceBNe,Nat.reduceBEq,Nat.reduceAdd,Nat.reduceLeDiff,Nat.reduceLT,Int.reduceLE,Int.reduceToNat,Int.reduceBEq]
 all_goals rfl
set_option maxHeartbeats 4000000 in
theorem prule_pts_e {a:List UInt8} {b:List UInt8} (hm:∀x∈([a,b]:List (List UInt8)),x.length≤1048576) (S:AT 93 [str line,str [32]] (strsA [w,a,b])) (hf:formE w=(4,3)) (h0:numsE [a,b]≠0):AC 57 [str line] (.tup [ruleA zR,i64 (numsE [a,b])]):=by
 have F:=form_c w
 rw [hf]at F
 have P:=pnums_c [a,b] (by simp) hm
 have c0:(numsE [a,b] != 0)=true:=by simpa using h0
 rw [numsV_no h0]at P
 generalize numsE [a,b]=e at *
 refine ACalls.of ⟨89,[],[]⟩ (fn:=Tryz.f57) Tryz.func57 rfl rfl rfl (by kernel_rfl) (by kernel_rfl) (Nat.le_of_ble_eq_true rfl) ?_
 simp (maxSteps:=1000000) -implicitDefEqProofs only [go_sem,awp_seq,Nat.reduceBEq,Nat.reduceLT]
 refine callA_t S ?_
 simp (maxSteps:=1000000) -implicitDefEqProofs only [List.map_cons,List.map_nil,go_sem,awp_seq,Nat.reduceBEq,Nat.reduceLT,Int.reduceLE,Int.reduceToNat]
 refine callA_t F ?_
 simp (maxSteps:=1000000) -implicitDefEqProofs only [List.length_cons,List.length_nil,List.map_cons,List.map_nil,go_sem,awp_seq,Nat.reduceBEq,Nat.reduceAdd,Nat.reduceLeDiff,Nat.reduceLT,Nat.reduceEqDiff,Int.reduceBEq,Int.cast_ofNat_Int]
 refine slice_strs [w,a,b] (c:=1) (by simp) ?_
 simp (maxSteps:=1000000) -implicitDefEqProofs only [List.drop_succ_cons,List.drop_zero,List.map_cons,List.map_nil,go_sem,awp_seq]
 refine callA_mk (q:=[]) P ?_
 simp (maxSteps:=1000000) -implicitDefEqProofs only [c0,List.map_cons,List.map_nil,go_sem,awp_seq,Nat.reduceBEq,Nat.reduceAdd,Nat.reduceLT]
 all_goals rfl
set_option maxHeartbeats 4000000 in
theorem prule_key {a:List UInt8} {b:List UInt8} {c:List UInt8} (hm:∀x∈([a,b,c]:List (List UInt8)),x.length≤1048576) (S:AT 93 [str line,str [32]] (strsA [w,a,b,c])) (hf:formE w=(5,4)) (h0:numsE [a,b,c]=0):AC 57 [str line] (.tup [ruleA ⟨5,nv a,nv b,nv c,[]⟩,i64 0]):=by
 have F:=form_c w
 rw [hf]at F
 have P:=pnums_c [a,b,c] (by simp) hm
 rw [numsV_ok h0,h0]at P
 have c0:((0:Int) != 0)=false:=rfl
 refine ACalls.of ⟨89,[],[]⟩ (fn:=Tryz.f57) Tryz.func57 rfl rfl rfl (by kernel_rfl) (by kernel_rfl) (Nat.le_of_ble_eq_true rfl) ?_
 simp (maxSteps:=1000000) -implicitDefEqProofs only [go_sem,awp_seq,Nat.reduceBEq,Nat.reduceLT]
 refine callA_t S ?_
 simp (maxSteps:=1000000) -implicitDefEqProofs only [List.map_cons,List.map_nil,go_sem,awp_seq,Nat.reduceBEq,Nat.reduceLT,Int.reduceLE,Int.reduceToNat]
 refine callA_t F ?_
 simp (maxSteps:=1000000) -implicitDefEqProofs only [List.length_cons,List.length_nil,List.map_cons,List.map_nil,go_sem,awp_seq,Nat.reduceBEq,Nat.reduceAdd,Nat.reduceLeDiff,Nat.reduceLT,Nat.reduceEqDiff,Int.reduceBEq,Int.cast_ofNat_Int]
 refine slice_strs [w,a,b,c] (c:=1) (by simp) ?_
 simp (maxSteps:=1000000) -implicitDefEqProofs only [List.drop_succ_cons,List.drop_zero,List.map_cons,List.map_nil,go_sem,awp_seq]
 refine callA_mk (q:=[]) P ?_
 simp (maxSteps:=1000000) -implicitDefEqProofs only [c0,List.map_cons,List.map_nil,go_sem,awp_seq,Nat.reduceBNe,Nat.reduceBEq,Nat.reduceAdd,Nat.reduceLeDiff,Nat.reduceLT,Int.reduceLE,Int.reduceToNat,Int.reduceBEq]
 all_goals rfl
set_option maxHeartbeats 4000000 in
theorem prule_key_e {a:List UInt8} {b:List UInt8} {c:List UInt8} (hm:∀x∈([a,b,c]:List (List UInt8)),x.length≤1048576) (S:AT 93 [str line,str [32]] (strsA [w,a,b,c])) (hf:formE w=(5,4)) (h0:numsE [a,b,c]≠0):AC 57 [str line] (.tup [ruleA zR,i64 (numsE [a,b,c])]):=by
 have F:=form_c w
 rw [hf]at F
 have P:=pnums_c [a,b,c] (by simp) hm
 have c0:(numsE [a,b,c] != 0)=true:=by simpa using h0
 rw [numsV_no h0]at P
 generalize numsE [a,b,c]=e at *
 refine ACalls.of ⟨89,[],[]⟩ (fn:=Tryz.f57) Tryz.func57 rfl rfl rfl (by kernel_rfl) (by kernel_rfl) (Nat.le_of_ble_eq_true rfl) ?_
 simp (maxSteps:=1000000) -implicitDefEqProofs only [go_sem,awp_seq,Nat.reduceBEq,Nat.reduceLT]
 refine callA_t S ?_
 simp (maxSteps:=1000000) -implicitDefEqProofs only [List.map_cons,List.map_nil,go_sem,awp_seq,Nat.reduceBEq,Nat.reduceLT,Int.reduceLE,Int.reduceToNat]
 refine callA_t F ?_
 simp (maxSteps:=1000000) -implicitDefEqProofs only [List.length_cons,List.length_nil,List.map_cons,List.map_nil,go_sem,awp_seq,Nat.reduceBEq,Nat.reduceAdd,Nat.reduceLeDiff,Nat.reduceLT,Nat.reduceEqDiff,Int.reduceBEq,Int.cast_ofNat_Int]
 refine slice_strs [w,a,b,c] (c:=1) (by simp) ?_
 simp (maxSteps:=1000000) -implicitDefEqProofs only [List.drop_succ_cons,List.drop_zero,List.map_cons,List.map_nil,go_sem,awp_seq]
 refine callA_mk (q:=[]) P ?_
 simp (maxSteps:=1000000) -implicitDefEqProofs only [c0,List.map_cons,List.map_nil,go_sem,awp_seq,Nat.reduceBEq,Nat.reduceAdd,Nat.reduceLT]
 all_goals rfl
set_option maxHeartbeats 4000000 in
theorem prule_set {a:List UInt8} {b:List UInt8} {c:List UInt8} (hm:∀x∈([a,b,c]:List (List UInt8)),x.length≤1048576) (S:AT 93 [str line,str [32]] (strsA [w,a,b,c])) (hf:formE w=(6,4)) (h0:numsE [a,b,c]=0):AC 57 [str line] (.tup [ruleA ⟨6,nv a,nv b,nv c,[]⟩,i64 0]):=by
 have F:=form_c w
 rw [hf]at F
 have P:=pnums_c [a,b,c] (by simp) hm
 rw [numsV_ok h0,h0]at P
 have c0:((0:Int) != 0)=false:=rfl
 refine ACalls.of ⟨89,[],[]⟩ (fn:=Tryz.f57) Tryz.func57 rfl rfl rfl (by kernel_rfl) (by kernel_rfl) (Nat.le_of_ble_eq_true rfl) ?_
 simp (maxSteps:=1000000) -implicitDefEqProofs only [go_sem,awp_seq,Nat.reduceBEq,Nat.reduceLT]
 refine callA_t S ?_
 simp (maxSteps:=1000000) -implicitDefEqProofs only [List.map_cons,List.map_nil,go_sem,awp_seq,Nat.reduceBEq,Nat.reduceLT,Int.reduceLE,Int.reduceToNat]
 refine callA_t F ?_
 simp (maxSteps:=1000000) -implicitDefEqProofs only [List.length_cons,List.length_nil,List.map_cons,List.map_nil,go_sem,awp_seq,Nat.reduceBEq,Nat.reduceAdd,Nat.reduceLeDiff,Nat.reduceLT,Nat.reduceEqDiff,Int.reduceBEq,Int.cast_ofNat_Int]
 refine slice_strs [w,a,b,c] (c:=1) (by simp) ?_
 simp (maxSteps:=1000000) -implicitDefEqProofs only [List.drop_succ_cons,List.drop_zero,List.map_cons,List.map_nil,go_sem,awp_seq]
 refine callA_mk (q:=[]) P ?_
 simp (maxSteps:=1000000) -implicitDefEqProofs only [c0,List.map_cons,List.map_nil,go_sem,awp_seq,Nat.reduceBNe,Nat.reduceBEq,Nat.reduceAdd,Nat.reduceLeDiff,Nat.reduceLT,Int.reduceLE,Int.reduceToNat,Int.reduceBEq]
 all_goals rfl
set_option maxHeartbeats 4000000 in
theorem prule_set_e {a:List UInt8} {b:List UInt8} {c:List UInt8} (hm:∀x∈([a,b,c]:List (List UInt8)),x.length≤1048576) (S:AT 93 [str line,str [32]] (strsA [w,a,b,c])) (hf:formE w=(6,4)) (h0:numsE [a,b,c]≠0):AC 57 [str line] (.tup [ruleA zR,i64 (numsE [a,b,c])]):=by
 have F:=form_c w
 rw [hf]at F
 have P:=pnums_c [a,b,c] (by simp) hm
 have c0:(numsE [a,b,c] != 0)=true:=by simpa using h0
 rw [numsV_no h0]at P
 generalize numsE [a,b,c]=e at *
 refine ACalls.of ⟨89,[],[]⟩ (fn:=Tryz.f57) Tryz.func57 rfl rfl rfl (by kernel_rfl) (by kernel_rfl) (Nat.le_of_ble_eq_true rfl) ?_
 simp (maxSteps:=1000000) -implicitDefEqProofs only [go_sem,awp_seq,Nat.reduceBEq,Nat.reduceLT]
 refine callA_t S ?_
 simp (maxSteps:=1000000) -implicitDefEqProofs only [List.map_cons,List.map_nil,go_sem,awp_seq,Nat.reduceBEq,Nat.reduceLT,Int.reduceLE,Int.reduceToNat]
 refine callA_t F ?_
 simp (maxSteps:=1000000) -implicitDefEqProofs only [List.length_cons,List.length_nil,List.map_cons,List.map_nil,go_sem,awp_seq,Nat.reduceBEq,Nat.reduceAdd,Nat.reduceLeDiff,Nat.reduceLT,Nat.reduceEqDiff,Int.reduceBEq,Int.cast_ofNat_Int]
 refine slice_strs [w,a,b,c] (c:=1) (by simp) ?_
 simp (maxSteps:=1000000) -implicitDefEqProofs only [List.drop_succ_cons,List.drop_zero,List.map_cons,List.map_nil,go_sem,awp_seq]
 refine callA_mk (q:=[]) P ?_
 simp (maxSteps:=1000000) -implicitDefEqProofs only [c0,List.map_cons,List.map_nil,go_sem,awp_seq,Nat.reduceBEq,Nat.reduceAdd,Nat.reduceLT]
 all_goals rfl
set_option maxHeartbeats 4000000 in
theorem prule_cont {a:List UInt8} {b:List UInt8} {c:List UInt8} (hm:∀x∈([b,c]:List (List UInt8)),x.length≤1048576) (S:AT 93 [str line,str [32]] (strsA [w,a,b,c])) (hf:formE w=(1,4)) (h0:numsE [b,c]=0) (hcd:(a == [])=false):AC 57 [str line] (.tup [ruleA ⟨1,0,nv b,nv c,a⟩,i64 0]):=by
 have F:=form_c w
 rw [hf]at F
 have P:=pnums_c [b,c] (by simp) hm
 rw [numsV_ok h0,h0]at P
 have c0:((0:Int) != 0)=false:=rfl
 refine ACalls.of ⟨89,[],[]⟩ (fn:=Tryz.f57) Tryz.func57 rfl rfl rfl (by kernel_rfl) (by kernel_rfl) (Nat.le_of_ble_eq_true rfl) ?_
 simp (maxSteps:=1000000) -implicitDefEqProofs only [go_sem,awp_seq,Nat.reduceBEq,Nat.reduceLT]
 refine callA_t S ?_
 simp (maxSteps:=1000000) -implicitDefEqProofs only [List.map_cons,List.map_nil,go_sem,awp_seq,Nat.reduceBEq,Nat.reduceLT,Int.reduceLE,Int.reduceToNat]
 refine callA_t F ?_
 simp (maxSteps:=1000000) -implicitDefEqProofs only [List.length_cons,List.length_nil,List.map_cons,List.map_nil,go_sem,awp_seq,Nat.reduceBEq,Nat.reduceAdd,Nat.reduceLeDiff,Nat.reduceLT,Nat.reduceEqDiff,Int.reduceBEq,Int.cast_ofNat_Int]
 refine slice_strs [w,a,b,c] (c:=1) (by simp) ?_
 simp (maxSteps:=1000000) -implicitDefEqProofs only [hcd,mk_bs,toList_bs,List.drop_succ_cons,List.drop_zero,List.map_cons,List.map_nil,go_sem,awp_seq,Nat.reduceBNe,Nat.reduceBEq,Nat.reduceAdd,Nat.reduceLT,Int.reduceLE,Int.reduceToNat]
 refine slice_strs [a,b,c] (c:=1) (by simp) ?_
 simp (maxSteps:=1000000) -implicitDefEqProofs only [List.drop_succ_cons,List.drop_zero,List.map_cons,List.map_nil,go_sem,awp_seq]
 refine callA_mk (q:=[]) P ?_
 simp (maxSteps:=1000000) -implicitDefEqProofs only [c0,List.map_cons,List.map_nil,go_sem,awp_seq,Nat.reduceBNe,Nat.reduceBEq,Nat.reduceAdd,Nat.reduceLeDiff,Nat.reduceLT,Int.reduceLE,Int.reduceToNat,Int.reduceBEq]
 all_goals rfl
set_option maxHeartbeats 4000000 in
theorem prule_cont_e {a:List UInt8} {b:List UInt8} {c:List UInt8} (hm:∀x∈([b,c]:List (List UInt8)),x.length≤1048576) (S:AT 93 [str line,str [32]] (strsA [w,a,b,c])) (hf:formE w=(1,4)) (h0:numsE [b,c]≠0) (hcd:(a == [])=false):AC 57 [str line] (.tup [ruleA zR,i64 (numsE [b,c])]):=by
 have F:=form_c w
 rw [hf]at F
 have P:=pnums_c [b,c] (by simp) hm
 have c0:(numsE [b,c] != 0)=true:=by simpa using h0
 rw [numsV_no h0]at P
 generalize numsE [b,c]=e at *
 refine ACalls.of ⟨89,[],[]⟩ (fn:=Tryz.f57) Tryz.func57 rfl rfl rfl (by kernel_rfl) (by kernel_rfl) (Nat.le_of_ble_eq_true rfl) ?_
 simp (maxSteps:=1000000) -implicitDefEqProofs only [go_sem,awp_seq,Nat.reduceBEq,Nat.reduceLT]
 refine callA_t S ?_
 simp (maxSteps:=1000000) -implicitDefEqProofs only [List.map_cons,List.map_nil,go_sem,awp_seq,Nat.reduceBEq,Nat.reduceLT,Int.reduceLE,Int.reduceToNat]
 refine callA_t F ?_
 simp (maxSteps:=1000000) -implicitDefEqProofs only [List.length_cons,List.length_nil,List.map_cons,List.map_nil,go_sem,awp_seq,Nat.reduceBEq,Nat.reduceAdd,Nat.reduceLeDiff,Nat.reduceLT,Nat.reduceEqDiff,Int.reduceBEq,Int.cast_ofNat_Int]
 refine slice_strs [w,a,b,c] (c:=1) (by simp) ?_
 simp (maxSteps:=1000000) -implicitDefEqProofs only [hcd,mk_bs,toList_bs,List.drop_succ_cons,List.drop_zero,List.map_cons,List.map_nil,go_sem,awp_seq,Nat.reduceBNe,Nat.reduceBEq,Nat.reduceAdd,Nat.reduceLT,Int.reduceLE,Int.reduceToNat]
 refine slice_strs [a,b,c] (c:=1) (by simp) ?_
 simp (maxSteps:=1000000) -implicitDefEqProofs only [List.drop_succ_cons,List.drop_zero,List.map_cons,List.map_nil,go_sem,awp_seq]
 refine callA_mk (q:=[]) P ?_
 simp (maxSteps:=1000000) -implicitDefEqProofs only [c0,List.map_cons,List.map_nil,go_sem,awp_seq,Nat.reduceBNe,Nat.reduceBEq,Nat.reduceAdd,Nat.reduceLT]
 all_goals rfl
set_option maxHeartbeats 2000000 in
theorem prule_nocode {b c:List UInt8} (S:AT 93 [str line,str [32]] (strsA [w,[],b,c])) (hf:formE w=(1,4)):AC 57 [str line] (.tup [ruleA zR,i64 2]):=by
 have F:=form_c w
 rw [hf]at F
 have e0:(([]:List UInt8) == [])=true:=rfl
 refine ACalls.of ⟨89,[],[]⟩ (fn:=Tryz.f57) Tryz.func57 rfl rfl rfl (by kernel_rfl) (by kernel_rfl) (Nat.le_of_ble_eq_true rfl) ?_
 simp (maxSteps:=1000000) -implicitDefEqProofs only [go_sem,awp_seq,Nat.reduceBEq,Nat.reduceLT]
 refine callA_t S ?_
 simp (maxSteps:=1000000) -implicitDefEqProofs only [List.map_cons,List.map_nil,go_sem,awp_seq,Nat.reduceBEq,Nat.reduceLT,Int.reduceLE,Int.reduceToNat]
 refine callA_t F ?_
 simp (maxSteps:=1000000) -implicitDefEqProofs only [List.length_cons,List.length_nil,List.map_cons,List.map_nil,go_sem,awp_seq,Nat.reduceBEq,Nat.reduceAdd,Nat.reduceLeDiff,Nat.reduceLT,Nat.reduceEqDiff,Int.reduceBEq,Int.cast_ofNat_Int]
 refine slice_strs [w,[],b,c] (c:=1) (by simp) ?_
 simp (maxSteps:=1000000) -implicitDefEqProofs only [e0,mk_bs,toList_bs,List.drop_succ_cons,List.drop_zero,List.map_cons,List.map_nil,go_sem,awp_seq,Nat.reduceBEq,Nat.reduceAdd,Nat.reduceLT,Int.reduceLE,Int.reduceToNat]
 all_goals rfl
end
theorem prule_c (line:List UInt8) (hl:line.length≤1048576):AC 57 [str line] (.tup [ruleA (ruleP (splK 32 line)).1,i64 (ruleP (splK 32 line)).2]):=by
 have S:=split_k line 32 (by omega)
 have hm:=splK_mem 32 line
 have hcnt:=splK_len 32 line
 have hcl:line.count 32≤line.length:=List.count_le_length
 cases hw:splK 32 line with
 | nil=>exact absurd hw (splK_ne 32 line)
 | cons w us =>
 rw [hw]at S hm hcnt
 have hm:∀x∈us,x.length≤1048576:=fun x hx=>by have:=hm x (by simp [hx]);omega
 have hus:us.length≤1048576:=by rw [List.length_cons]at hcnt;omega
 by_cases hc:((us.length+1:Nat):Int)≠(formE w).2
 ·rw [ruleP_len hc]
  by_cases hk:(formE w).1=0
  ·have hz:formE w=(0,0):=by
    rcases form_cases w with ⟨_,f⟩|⟨_,f⟩|⟨_,f⟩|⟨_,f⟩|⟨_,f⟩|⟨_,f⟩|⟨_,f⟩|⟨_,f⟩|⟨_,f⟩|f
    all_goals first
     | exact f
     | (rw [f]at hk;exact absurd hk (by decide))
   exact prule_none S hz
  ·exact prule_len hus S (k:=(formE w).1) (c:=(formE w).2) rfl hk hc
 have hc:us.length+1=(formE w).2:=Classical.not_not.1 hc
 rcases form_cases w with ⟨_,f⟩|⟨_,f⟩|⟨_,f⟩|⟨_,f⟩|⟨_,f⟩|⟨_,f⟩|⟨_,f⟩|⟨_,f⟩|⟨_,f⟩|f
 ·have hn:us.length=3:=by rw [f]at hc;omega
  obtain ⟨a,b,c,rfl⟩:∃a b c,us=[a,b,c]:=by
   match us,hn with
   | [a,b,c],_=>exact ⟨a,b,c,rfl⟩
  by_cases ha:a=[]
  ·subst ha
   rw [show ruleP [w,[],b,c]=(zR,2)by simp only [ruleP];rw [if_pos f,if_pos trivial]]
   exact prule_nocode S f
  have hm:∀x∈[b,c],x.length≤1048576:=fun x hx=>hm x (List.mem_cons_of_mem _ hx)
  have hcd:(a == [])=false:=by simpa using ha
  by_cases h0:numsE [b,c]=0
  ·rw [show ruleP [w,a,b,c]=(⟨1,0,nv b,nv c,a⟩,0)by simp only [ruleP];rw [f,if_pos rfl,if_neg ha,if_pos h0];try rfl]
   exact prule_cont hm S f h0 hcd
  ·rw [show ruleP [w,a,b,c]=(zR,numsE [b,c])by simp only [ruleP];rw [f,if_pos rfl,if_neg ha,if_neg h0]]
   exact prule_cont_e hm S f h0 hcd
 ·have hn:us.length=1:=by rw [f]at hc;omega
  obtain ⟨a,rfl⟩:∃a,us=[a]:=by
   match us,hn with
   | [a],_=>exact ⟨a,rfl⟩
  by_cases h0:numsE [a]=0
  ·rw [show ruleP [w,a]=(⟨2,0,0,nv a,[]⟩,0)by simp only [ruleP];rw [f,if_pos rfl,if_pos h0];try rfl]
   exact prule_words hm S f h0
  ·rw [show ruleP [w,a]=(zR,numsE [a])by simp only [ruleP];rw [f,if_pos rfl,if_neg h0]]
   exact prule_words_e hm S f h0
 ·have hn:us.length=1:=by rw [f]at hc;omega
  obtain ⟨a,rfl⟩:∃a,us=[a]:=by
   match us,hn with
   | [a],_=>exact ⟨a,rfl⟩
  by_cases h0:numsE [a]=0
  ·rw [show ruleP [w,a]=(⟨3,0,0,nv a,[]⟩,0)by simp only [ruleP];rw [f,if_pos rfl,if_pos h0];try rfl]
   exact prule_secs hm S f h0
  ·rw [show ruleP [w,a]=(zR,numsE [a])by simp only [ruleP];rw [f,if_pos rfl,if_neg h0]]
   exact prule_secs_e hm S f h0
 ·have hn:us.length=2:=by rw [f]at hc;omega
  obtain ⟨a,b,rfl⟩:∃a b,us=[a,b]:=by
   match us,hn with
   | [a,b],_=>exact ⟨a,b,rfl⟩
  by_cases h0:numsE [a,b]=0
  ·rw [show ruleP [w,a,b]=(⟨4,0,nv a,nv b,[]⟩,0)by simp only [ruleP];rw [f,if_pos rfl,if_pos h0];try rfl]
   exact prule_pts hm S f h0
  ·rw [show ruleP [w,a,b]=(zR,numsE [a,b])by simp only [ruleP];rw [f,if_pos rfl,if_neg h0]]
   exact prule_pts_e hm S f h0
 ·have hn:us.length=3:=by rw [f]at hc;omega
  obtain ⟨a,b,c,rfl⟩:∃a b c,us=[a,b,c]:=by
   match us,hn with
   | [a,b,c],_=>exact ⟨a,b,c,rfl⟩
  by_cases h0:numsE [a,b,c]=0
  ·rw [show ruleP [w,a,b,c]=(⟨5,nv a,nv b,nv c,[]⟩,0)by simp only [ruleP];rw [f,if_neg (by decide),if_pos rfl,if_pos h0];try rfl]
   exact prule_key hm S f h0
  ·rw [show ruleP [w,a,b,c]=(zR,numsE [a,b,c])by simp only [ruleP];rw [f,if_neg (by decide),if_pos rfl,if_neg h0]]
   exact prule_key_e hm S f h0
 ·have hn:us.length=3:=by rw [f]at hc;omega
  obtain ⟨a,b,c,rfl⟩:∃a b c,us=[a,b,c]:=by
   match us,hn with
   | [a,b,c],_=>exact ⟨a,b,c,rfl⟩
  by_cases h0:numsE [a,b,c]=0
  ·rw [show ruleP [w,a,b,c]=(⟨6,nv a,nv b,nv c,[]⟩,0)by simp only [ruleP];rw [f,if_neg (by decide),if_pos rfl,if_pos h0];try rfl]
   exact prule_set hm S f h0
  ·rw [show ruleP [w,a,b,c]=(zR,numsE [a,b,c])by simp only [ruleP];rw [f,if_neg (by decide),if_pos rfl,if_neg h0]]
   exact prule_set_e hm S f h0
 ·have hn:us.length=1:=by rw [f]at hc;omega
  obtain ⟨a,rfl⟩:∃a,us=[a]:=by
   match us,hn with
   | [a],_=>exact ⟨a,rfl⟩
  by_cases h0:numsE [a]=0
  ·rw [show ruleP [w,a]=(⟨7,nv a,0,0,[]⟩,0)by simp only [ruleP];rw [f,if_pos rfl,if_pos h0];try rfl]
   exact prule_inc hm S f h0
  ·rw [show ruleP [w,a]=(zR,numsE [a])by simp only [ruleP];rw [f,if_pos rfl,if_neg h0]]
   exact prule_inc_e hm S f h0
 ·have hn:us.length=1:=by rw [f]at hc;omega
  obtain ⟨a,rfl⟩:∃a,us=[a]:=by
   match us,hn with
   | [a],_=>exact ⟨a,rfl⟩
  by_cases h0:numsE [a]=0
  ·rw [show ruleP [w,a]=(⟨8,nv a,0,0,[]⟩,0)by simp only [ruleP];rw [f,if_pos rfl,if_pos h0];try rfl]
   exact prule_exc hm S f h0
  ·rw [show ruleP [w,a]=(zR,numsE [a])by simp only [ruleP];rw [f,if_pos rfl,if_neg h0]]
   exact prule_exc_e hm S f h0
 ·have hn:us.length=0:=by rw [f]at hc;omega
  obtain rfl:=List.length_eq_zero_iff.1 hn
  rw [show ruleP [w]=(⟨9,0,0,0,[]⟩,0)by simp only [ruleP];rw [if_pos f]]
  exact prule_fam hm S f
 ·rw [f]at hc
  have hc:((us.length:Nat):Int)+1=0:=hc
  omega
end Go.Proofs.YtcaahphghaddgaaGreatDoor
set_option linter.unusedSimpArgs false
set_option linter.unusedVariables false
namespace Go.Proofs.YtcaahphghaddgaaGreatDoor
open Go.RowKit Lim
theorem limbs_grown {w w':World} {Z:Zone} (hal:AllLimbs Z w) (hb:Below w.heap.size w w'):AllLimbs (grown Z w w') w':=fun b o v hc hl=>by
 have hlt:b<w'.heap.size:=World.block_lt_of_cell? w' _ hc
 by_cases h:b<w.heap.size
 ·exact .inl (hal b o v ((hb.cell (p:=⟨b,o,none⟩) h).symm.trans hc) hl)
 ·exact .inr ⟨Nat.le_of_not_lt h,hlt⟩
theorem ac_call {w:World} (hE:Env w) {Z:Zone} (hz:∀b o,Z b o→b<w.heap.size) (hal:AllLimbs Z w) {f:FuncId} {args:List AV} {r:AV} (h:AC f args r) (w':World) (vs:Array Value) (hb:Below w.heap.size w w') (hr:Rep w' (grown Z w w') (.agg args) (.agg vs)) :
  Calls Tryz.prog f vs w' fun e w2=>∃v,e=.returned v∧Below w'.heap.size w' w2∧Rep w2 (grown Z w w2) r v:=by
 refine (h.2 w' (grown Z w w') vs (env_below hE hb) (fun b o hg=>?_) (fun _=>limbs_grown hal hb) hr).mono ?_
 ·rcases hg with hg|hg
  ·exact Nat.lt_of_lt_of_le (hz b o hg) hb.size
  ·exact hg.2
 ·rintro e w2 ⟨v,h1,h2,h3⟩
  refine ⟨v,h1,h2,h3.keep (Keeps.refl _ _) fun b o hg=>?_⟩
  rcases hg with (hg|hg)|hg
  ·exact .inl hg
  ·exact .inr ⟨hg.1,Nat.lt_of_lt_of_le hg.2 h2.size⟩
  ·exact .inr ⟨Nat.le_trans hb.size hg.1,hg.2⟩
theorem tup2_val {w:World} {Z:Zone} {a b:AV} {v:Value} (h:Rep w Z (.tup [a,b]) v):∃x y,v=.tuple #[x,y]∧Rep w Z a x∧Rep w Z b y:=by
 cases h with
 | @tup cs us hl hr =>
  refine ⟨us[0]'(by rw [hl];simp),us[1]'(by rw [hl];simp),?_,hr 0 (by simp),hr 1 (by simp)⟩
  congr 1
  apply Array.ext
  ·exact hl
  ·intro i hi _
   have:i<2:=by rw [hl]at hi;simpa using hi
   match i,this with
   | 0,_=>rfl
   | 1,_=>rfl
theorem rule_val {w:World} {Z:Zone} {r:RuleV} {v:Value} (h:Rep w Z (ruleA r) v):v=.agg (ruleVs r).toArray:=by
 cases h with
 | @agg cs us hl hr =>
  congr 1
  apply Array.ext
  ·simpa [ruleVs]using hl
  ·intro i hi _
   have:i<5:=by rw [hl]at hi;simpa using hi
   match i,this with
   | 0,_=>exact (hr 0 (by simp)).lit_eq
   | 1,_=>exact (hr 1 (by simp)).lit_eq
   | 2,_=>exact (hr 2 (by simp)).lit_eq
   | 3,_=>exact (hr 3 (by simp)).lit_eq
   | 4,_=>exact (hr 4 (by simp)).lit_eq
theorem rules_row {w:World} {Z:Zone} {rs:List RuleV} {v:Value} (h:Rep w Z (rulesA rs) v):∃A c,v=.slice A rs.length c∧rs.length≤c∧∀i (hi:i<rs.length),∃b off,A=some ⟨b,off,none⟩∧∀j u,(ruleVs (rs[i]'hi))[j]? = some u→w.cell? ⟨b,off+i*5+j,none⟩=some u:=by
 have h:Rep w Z (.sl 5 (rs.map ruleA)) v:=h
 generalize hm:rs.map ruleA=es at h
 have hl:es.length=rs.length:=by rw [←hm,List.length_map]
 cases h with
 | nil =>
  obtain rfl:rs=[]:=List.length_eq_zero_iff.1 (by rw [←hl];rfl)
  exact ⟨_,_,rfl,Nat.zero_le _,fun i hi=>by simp at hi⟩
 | sl vs hb hc hk hmm hr =>
  rw [hl]at *
  refine ⟨_,_,rfl,hc,fun i hi=>⟨_,_,rfl,fun j u hj=>?_⟩⟩
  have hj5:j<5:=by
   have:=(List.getElem?_eq_some_iff.1 hj).1
   simpa [ruleVs]using this
  rw [(hmm i j hi hj5).1]
  subst hm
  have h5:=hr i (by rw [List.length_map];exact hi) j (by simpa [AV.cells]using hj5)
  simp only [List.getElem_map,AV.cells]at h5
  rw [←hj]
  match j,hj5 with
  | 0,_=>exact congrArg some h5.lit_eq
  | 1,_=>exact congrArg some h5.lit_eq
  | 2,_=>exact congrArg some h5.lit_eq
  | 3,_=>exact congrArg some h5.lit_eq
  | 4,_=>exact congrArg some h5.lit_eq
theorem own_at {w w':World} {B:Nat} {e:TypeId} {size:Nat} {v:Value} {n:Nat} {xs:List Value} (h:w.ownsRow B e size v n xs) (hk:∀g,B≤g→g<w.heap.size→w'.heap[g]? = w.heap[g]?):w'.ownsRow B e size v n xs:=by
 refine ⟨h.1,?_⟩
 rcases h.2 with h0|⟨g,cap,cur,a1,a2,a3,rest⟩
 ·exact .inl h0
 ·exact .inr ⟨g,cap,cur,a1,a2,(hk g a2 (Array.getElem?_eq_some_iff.1 a3).1).trans a3,rest⟩
theorem own_zone {w:World} {B:Nat} {e:TypeId} {size:Nat} {v:Value} {n:Nat} {xs:List Value} (h:w.ownsRow B e size v n xs) {g:Nat} (hg:v.ownBlock=some g):B≤g∧g<w.heap.size:=by
 rcases h.2 with ⟨rfl,_⟩|⟨g',cap,cur,rfl,a2,a3,_⟩
 ·simp [Value.ownBlock]at hg
 ·simp only [Value.ownBlock,Option.some.injEq]at hg
  subst hg
  exact ⟨a2,(Array.getElem?_eq_some_iff.1 a3).1⟩
theorem below_setCell {B:Nat} {w0 w:World} {b i:Nat} {cs:Array Value} {t:TypeId} (hb:Below B w0 w) (hB:B≤b) (hg:w.heap[b]? = some (.cells cs t (0,0))) (v:Value):Below B w0 (w.setCell ⟨b,i,none⟩ v):=by
 rw [setCell_eq_setRow w b i cs t (0,0) v hg]
 exact below_setRow hb hB _
theorem results_cell2 {P:Program} {fn:Func} {p t u:Tmp} {ty:TypeId} (h:fn.results=#[.cell p ty,.tmp t,.tmp u]) (tmps:Array Value) (w:World) (g:Nat) (T:TypeId) (cs:Array Value) (fr:Nat × Nat) (d:TypeDesc)
  (hp:tmps.getD p undef=.pointer (some ⟨g,0,none⟩)) (hg:w.heap[g]? = some (.cells cs T fr))
  (hu:P.underlying ty=some d) (hd:(match d with|.struct _|.array _ _=>true|_=>false)=true) (hi:(P.info? ty).map (·.size)=some cs.size) :
  (results fn tmps).run P w=.ok (.tuple #[.agg cs,tmps.getD t undef,tmps.getD u undef]) w:=by
 have hp':tmps[p]?.getD undef=.pointer (some ⟨g,0,none⟩):=by simpa using hp
 simp [results,h,hp',asAddr,run_loadVar_row w g T ty cs fr d hg hu hd hi,Sem.run_bind,Result.andThen]
theorem all_two {x y:Value} (hx:x.oneCell'=true) (hy:y.oneCell'=true):(#[x,y]:Array Value).all (·.oneCell')=true:=by simp [hx,hy]
theorem all_rule (r:RuleV):((ruleVs r).toArray).all (·.oneCell')=true:=by simp [ruleVs,Value.oneCell']
theorem own_one {w:World} {B:Nat} {e:TypeId} {size:Nat} {v:Value} {n:Nat} {xs:List Value} (h:w.ownsRow B e size v n xs):v.oneCell'=true:=by
 rcases h.2 with ⟨rfl,_⟩|⟨g',cap,cur,rfl,_⟩ <;> rfl
theorem own_some {w:World} {B:Nat} {e:TypeId} {size:Nat} {v:Value} {n:Nat} {xs:List Value} (h:w.ownsRow B e size v (n+1) xs):∃g cap,v=.slice (some ⟨g,0,none⟩) (n+1) cap∧B≤g:=by
 rcases h.2 with ⟨_,h0⟩|⟨g',cap,cur,rfl,a2,_⟩
 ·omega
 ·exact ⟨g',cap,rfl,a2⟩
theorem spec_val {w:World} {Z:Zone} {n:Int} {rs:List RuleV} {v:Value} (h:Rep w Z (.agg [i64 n,rulesA rs]) v):∃u,v=.agg #[.int .i64 n,u]∧Rep w Z (rulesA rs) u:=by
 cases h with
 | @agg cs us hl hr =>
  refine ⟨us[1]'(by rw [hl];simp),?_,hr 1 (by simp)⟩
  congr 1
  apply Array.ext
  ·exact hl
  ·intro i hi _
   have:i<2:=by rw [hl]at hi;simpa using hi
   match i,this with
   | 0,_=>exact (hr 0 (by simp)).lit_eq
   | 1,_=>rfl
theorem tup3_val {w:World} {Z:Zone} {a b c:AV} {v:Value} (h:Rep w Z (.tup [a,b,c]) v):∃x y z,v=.tuple #[x,y,z]∧Rep w Z a x∧Rep w Z b y∧Rep w Z c z:=by
 cases h with
 | @tup cs us hl hr =>
  refine ⟨us[0]'(by rw [hl];simp),us[1]'(by rw [hl];simp),us[2]'(by rw [hl];simp),?_,hr 0 (by simp),hr 1 (by simp),hr 2 (by simp)⟩
  congr 1
  apply Array.ext
  ·exact hl
  ·intro i hi _
   have:i<3:=by rw [hl]at hi;simpa using hi
   match i,this with
   | 0,_=>rfl
   | 1,_=>rfl
   | 2,_=>rfl
end Go.Proofs.YtcaahphghaddgaaGreatDoor
set_option linter.unusedSimpArgs false
set_option linter.unusedVariables false
namespace Go.Proofs.YtcaahphghaddgaaGreatDoor
open Go.RowKit Lim
def finP (n:Int) (g:List RuleV × Int × Int):(Int × List RuleV) × Int × Int :=
 if g.2.2=0 then (if specE n g.1=0 then ((n,g.1),0,0) else ((0,[]),1,specE n g.1)) else ((0,[]),g.2.1,g.2.2)
theorem parse_one {t:List UInt8} (h:(10:UInt8) ∉ t):parseE t=((0,[]),1,2):=by
 unfold parseE
 rw [splK_one h]
theorem parse_more {x r:List UInt8} (h:(10:UInt8) ∉ x):parseE (x ++ 10 :: r)=if (plenE (splK 32 x)).2=0 then finP (plenE (splK 32 x)).1 (goP 2 (splK 10 r) []) else ((0,[]),1,(plenE (splK 32 x)).2):=by
 unfold parseE
 rw [splK_app x h]
 cases hs:splK 10 r with
 | nil=>exact absurd hs (splK_ne 10 r)
 | cons y l=>rfl
theorem goP_one {s:List UInt8} {k:Nat} {acc:List RuleV} (h:(10:UInt8) ∉ s) (hs:s≠[]):goP k (splK 10 s) acc=([],(k:Int),2):=by
 rw [splK_one h]
 unfold goP
 rw [if_neg hs]
theorem goP_nil {k:Nat} {acc:List RuleV}:goP k (splK 10 []) acc=(acc,0,0):=by
 show goP k [[]] acc=_
 unfold goP
 rw [if_pos rfl]
theorem goP_more {x r:List UInt8} {k:Nat} {acc:List RuleV} (h:(10:UInt8) ∉ x):goP k (splK 10 (x ++ 10 :: r)) acc=if (ruleP (splK 32 x)).2=0 then goP (k+1) (splK 10 r) (acc ++ [(ruleP (splK 32 x)).1]) else ([],(k:Int),(ruleP (splK 32 x)).2):=by
 rw [splK_app x h]
 cases hs:splK 10 r with
 | nil=>exact absurd hs (splK_ne 10 r)
 | cons y l =>
  conv=>lhs;unfold goP
abbrev tSpec:TypeId:=24
abbrev spec0:Obj:=.cells #[.int .i64 0,.slice none 0 0] tSpec (0,0)
structure PInv (w:World) (t:List UInt8) (s:List UInt8) (k:Nat) (n:Int) (v:Value) (acc:List RuleV) (wl:World):Prop where
 k1:1≤k
 len:k+s.length≤t.length+1
 cnt:acc.length+1≤k
 below:Below w.heap.size w wl
 res:wl.heap[w.heap.size]? = some spec0
 spec:wl.heap[w.heap.size+1]? = some (.cells #[.int .i64 n,v] tSpec (0,0))
 own:wl.ownsRow (w.heap.size+2) tRule 5 v acc.length (rulesVs acc)
 rel:(k=1∧s=t∧n=0∧acc=[]∧v=.slice none 0 0)∨(2≤k∧parseE t=finP n (goP k (splK 10 s) acc))
theorem spec_rep {w:World} {Z:Zone} {n:Int} {rs:List RuleV} {v:Value} (h:Rep w Z (rulesA rs) v):Rep w Z (.agg [i64 n,rulesA rs]) (.agg #[.int .i64 n,v]) :=
 .agg rfl fun j hj=>by
  match j with
  | 0=>exact .lit rfl
  | 1=>exact h
  | j+2=>exact absurd hj (by simp)
theorem spec_out {w:World} {Z:Zone} {n e l:Int} {rs:List RuleV} {v:Value} (h:Rep w Z (rulesA rs) v):Rep w Z (.tup [.agg [i64 n,rulesA rs],i64 l,i64 e]) (.tuple #[.agg #[.int .i64 n,v],.int .i64 l,.int .i64 e]) :=
 .tup rfl fun i hi=>by
  match i with
  | 0=>exact spec_rep h
  | 1=>exact .lit rfl
  | 2=>exact .lit rfl
  | i+3=>exact absurd hi (by simp)
theorem spec_info:(Tryz.prog.info? tSpec).map (·.size)=some 2:=by kernel_rfl
theorem parse_ret {R:Ending→World→Prop} {a:Act} {w':World} {g:Nat} {x y l e:Value} (hd:a.defers=[]) (hp:a.tmps.getD 2 undef=.pointer (some ⟨g,0,none⟩)) (h3:a.tmps.getD 3 undef=l) (h4:a.tmps.getD 4 undef=e) (hg:w'.heap[g]? = some (.cells #[x,y] tSpec (0,0)))
  (hR:R (.returned (.tuple #[.agg #[x,y],l,e])) w'):bodyPost Tryz.prog Tryz.f20 R .ret a w':=by
 subst h3
 subst h4
 exact bodyPost_ret (results_cell2 (fn:=Tryz.f20) rfl a.tmps w' g tSpec #[x,y] (0,0) _ hp hg Tryz.underlying24 rfl spec_info) hd hR
set_option maxHeartbeats 8000000 in
set_option maxRecDepth 100000 in
theorem parse_c (t:List UInt8) (ht:t.length≤1048576):AC 20 [str t] (.tup [.agg [i64 (parseE t).1.1,rulesA (parseE t).1.2],i64 (parseE t).2.1,i64 (parseE t).2.2]):=by
 refine ⟨⟨_,Tryz.func20,by kernel_rfl,by kernel_rfl⟩,fun w Z vs hE hz hal hrep=>?_⟩
 have hal:AllLimbs Z w:=hal rfl
 obtain ⟨_,rfl,q1⟩:=reps1 hrep
 obtain rfl:=q1.lit_eq
 clear q1 hrep
 change Calls Tryz.prog _ _ w _
 have hinf:(Tryz.prog.info? 78).map (fun i=>(i.zero,i.size,i.bytes))=some (some (.agg #[.int .i64 0,.int .i64 0,.int .i64 0,.int .i64 0,.string ⟨#[]⟩]),5,48):=by kernel_rfl
 obtain ⟨i0,hi,hz0,hz1,hz2⟩:=info_parts hinf
 have hri:(Tryz.prog.info? 78).map (·.size)=some 5:=by kernel_rfl
 go_enter Tryz.func20,Tryz.ntmps20
 go_wp2
 go_loopw [0,6] (fun s i wl=>∃(s':List UInt8) (k:Nat) (n:Int) (v:Value) (acc:List RuleV),s=.string (bs s')∧i=.int .i64 k∧PInv w t s' k n v acc wl) (fun _ i _=>t.length+2-(intOf i).toNat)
 case atStart =>
  refine ⟨t,1,0,.slice none 0 0,[],rfl,rfl,⟨Nat.le_refl _,by omega,by simp,((Below.refl _ _).alloc (Nat.le_refl _) _).alloc (by simp) _,?_,?_,World.ownsRow_nil _ _ _ _,.inl ⟨rfl,rfl,rfl,rfl,rfl⟩⟩⟩
  ·rw [Lib.alloc_old _ _ _ (by simp)]
   exact heap_alloc_new w _
  ·have:=heap_alloc_new (w.alloc spec0) spec0
   rw [show (w.alloc spec0).heap.size=w.heap.size+1 by simp]at this
   exact this
 case round =>
  obtain ⟨s,k,n,v,acc,rfl,rfl,I⟩:=hrel
  have hlt:w.heap.size+1<wr.heap.size:=(Array.getElem?_eq_some_iff.1 I.spec).1
  have hsl:s.length≤1048576:=by have:=I.len;have:=I.k1;omega
  rcases I.rel with ⟨rfl,rfl,rfl,rfl,rfl⟩|⟨hk2,hrel⟩
  ·go_wp2_with (go_at_call 55;refine (at_call hE (cut_k s [10] (by omega)) wr (fun _ _=>False) _ I.below (fun _ _ h=>h.elim) (rep_2 (.lit rfl) (.lit rfl))).mono ?_)
   rintro e w2 ⟨v,rfl,hb2,hr2⟩
   obtain ⟨x1,x2,x3,rfl,r1,r2,r3⟩:=tup3_val hr2
   obtain rfl:=r1.lit_eq
   obtain rfl:=r2.lit_eq
   obtain rfl:=r3.lit_eq
   clear hr2 r1 r2 r3
   have hB2:=I.below.trans (hb2.mono I.below.size)
   have hres:w2.heap[w.heap.size]? = some spec0:=by rw [hb2.block _ (by omega)];exact I.res
   have hspec:w2.heap[w.heap.size+1]? = some spec0:=by rw [hb2.block _ hlt];exact I.spec
   have hs2:w.heap.size+1<w2.heap.size:=Nat.lt_of_lt_of_le hlt hb2.size
   rcases splK_head (c:=10) s with ⟨_,hno⟩|⟨x,r,hs,hx,_⟩
   ·rw [cutc_miss hno]
    have hpe:=parse_one hno
    go_wp2_with (refine wpList_store_row rfl tSpec (.tmp 2) _ rfl w.heap.size #[.int .i64 0,.slice none 0 0] rfl rfl _ _ hres spec_info rfl (all_two rfl rfl) ?_)
    go_wp2
    try simp only [Exit.inBlock,Exit.then]
    refine parse_ret rfl rfl rfl rfl (setRow_heap _ _ _ _ _ _ hres) ?_
    rw [hpe]
    exact ⟨_,rfl,below_setRow hB2 (Nat.le_refl _) _,spec_out .nil⟩
   ·have hpe:parseE s=_:=(congrArg parseE hs).trans (parse_more hx)
    have hxs:x.length+r.length+1=s.length:=by rw [hs];simp;omega
    rw [hs,cutc_at hx]
    rw [←hs]
    go_wp2_with (go_at_call 56;refine (ac_call hE hz hal (plen_c x (by omega)) w2 _ hB2 (rep_1 (.lit rfl))).mono ?_)
    rintro e w3 ⟨v,rfl,hb3,hr3⟩
    obtain ⟨x1,x2,rfl,r1,r2⟩:=tup2_val hr3
    obtain rfl:=r1.lit_eq
    obtain rfl:=r2.lit_eq
    clear hr3 r1 r2
    have hB3:=hB2.trans (hb3.mono hB2.size)
    have hres3:w3.heap[w.heap.size]? = some spec0:=by rw [hb3.block _ (by omega)];exact hres
    have hspec3:w3.heap[w.heap.size+1]? = some spec0:=by rw [hb3.block _ hs2];exact hspec
    have hs3:w.heap.size+1<w3.heap.size:=Nat.lt_of_lt_of_le hs2 hb3.size
    generalize plenE (splK 32 x)=pl at *
    by_cases hp0:pl.2=0
    ·rw [if_pos hp0]at hpe
     rw [hp0]
     have f0:w3.frozen? ⟨w.heap.size+1,0,none⟩=false:=frozen_of_row _ _ _ _ _ hspec3
     have c0:w3.cell? ⟨w.heap.size+1,0,none⟩=some (.int .i64 0):=by rw [Lib.cell_of_heap hspec3];rfl
     go_wp2
     refine ⟨⟨r,2,pl.1,.slice none 0 0,[],rfl,rfl,⟨by omega,by omega,by simp,below_setCell hB3 (by omega) hspec3 _,?_,?_,World.ownsRow_nil _ _ _ _,.inr ⟨by omega,hpe⟩⟩⟩,?_⟩
     ·rw [heap_setCell_other _ _ _ _ (by simp)];exact hres3
     ·exact heap_setCell_same _ _ _ _ _ _ hspec3
     ·simp only [intOf]
      omega
    ·rw [if_neg hp0]at hpe
     have g0:(pl.2 != 0)=true:=by simpa using hp0
     go_wp2_with (refine wpList_store_row rfl tSpec (.tmp 2) _ rfl w.heap.size #[.int .i64 0,.slice none 0 0] rfl rfl _ _ hres3 spec_info rfl (all_two rfl rfl) ?_)
     go_wp2
     try simp only [Exit.inBlock,Exit.then]
     refine parse_ret rfl rfl rfl rfl (setRow_heap _ _ _ _ _ _ hres3) ?_
     rw [hpe]
     exact ⟨_,rfl,below_setRow hB3 (Nat.le_refl _) _,spec_out .nil⟩
  ·have hgo:parseE t=_:=hrel
   have hk1:((k:Int) == 1)=false:=by rw [beq_eq_false_iff_ne];omega
   have hv1:=own_one I.own
   by_cases hs0:s=[]
   ·subst hs0
    rw [goP_nil]at hgo
    unfold finP at hgo
    rw [if_pos rfl]at hgo
    have c5:wr.cell? ⟨w.heap.size+1,0,none⟩=some (.int .i64 n):=by rw [Lib.cell_of_heap I.spec];rfl
    have c6:wr.cell? ⟨w.heap.size+1,1,none⟩=some v:=by rw [Lib.cell_of_heap I.spec];rfl
    have hR:Rep wr (grown Z w wr) (.agg [i64 n,rulesA acc]) (.agg #[.int .i64 n,v]):=spec_rep (rules_rep I.own fun g hg o=>by
     have:=own_zone I.own hg
     exact .inr ⟨by omega,this.2⟩)
    have he:(bs []).toList.isEmpty=true:=by rw [toList_ba];rfl
    go_wp2_with (go_at_call 12;refine (ac_call hE hz hal (bvalid_c n acc).ofT wr _ I.below (rep_1 hR)).mono ?_)
    rintro e w2 x rfl hb2 hr2
    obtain rfl:=hr2.lit_eq
    clear hr2 c5 c6
    have hB2:=I.below.trans (hb2.mono I.below.size)
    have hres:w2.heap[w.heap.size]? = some spec0:=by rw [hb2.block _ (by omega)];exact I.res
    have hspec:w2.heap[w.heap.size+1]? = some (.cells #[.int .i64 n,v] tSpec (0,0)):=by rw [hb2.block _ hlt];exact I.spec
    have hown:=own_at I.own (w':=w2) fun g _ hg=>hb2.block g hg
    have c5:w2.cell? ⟨w.heap.size+1,0,none⟩=some (.int .i64 n):=by rw [Lib.cell_of_heap hspec];rfl
    have c6:w2.cell? ⟨w.heap.size+1,1,none⟩=some v:=by rw [Lib.cell_of_heap hspec];rfl
    by_cases h0:specE n acc=0
    ·rw [if_pos h0]at hgo
     rw [h0]
     go_wp2_with (refine wpList_store_row rfl tSpec (.tmp 2) _ rfl w.heap.size #[.int .i64 n,v] rfl rfl _ _ hres spec_info rfl (all_two rfl hv1) ?_)
     try simp only [Exit.inBlock,Exit.then]
     refine parse_ret rfl rfl rfl rfl (setRow_heap _ _ _ _ _ _ hres) ?_
     rw [hgo]
     refine ⟨_,rfl,below_setRow hB2 (Nat.le_refl _) _,spec_out (rules_rep (own_at hown fun g hg _=>setRow_other _ _ _ _ (by omega)) fun g hg o=>.inr ⟨?_,?_⟩)⟩
     ·have:=(own_zone hown hg).1;omega
     ·rw [setRow_size];exact (own_zone hown hg).2
    ·rw [if_neg h0]at hgo
     have g0:(specE n acc != 0)=true:=by simpa using h0
     go_wp2_with (refine wpList_store_row rfl tSpec (.tmp 2) _ rfl w.heap.size #[.int .i64 0,.slice none 0 0] rfl rfl _ _ hres spec_info rfl (all_two rfl rfl) ?_)
     try simp only [Exit.inBlock,Exit.then]
     refine parse_ret rfl rfl rfl rfl (setRow_heap _ _ _ _ _ _ hres) ?_
     rw [hgo]
     exact ⟨_,rfl,below_setRow hB2 (Nat.le_refl _) _,spec_out .nil⟩
   ·have he:(bs s).toList.isEmpty=false:=by
     rw [toList_ba]
     cases s with
     | nil=>exact absurd rfl hs0
     | cons _ _=>rfl
    go_wp2_with (go_at_call 55;refine (at_call hE (cut_k s [10] (by omega)) wr (fun _ _=>False) _ I.below (fun _ _ h=>h.elim) (rep_2 (.lit rfl) (.lit rfl))).mono ?_)
    rintro e w2 ⟨x,rfl,hb2,hr2⟩
    obtain ⟨x1,x2,x3,rfl,r1,r2,r3⟩:=tup3_val hr2
    obtain rfl:=r1.lit_eq
    obtain rfl:=r2.lit_eq
    obtain rfl:=r3.lit_eq
    clear hr2 r1 r2 r3
    have hB2:=I.below.trans (hb2.mono I.below.size)
    have hres:w2.heap[w.heap.size]? = some spec0:=by rw [hb2.block _ (by omega)];exact I.res
    have hspec:w2.heap[w.heap.size+1]? = some (.cells #[.int .i64 n,v] tSpec (0,0)):=by rw [hb2.block _ hlt];exact I.spec
    have hown:=own_at I.own (w':=w2) fun g _ hg=>hb2.block g hg
    have hs2:w.heap.size+1<w2.heap.size:=Nat.lt_of_lt_of_le hlt hb2.size
    rcases splK_head (c:=10) s with ⟨_,hno⟩|⟨x,r,hs,hx,_⟩
    ·rw [goP_one hno hs0]at hgo
     unfold finP at hgo
     rw [if_neg (show ¬(2:Int)=0 by decide)]at hgo
     rw [cutc_miss hno]
     go_wp2_with (refine wpList_store_row rfl tSpec (.tmp 2) _ rfl w.heap.size #[.int .i64 0,.slice none 0 0] rfl rfl _ _ hres spec_info rfl (all_two rfl rfl) ?_)
     try simp only [Exit.inBlock,Exit.then]
     refine parse_ret rfl rfl rfl rfl (setRow_heap _ _ _ _ _ _ hres) ?_
     rw [hgo]
     exact ⟨_,rfl,below_setRow hB2 (Nat.le_refl _) _,spec_out .nil⟩
    ·have hxs:x.length+r.length+1=s.length:=by rw [hs];simp;omega
     rw [hs,goP_more hx]at hgo
     rw [hs,cutc_at hx]
     rw [←hs]
     go_wp2_with (go_at_call 57;refine (ac_call hE hz hal (prule_c x (by omega)) w2 _ hB2 (rep_1 (.lit rfl))).mono ?_)
     rintro e w3 ⟨x3,rfl,hb3,hr3⟩
     obtain ⟨x1,x2,rfl,r1,r2⟩:=tup2_val hr3
     obtain rfl:=rule_val r1
     obtain rfl:=r2.lit_eq
     clear hr3 r1 r2
     have hB3:=hB2.trans (hb3.mono hB2.size)
     have hs3:w.heap.size+1<w3.heap.size:=Nat.lt_of_lt_of_le hs2 hb3.size
     have hres3:w3.heap[w.heap.size]? = some spec0:=by rw [hb3.block _ (by omega)];exact hres
     have hspec3:w3.heap[w.heap.size+1]? = some (.cells #[.int .i64 n,v] tSpec (0,0)):=by rw [hb3.block _ hs2];exact hspec
     have hown3:=own_at hown (w':=w3) fun g _ hg=>hb3.block g hg
     clear hspec hown
     generalize ruleP (splK 32 x)=pr at *
     obtain ⟨ru,er⟩:=pr
     obtain ⟨w4,hw4⟩:∃w4,w4=(w3.alloc (.cells #[.int .i64 0,.int .i64 0,.int .i64 0,.int .i64 0,.string ⟨#[]⟩] tRule)).setRow w3.heap.size (ruleVs ru).toArray:=⟨_,rfl⟩
     have hn3:=heap_alloc_new w3 (.cells #[.int .i64 0,.int .i64 0,.int .i64 0,.int .i64 0,.string ⟨#[]⟩] tRule)
     have hst:(storeCells ⟨w3.heap.size,0,none⟩ (ruleVs ru)).run Tryz.prog (w3.alloc (.cells #[.int .i64 0,.int .i64 0,.int .i64 0,.int .i64 0,.string ⟨#[]⟩] tRule))=.ok () w4:=by
      have q:=run_storeCells_from (P:=Tryz.prog) w3.heap.size tRule (ruleVs ru) 0 _ _ hn3 (by simp [ruleVs]) (fun v hv=>Array.all_eq_true_iff_forall_mem.1 (all_rule ru) v (by simpa using hv))
      rw [hw4]
      exact q
     have hr4:w4.heap[w3.heap.size]? = some (.cells (ruleVs ru).toArray tRule (0,0)):=by rw [hw4];exact setRow_heap _ _ _ _ _ _ hn3
     have ho4:∀g,g<w3.heap.size→w4.heap[g]? = w3.heap[g]?:=fun g hg=>by rw [hw4,setRow_other _ _ _ _ (by omega),Lib.alloc_old _ _ _ hg]
     have hs4:w4.heap.size=w3.heap.size+1:=by rw [hw4,setRow_size];simp
     have hB4:Below w.heap.size w w4:=by rw [hw4];exact below_setRow (hB3.alloc hB3.size _) hB3.size _
     have hres4:w4.heap[w.heap.size]? = some spec0:=by rw [ho4 _ (by omega)];exact hres3
     have hspec4:w4.heap[w.heap.size+1]? = some (.cells #[.int .i64 n,v] tSpec (0,0)):=by rw [ho4 _ hs3];exact hspec3
     have hown4:=own_at hown3 (w':=w4) fun g _ hg=>ho4 g hg
     clear hw4 hn3
     by_cases h0:er=0
     ·subst h0
      rw [if_pos rfl]at hgo
      have d0:w4.cell? ⟨w3.heap.size,0,none⟩=some (.int .i64 ru.k):=by rw [Lib.cell_of_heap hr4];rfl
      have d1:w4.cell? ⟨w3.heap.size,1,none⟩=some (.int .i64 ru.n):=by rw [Lib.cell_of_heap hr4];rfl
      have d2:w4.cell? ⟨w3.heap.size,2,none⟩=some (.int .i64 ru.lo):=by rw [Lib.cell_of_heap hr4];rfl
      have d3:w4.cell? ⟨w3.heap.size,3,none⟩=some (.int .i64 ru.hi):=by rw [Lib.cell_of_heap hr4];rfl
      have d4:w4.cell? ⟨w3.heap.size,4,none⟩=some (.string (bs ru.code)):=by rw [Lib.cell_of_heap hr4];rfl
      have c6:w4.cell? ⟨w.heap.size+1,1,none⟩=some v:=by rw [Lib.cell_of_heap hspec4];rfl
      have ha:acc.length+1≤1048578:=by have:=I.cnt;have:=I.len;omega
      go_wp2_with (at_builtin;refine wpList_append_own _ rfl _ _ 22 rfl (w.heap.size+2) tRule i0 (.agg #[.int .i64 0,.int .i64 0,.int .i64 0,.int .i64 0,.string ⟨#[]⟩]) 5 48 Tryz.underlying22 hi hz0 hz1 hz2 rfl (by decide) _ _ _ rfl (hown4.alloc _) _ _ _ (ruleVs ru) rfl rfl ?c1 ?c2 ?c3 ?c4 ?c5 ?_)
      case c1 =>
       intro j u hj
       have hb:=heap_alloc_new w4 (.cells #[.int .i64 ru.k,.int .i64 ru.n,.int .i64 ru.lo,.int .i64 ru.hi,.string (bs ru.code)] tRule)
       rw [hs4]at hb
       rw [show (⟨w3.heap.size+1,0,none⟩:Addr).add j=⟨w3.heap.size+1,j,none⟩by unfold Addr.add;split <;> simp_all]
       rw [Lib.cell_of_heap hb]
       simpa [ruleVs]using hj
      case c2=>exact fun u hu=>Array.all_eq_true_iff_forall_mem.1 (all_rule ru) u (by simpa using hu)
      case c3=>unfold maxLen;omega
      case c4=>omega
      case c5=>simp;omega
      intro v' w5 hown5 hgrow _
      rw [rulesVs_app]at hown5
      obtain ⟨g',cap',rfl,hg'⟩:=own_some hown5
      have hblk5:∀g,g<w4.heap.size→some g≠v.ownBlock→w5.heap[g]? = w4.heap[g]?:=fun g hg hne=>(hgrow.block g (by simp;omega) hne).trans (Lib.alloc_old _ _ _ hg)
      have hne:∀g,g<w.heap.size+2→some g≠v.ownBlock:=fun g hg he=>by have:=(own_zone hown4 he.symm).1;omega
      have hspec5:w5.heap[w.heap.size+1]? = some (.cells #[.int .i64 n,v] tSpec (0,0)):=(hblk5 _ (by omega) (hne _ (by omega))).trans hspec4
      have hres5:w5.heap[w.heap.size]? = some spec0:=(hblk5 _ (by omega) (hne _ (by omega))).trans hres4
      have hs5:w4.heap.size≤w5.heap.size:=by have:=hgrow.size;simp at this;omega
      have hB5:Below w.heap.size w w5:=⟨hgrow.os.trans hB4.os,hgrow.tape.trans hB4.tape,hgrow.output.trans hB4.output,Nat.le_trans hB4.size hs5,fun k hk=>(hblk5 k (by omega) (hne k (by omega))).trans (hB4.block k hk)⟩
      have f6:w5.frozen? ⟨w.heap.size+1,1,none⟩=false:=frozen_of_row _ _ _ _ _ hspec5
      have c7:w5.cell? ⟨w.heap.size+1,1,none⟩=some v:=by rw [Lib.cell_of_heap hspec5];rfl
      have l1:=I.len
      have l2:=I.cnt
      have hk64:((k:Nat):Int)+1≤9223372036854775807:=by omega
      go_wp2
      refine ⟨⟨r,k+1,n,.slice (some ⟨g',0,none⟩) (acc.length+1) cap',acc ++ [ru],rfl,by simp,⟨by omega,by omega,by simp;omega,below_setCell hB5 (by omega) hspec5 _,?_,heap_setCell_same _ _ _ _ _ _ hspec5,?_,.inr ⟨by omega,hgo⟩⟩⟩,?_⟩
      ·rw [heap_setCell_other _ _ _ _ (by simp)];exact hres5
      ·rw [List.length_append]
       exact own_at hown5 fun g hg _=>heap_setCell_other _ _ _ _ (by simp;omega)
      ·simp only [intOf]
       omega
     ·rw [if_neg h0]at hgo
      unfold finP at hgo
      rw [if_neg h0]at hgo
      have g0:(er != 0)=true:=by simpa using h0
      go_wp2_with (first|(refine wpList_store_row rfl tSpec (.tmp 2) _ rfl w.heap.size #[.int .i64 0,.slice none 0 0] rfl rfl _ _ hres4 spec_info rfl (all_two rfl rfl) ?_))
      try simp only [Exit.inBlock,Exit.then]
      refine parse_ret rfl rfl rfl rfl (setRow_heap _ _ _ _ _ _ hres4) ?_
      rw [hgo]
      exact ⟨_,rfl,below_setRow hB4 (Nat.le_refl _) _,spec_out .nil⟩
end Go.Proofs.YtcaahphghaddgaaGreatDoor
set_option linter.unusedSimpArgs false
set_option linter.unusedVariables false
namespace Go.Proofs.YtcaahphghaddgaaGreatDoor
open Go.RowKit Lim
set_option maxHeartbeats 4000000 in
set_option maxRecDepth 100000 in
theorem same_c (n:Int) (rs:List RuleV) (hl:rs.length≤1048576):AT 21 [.agg [i64 n,rulesA rs],.agg [i64 n,rulesA rs]] (boo true):=by
 refine ⟨⟨_,Tryz.func21,by kernel_rfl,by kernel_rfl⟩,fun w Z vs hE hz _ hrep=>?_⟩
 obtain ⟨v1,v2,rfl,q1,q2⟩:=reps2 hrep
 obtain ⟨u1,rfl,p1⟩:=spec_val q1
 obtain ⟨u2,rfl,p2⟩:=spec_val q2
 obtain ⟨A,c,rfl,_,hA⟩:=rules_row p1
 obtain ⟨A',c',rfl,_,hA'⟩:=rules_row p2
 change Calls Tryz.prog _ _ w _
 have hlen:((rs.length:Nat):Int)≤9223372036854775807:=by omega
 go_enter Tryz.func21,Tryz.ntmps21
 go_wp2
 go_loopw [23] (fun i wl=>∃k:Nat,i=.int .i64 k∧k≤rs.length∧Below w.heap.size w wl∧wl.heap[w.heap.size]? = some (.cells #[.int .i64 n,.slice A rs.length c] 24 (0,0))∧wl.heap[w.heap.size+1]? = some (.cells #[.int .i64 n,.slice A' rs.length c'] 24 (0,0))) (fun i _=>rs.length-(intOf i).toNat)
 case atStart =>
  refine ⟨0,rfl,Nat.zero_le _,((Below.refl _ _).alloc (Nat.le_refl _) _).alloc (by simp) _,?_,?_⟩
  ·rw [Lib.alloc_old _ _ _ (by simp)]
   exact heap_alloc_new w _
  ·have:=heap_alloc_new (w.alloc (.cells #[.int .i64 n,.slice A rs.length c] 24)) (.cells #[.int .i64 n,.slice A' rs.length c'] 24)
   rw [show (w.alloc (.cells #[.int .i64 n,.slice A rs.length c] 24)).heap.size=w.heap.size+1 by simp]at this
   exact this
 case round =>
  obtain ⟨k,rfl,hk,hbw,hx1,hx2⟩:=hrel
  have c0:wr.cell? ⟨w.heap.size,0,none⟩=some (.int .i64 n):=by rw [Lib.cell_of_heap hx1];rfl
  have c1:wr.cell? ⟨w.heap.size,1,none⟩=some (.slice A rs.length c):=by rw [Lib.cell_of_heap hx1];rfl
  have c2:wr.cell? ⟨w.heap.size+1,0,none⟩=some (.int .i64 n):=by rw [Lib.cell_of_heap hx2];rfl
  have c3:wr.cell? ⟨w.heap.size+1,1,none⟩=some (.slice A' rs.length c'):=by rw [Lib.cell_of_heap hx2];rfl
  by_cases hlt:k<rs.length
  ·obtain ⟨b,off,hAb,hc⟩:=hA k hlt
   obtain ⟨b',off',hAb',hc'⟩:=hA' k hlt
   have g1:((k:Nat):Int)<((rs.length:Nat):Int):=by omega
   have g2:((k:Nat):Int).toNat=k:=Int.toNat_natCast k
   subst hAb
   subst hAb'
   have d0:=(hbw.cell (p:=⟨b,off+k*5+0,none⟩) (World.block_lt_of_cell? w _ (hc 0 _ rfl))).trans (hc 0 _ rfl)
   have d1:=(hbw.cell (p:=⟨b,off+k*5+1,none⟩) (World.block_lt_of_cell? w _ (hc 1 _ rfl))).trans (hc 1 _ rfl)
   have d2:=(hbw.cell (p:=⟨b,off+k*5+2,none⟩) (World.block_lt_of_cell? w _ (hc 2 _ rfl))).trans (hc 2 _ rfl)
   have d3:=(hbw.cell (p:=⟨b,off+k*5+3,none⟩) (World.block_lt_of_cell? w _ (hc 3 _ rfl))).trans (hc 3 _ rfl)
   have d4:=(hbw.cell (p:=⟨b,off+k*5+4,none⟩) (World.block_lt_of_cell? w _ (hc 4 _ rfl))).trans (hc 4 _ rfl)
   have e0:=(hbw.cell (p:=⟨b',off'+k*5+0,none⟩) (World.block_lt_of_cell? w _ (hc' 0 _ rfl))).trans (hc' 0 _ rfl)
   have e1:=(hbw.cell (p:=⟨b',off'+k*5+1,none⟩) (World.block_lt_of_cell? w _ (hc' 1 _ rfl))).trans (hc' 1 _ rfl)
   have e2:=(hbw.cell (p:=⟨b',off'+k*5+2,none⟩) (World.block_lt_of_cell? w _ (hc' 2 _ rfl))).trans (hc' 2 _ rfl)
   have e3:=(hbw.cell (p:=⟨b',off'+k*5+3,none⟩) (World.block_lt_of_cell? w _ (hc' 3 _ rfl))).trans (hc' 3 _ rfl)
   have e4:=(hbw.cell (p:=⟨b',off'+k*5+4,none⟩) (World.block_lt_of_cell? w _ (hc' 4 _ rfl))).trans (hc' 4 _ rfl)
   clear hc hc' hA hA' hrep q1 q2 p1 p2
   generalize rs[k]=r at *
   rw [Nat.add_zero]at d0 e0
   go_wp2
   go_quiet (fail)
   go_wp2
   refine ⟨⟨k+1,by simp,by omega,hbw.trans ⟨rfl,rfl,rfl,Nat.le_refl _,fun _ _=>rfl⟩,by rw [World.heap_drewN];exact hx1,by rw [World.heap_drewN];exact hx2⟩,?_⟩
   simp only [intOf]
   omega
  ·have g1:¬((k:Nat):Int)<((rs.length:Nat):Int):=by omega
   go_wp2
   go_ret
   exact ⟨_,rfl,hbw,.lit rfl⟩
end Go.Proofs.YtcaahphghaddgaaGreatDoor
set_option linter.unusedSimpArgs false
set_option linter.unusedVariables false
namespace Go.Proofs.YtcaahphghaddgaaGreatDoor
open Go.RowKit Lim
noncomputable section
def isConstQ:Operand→Bool
 | .const _=>true
 | _=>false
def ifEqQ (ox oy:Operand) (a b:AV):Option Bool:=match a,b with
 | .lit .nilIface,.lit .nilIface=>bif isConstQ ox || isConstQ oy then some true else none
 | .ifc _ _,.lit .nilIface=>some false
 | .lit .nilIface,.ifc _ _=>some false
 | _,_=>none
def flipQ (op:BinOp) (r:Bool):Option Bool:=match op with
 | .eql=>some r
 | .neq=>some (!r)
 | _=>none
def litEq (k:TK) (a b:AV):Option Bool:=match k,a,b with
 | .int q,.lit (.int q1 x),.lit (.int q2 y)=>bif decide (q=q1) && decide (q=q2) then some (x == y) else none
 | .bool,.lit (.bool x),.lit (.bool y)=>some (x == y)
 | .str,.lit (.string x),.lit (.string y)=>some (x.data.toList == y.data.toList)
 | _,_,_=>none
def fieldsEq (T:TyTab) (xs ys:List AV):List (Nat × Nat × TypeId)→Option Bool
 | []=>some true
 | (o,_,t) :: l=>(T t).bind fun i=>(takeA i (xs.drop o)).bind fun a=>(takeA i (ys.drop o)).bind fun b=>(litEq i.kind a b).bind fun r=>match r with
  | true=>fieldsEq T xs ys l
  | false=>some false
def strEqQ (T:TyTab) (ty:TypeId) (a b:AV):Option Bool:=match T ty,a,b with
 | some ⟨.strct fs,_,_⟩,.agg xs,.agg ys=>fieldsEq T xs ys fs
 | _,_,_=>none
section
variable {P:Program} {T:TyTab} {w:World} {Z:Zone}
theorem eqIn_nil_held (d:Nat) (t u:TypeId) (x:Value) (h:P.underlying t=some (.interface (P.methodsAt t))):(Op.equalIn (d+1) t .nilIface (.iface u x)).run P w=.ok false w:=by
 simp [Op.equalIn,run_underlying h]
theorem eq_nil_held (t u:TypeId) (x:Value) (h:P.underlying t=some (.interface (P.methodsAt t))):(Op.equal t .nilIface (.iface u x)).run P w=.ok false w:=eqIn_nil_held 9999 t u x h
theorem eql_nil_held (t u:TypeId) (x:Value) (h:P.underlying t=some (.interface (P.methodsAt t))):(binOp .eql t .nilIface (.iface u x)).run P w=.ok (.bool false) w:=by
 simp only [binOp]
 simp [eq_nil_held t u x h]
theorem neq_nil_held (t u:TypeId) (x:Value) (h:P.underlying t=some (.interface (P.methodsAt t))):(binOp .neq t .nilIface (.iface u x)).run P w=.ok (.bool true) w:=by
 simp only [binOp]
 simp [eq_nil_held t u x h]
theorem ifEq_ok {ty:TypeId} (h:P.underlying ty=some (.interface (P.methodsAt ty))) {op:BinOp} {ox oy:Operand} {a b:AV} {r r':Bool} (h1:ifEqQ ox oy a b=some r) (h2:flipQ op r=some r'):EqV P op ty ox oy a b r':=by
 intro w Z va vb ha hb
 unfold ifEqQ at h1
 split at h1
 ·obtain ⟨h3,h4⟩:=kif h1
  cases h4
  rw [ha.lit_eq,hb.lit_eq]
  have hg:eqGuard op ty ox oy .nilIface .nilIface=pure ():=by
   cases ox <;> first|(simp only [eqGuard_nil_constL];done)|skip
   all_goals (cases oy <;> first|(simp only [eqGuard_nil_constR];done)|cases h3)
  rw [hg]
  cases op <;> first|cases h2|skip
  ·simp [run_eql_nil_nil w ty h]
  ·simp [run_neq_nil_nil w ty h]
 ·cases h1
  cases ha with
  | ifc hr =>
   rw [hb.lit_eq]
   have hg:∀t u,eqGuard op ty ox oy (.iface t u) .nilIface=pure ():=fun t u=>by simp only [eqGuard_at_iface]
   rw [hg]
   cases op <;> first|cases h2|skip
   ·simp [run_eql_held_nil w ty _ _ h]
   ·simp [run_neq_held_nil w ty _ _ h]
 ·cases h1
  cases hb with
  | ifc hr =>
   rw [ha.lit_eq,eqGuard_nil_iface]
   cases op <;> first|cases h2|skip
   ·simp [eql_nil_held _ _ _ h]
   ·simp [neq_nil_held _ _ _ h]
 ·cases h1
theorem litEq_ok {ty:TypeId} {i:TI} (h:TIOK P ty i) {a b:AV} {r:Bool} (h1:litEq i.kind a b=some r) {va vb:Value} (ha:Rep w Z a va) (hb:Rep w Z b vb) (d:Nat):(Op.equalIn (d+1) ty va vb).run P w=.ok r w:=by
 have hu:=h.und
 unfold litEq at h1
 split at h1
 ·rename_i hk
  rw [hk]at hu
  obtain ⟨h2,h3⟩:=kif h1
  obtain ⟨h4,h5⟩:=kand h2
  have h4:=of_decide_eq_true h4
  have h5:=of_decide_eq_true h5
  subst h4
  subst h5
  cases h3
  rw [ha.lit_eq,hb.lit_eq]
  exact run_equalIn_int w d ty _ _ _ _ hu
 ·rename_i hk
  rw [hk]at hu
  cases h1
  rw [ha.lit_eq,hb.lit_eq]
  exact run_equalIn_bool' w d ty _ _ hu
 ·rename_i hk
  rw [hk]at hu
  cases h1
  rw [ha.lit_eq,hb.lit_eq,←toList_ba,←toList_ba]
  exact run_equalIn_string w d ty _ _ hu
 ·cases h1
theorem fields_ok {C : Ctx} {xs ys : List AV} {vx vy : Array Value} (hx : Rep w Z (.agg xs) (.agg vx)) (hy : Rep w Z (.agg ys) (.agg vy)) (d : Nat) : ∀ (fs : List (Nat × Nat × TypeId)) (fds : List Field) {r : Bool}, fs.length = fds.length → (∀ (j : Nat) (o n : Nat) (t : TypeId), fs[j]? = some (o, n, t) → ∃ fd : Field, fds[j]? = some fd ∧ fd.offset = o ∧ fd.type = t) → (fds.all fun f => f.name != "_") = true → fieldsEq C.T xs ys fs = some r → (Op.eqFields (d + 1) vx vy fds).run C.P w = .ok r w
 | [],[],r,_,_,_,h=>by cases h;simp [Op.eqFields]
 | [],_ :: _,_,hl,_,_,_=>by simp at hl
 | _ :: _,[],_,hl,_,_,_=>by simp at hl
 | (o,n,t) :: fs,fd :: fds,r,hl,hf,hn,h=>by
  obtain ⟨fd',q1,q2,q3⟩:=hf 0 o n t rfl
  cases q1
  obtain ⟨i,h1,h⟩:=kbind h
  obtain ⟨a,h2,h⟩:=kbind h
  obtain ⟨b,h3,h⟩:=kbind h
  obtain ⟨rr,h4,h⟩:=kbind h
  simp only [List.all_cons,Bool.and_eq_true,bne_iff_ne]at hn
  have hi:=C.hT _ _ h1
  obtain ⟨u,g1,g2⟩:=takeA_part (C:=C) (w:=w) (Z:=Z) hi hx (o:=o) h2
  obtain ⟨v,g3,g4⟩:=takeA_part (C:=C) (w:=w) (Z:=Z) hi hy (o:=o) h3
  have g5:=litEq_ok hi h4 g2 g4 d
  unfold Op.eqFields
  rw [if_pos hn.1,q2,q3]
  simp only [Sem.run_bind,g1,Result.andThen_ok,g3,g5]
  cases rr with
  | false=>cases h;simp
  | true =>
   simp only [Bool.not_true,Bool.false_eq_true,if_false]
   exact fields_ok hx hy d fs fds (by simpa using hl) (fun j o n t hj=>hf (j+1) o n t hj) hn.2 h
def eqTyB (P:Program) (ty:TypeId):Bool:=(match P.underlying ty with
 | some (.struct fds) => fds.toList.all (fun f => f.name != "_")
 | _=>false) && (!P.stoodInHeld ty && !P.eqGuardType P.depth ty)
def ifTyB (P:Program) (ty:TypeId):Bool:=match P.underlying ty with
 | some (.interface _)=>true
 | _=>false
theorem strEq_ok {C:Ctx} {ty:TypeId} (h:eqTyB C.P ty=true) {op:BinOp} {ox oy:Operand} {a b:AV} {r r':Bool} (h1:strEqQ C.T ty a b=some r) (h2:flipQ op r=some r'):EqV C.P op ty ox oy a b r':=by
 intro w Z va vb ha hb
 unfold strEqQ at h1
 split at h1
 ·rename_i fs z b xs ys h3
  obtain ⟨vx,rfl,hx⟩:∃vs,va=.agg vs∧Rep w Z (.agg xs) (.agg vs):=by cases ha with|agg hl hr=>exact ⟨_,rfl,.agg hl hr⟩
  obtain ⟨vy,rfl,hy⟩:∃vs,vb=.agg vs∧Rep w Z (.agg ys) (.agg vs):=by cases hb with|agg hl hr=>exact ⟨_,rfl,.agg hl hr⟩
  obtain ⟨k1,k2⟩:=kand h
  obtain ⟨k2,k3⟩:=kand k2
  obtain ⟨fds,u1,u2,u3⟩:=(C.hT _ _ h3).und
  have hfo:C.P.fieldsOf ty=fds:=by unfold Program.fieldsOf;rw [u1]
  rw [u1]at k1
  have hf:=fields_ok hx hy 9998 fs fds.toList (by simp [u2]) (fun j o n t hj=>by
   obtain ⟨fd,g1,g2,g3,_⟩:=u3 j o n t hj
   exact ⟨fd,by simpa using g1,g2,g3⟩) k1 h1
  have he:(Op.equalIn 10000 ty (.agg vx) (.agg vy)).run C.P w=.ok r w:=by
   rw [run_equalIn_struct w 9999 ty vx vy (by rw [hfo];exact u1) (by simpa using k2),hfo]
   exact hf
  have hg:=run_eqGuard_agg (P:=C.P) w op ty ox oy vx vy (by simpa using k3)
  rw [Sem.run_bind,hg,Result.andThen_ok]
  cases op <;> first|cases h2|skip
  ·rw [run_eql_struct,he];rfl
  ·rw [run_neq_struct,he];rfl
 ·cases h1
end
def eqTab (T:TyTab) (ifs sts:List Nat) (op:BinOp) (ty:TypeId) (ox oy:Operand) (a b:AV):Option Bool :=
 bif memQ ty ifs then (ifEqQ ox oy a b).bind (flipQ op) else bif memQ ty sts then (strEqQ T ty a b).bind (flipQ op) else none
theorem memQ_all {p:Nat→Bool}:∀{l:List Nat} {x:Nat},l.all p=true→memQ x l=true→p x=true
 | [],_,_,h=>by cases h
 | y :: l,x,ha,h=>by
  simp only [List.all_cons,Bool.and_eq_true]at ha
  have h:(Nat.beq x y || memQ x l)=true:=h
  cases hb:Nat.beq x y with
  | true=>rw [kbeq hb];exact ha.1
  | false=>rw [hb,Bool.false_or]at h;exact memQ_all ha.2 h
theorem eqTab_ok {C:Ctx} {ifs sts:List Nat} (h1:ifs.all (ifTyB C.P)=true) (h2:sts.all (eqTyB C.P)=true) {op:BinOp} {ty:TypeId} {ox oy:Operand} {a b:AV} {r:Bool} (h:eqTab C.T ifs sts op ty ox oy a b=some r):EqV C.P op ty ox oy a b r:=by
 unfold eqTab at h
 cases hi:memQ ty ifs with
 | true =>
  rw [hi]at h
  obtain ⟨r0,h3,h4⟩:=kbind h
  have:=memQ_all h1 hi
  unfold ifTyB at this
  split at this
  ·rename_i ms hu
   have hm:C.P.methodsAt ty=ms:=by unfold Program.methodsAt;rw [hu]
   exact ifEq_ok (by rw [hm];exact hu) h3 h4
  ·cases this
 | false =>
  rw [hi]at h
  obtain ⟨h3,h⟩:=kif h
  obtain ⟨r0,h4,h5⟩:=kbind h
  exact strEq_ok (memQ_all h2 h3) h4 h5
end
end Go.Proofs.YtcaahphghaddgaaGreatDoor
namespace Go.Proofs.YtcaahphghaddgaaGreatDoor
open Go.RowKit Lim
def tabKT:KTree TI:=.node (.node (.node (.node (.node (.node (.node (.node .nil 1 ⟨.scal,[.lit .nilFunc],8⟩ .nil) 2 ⟨.int .i64,[.lit (.int .i64 0)],8⟩ (.node .nil 3 ⟨.int .i64,[.lit (.int .i64 0)],8⟩ .nil)) 4 ⟨.bool,[.lit (.bool false)],1⟩ (.node (.node .nil 5 ⟨.int .u8,[.lit (.int .u8 0)],1⟩ .nil) 6 ⟨.int .u8,[.lit (.int .u8 0)],1⟩ (.node .nil 7 ⟨.strct [(0,1,2),(1,1,3),(2,1,4),(3,1,6)],[.lit (.int .i64 0),.lit (.int .i64 0),.lit (.bool false),.lit (.int .u8 0)],24⟩ .nil))) 8 ⟨.strct [(0,1,2),(1,1,3),(2,1,4),(3,1,6)],[.lit (.int .i64 0),.lit (.int .i64 0),.lit (.bool false),.lit (.int .u8 0)],24⟩ (.node (.node (.node .nil 9 ⟨.str,[.lit (.string ⟨#[]⟩)],16⟩ .nil) 10 ⟨.str,[.lit (.string ⟨#[]⟩)],16⟩ (.node .nil 11 ⟨.str,[.lit (.string ⟨#[]⟩)],16⟩ .nil)) 12 ⟨.int .u64,[.lit (.int .u64 0)],8⟩ (.node (.node .nil 13 ⟨.strct [(0,1,9),(1,1,12)],[.lit (.string ⟨#[]⟩),.lit (.int .u64 0)],24⟩ .nil) 14 ⟨.strct [(0,1,9),(1,1,12)],[.lit (.string ⟨#[]⟩),.lit (.int .u64 0)],24⟩ (.node .nil 15 ⟨.scal,[.lit (.pointer none)],8⟩ .nil)))) 16 ⟨.scal,[.lit (.pointer none)],8⟩ (.node (.node (.node (.node .nil 17 ⟨.scal,[.lit (.pointer none)],8⟩ .nil) 18 ⟨.strct [(0,1,17)],[.lit (.pointer none)],8⟩ (.node .nil 19 ⟨.strct [(0,1,17)],[.lit (.pointer none)],8⟩ .nil)) 20 ⟨.scal,[.lit .nilIface],16⟩ (.node (.node .nil 21 ⟨.int .i32,[.lit (.int .i32 0)],4⟩ .nil) 22 ⟨.slc 78 5 false,[.lit (.slice none 0 0)],24⟩ (.node .nil 23 ⟨.strct [(0,1,3),(1,1,22)],[.lit (.int .i64 0),.lit (.slice none 0 0)],32⟩ .nil))) 24 ⟨.strct [(0,1,3),(1,1,22)],[.lit (.int .i64 0),.lit (.slice none 0 0)],32⟩ (.node (.node (.node .nil 25 ⟨.int .i64,[.lit (.int .i64 0)],8⟩ .nil) 27 ⟨.scal,[.lit .nilFunc],8⟩ (.node .nil 28 ⟨.scal,[.lit .nilFunc],8⟩ .nil)) 29 ⟨.scal,[.lit .nilFunc],8⟩ (.node (.node .nil 30 ⟨.scal,[.lit .nilFunc],8⟩ .nil) 31 ⟨.slc 58 9 false,[.lit (.slice none 0 0)],24⟩ .nil)))) 32 ⟨.scal,[.lit .nilFunc],8⟩ (.node (.node (.node (.node (.node .nil 33 ⟨.scal,[.lit .nilFunc],8⟩ .nil) 34 ⟨.slc 102 2 false,[.lit (.slice none 0 0)],24⟩ (.node .nil 35 ⟨.slc 3 1 false,[.lit (.slice none 0 0)],24⟩ .nil)) 36 ⟨.slc 88 3 false,[.lit (.slice none 0 0)],24⟩ (.node (.node .nil 37 ⟨.strct [(0,1,35),(1,1,36),(2,1,35)],[.lit (.slice none 0 0),.lit (.slice none 0 0),.lit (.slice none 0 0)],72⟩ .nil) 38 ⟨.strct [(0,1,35),(1,1,36),(2,1,35)],[.lit (.slice none 0 0),.lit (.slice none 0 0),.lit (.slice none 0 0)],72⟩ (.node .nil 40 ⟨.scal,[.lit .nilFunc],8⟩ .nil))) 41 ⟨.scal,[.lit .nilFunc],8⟩ (.node (.node (.node .nil 42 ⟨.scal,[.lit .nilFunc],8⟩ .nil) 44 ⟨.scal,[.lit .nilFunc],8⟩ (.node .nil 45 ⟨.scal,[.lit .nilFunc],8⟩ .nil)) 46 ⟨.scal,[.lit .nilFunc],8⟩ (.node (.node .nil 48 ⟨.scal,[.lit .nilFunc],8⟩ .nil) 49 ⟨.scal,[.lit .nilFunc],8⟩ (.node .nil 50 ⟨.scal,[.lit .nilFunc],8⟩ .nil)))) 51 ⟨.scal,[.lit .nilFunc],8⟩ (.node (.node (.node (.node .nil 52 ⟨.scal,[.lit .nilFunc],8⟩ .nil) 53 ⟨.int .u32,[.lit (.int .u32 0)],4⟩ (.node .nil 54 ⟨.slc 35 1 false,[.lit (.slice none 0 0)],24⟩ .nil)) 55 ⟨.strct [(0,1,54)],[.lit (.slice none 0 0)],24⟩ (.node (.node .nil 56 ⟨.strct [(0,1,54)],[.lit (.slice none 0 0)],24⟩ .nil) 57 ⟨.strct [(0,1,3),(1,1,9),(2,1,3),(3,1,3),(4,1,3),(5,1,3),(6,1,3),(7,1,3),(8,1,56)],[.lit (.int .i64 0),.lit (.string ⟨#[]⟩),.lit (.int .i64 0),.lit (.int .i64 0),.lit (.int .i64 0),.lit (.int .i64 0),.lit (.int .i64 0),.lit (.int .i64 0),.lit (.slice none 0 0)],96⟩ (.node .nil 58 ⟨.strct [(0,1,3),(1,1,9),(2,1,3),(3,1,3),(4,1,3),(5,1,3),(6,1,3),(7,1,3),(8,1,56)],[.lit (.int .i64 0),.lit (.string ⟨#[]⟩),.lit (.int .i64 0),.lit (.int .i64 0),.lit (.int .i64 0),.lit (.int .i64 0),.lit (.int .i64 0),.lit (.int .i64 0),.lit (.slice none 0 0)],96⟩ .nil))) 59 ⟨.scal,[.lit .nilFunc],8⟩ (.node (.node (.node .nil 60 ⟨.int .u64,[.lit (.int .u64 0)],8⟩ .nil) 61 ⟨.scal,[.lit .nilFunc],8⟩ (.node .nil 62 ⟨.scal,[.lit (.pointer none)],8⟩ .nil)) 63 ⟨.slc 5 1 false,[.lit (.slice none 0 0)],24⟩ (.node (.node .nil 64 ⟨.strct [(0,1,62),(1,1,63)],[.lit (.pointer none),.lit (.slice none 0 0)],32⟩ .nil) 65 ⟨.strct [(0,1,62),(1,1,63)],[.lit (.pointer none),.lit (.slice none 0 0)],32⟩ .nil))))) 66 ⟨.scal,[.lit .nilIface],16⟩ (.node (.node (.node (.node (.node (.node .nil 67 ⟨.scal,[.lit .nilIface],16⟩ .nil) 69 ⟨.scal,[.lit .nilFunc],8⟩ (.node .nil 70 ⟨.scal,[.lit .nilFunc],8⟩ .nil)) 71 ⟨.slc 74 1 false,[.lit (.slice none 0 0)],24⟩ (.node (.node .nil 72 ⟨.scal,[.lit .nilFunc],8⟩ .nil) 73 ⟨.scal,[.lit .nilIface],16⟩ (.node .nil 74 ⟨.scal,[.lit .nilIface],16⟩ .nil))) 75 ⟨.scal,[.lit .nilFunc],8⟩ (.node (.node (.node .nil 76 ⟨.scal,[.lit .nilFunc],8⟩ .nil) 77 ⟨.strct [(0,1,3),(1,1,3),(2,1,3),(3,1,3),(4,1,9)],[.lit (.int .i64 0),.lit (.int .i64 0),.lit (.int .i64 0),.lit (.int .i64 0),.lit (.string ⟨#[]⟩)],48⟩ (.node .nil 78 ⟨.strct [(0,1,3),(1,1,3),(2,1,3),(3,1,3),(4,1,9)],[.lit (.int .i64 0),.lit (.int .i64 0),.lit (.int .i64 0),.lit (.int .i64 0),.lit (.string ⟨#[]⟩)],48⟩ .nil)) 80 ⟨.scal,[.lit .nilFunc],8⟩ (.node (.node .nil 82 ⟨.scal,[.lit .nilFunc],8⟩ .nil) 83 ⟨.scal,[.lit .nilFunc],8⟩ (.node .nil 84 ⟨.scal,[.lit .nilFunc],8⟩ .nil)))) 85 ⟨.scal,[.lit .nilFunc],8⟩ (.node (.node (.node (.node .nil 86 ⟨.scal,[.lit .nilFunc],8⟩ .nil) 87 ⟨.strct [(0,1,35),(1,1,3),(2,1,3)],[.lit (.slice none 0 0),.lit (.int .i64 0),.lit (.int .i64 0)],40⟩ (.node .nil 88 ⟨.strct [(0,1,35),(1,1,3),(2,1,3)],[.lit (.slice none 0 0),.lit (.int .i64 0),.lit (.int .i64 0)],40⟩ .nil)) 89 ⟨.scal,[.lit .nilFunc],8⟩ (.node (.node .nil 90 ⟨.scal,[.lit .nilFunc],8⟩ .nil) 91 ⟨.scal,[.lit .nilFunc],8⟩ (.node .nil 92 ⟨.strct [(0,2,24),(2,1,31),(3,1,3),(4,1,3)],[.lit (.int .i64 0),.lit (.slice none 0 0),.lit (.slice none 0 0),.lit (.int .i64 0),.lit (.int .i64 0)],72⟩ .nil))) 93 ⟨.strct [(0,2,24),(2,1,31),(3,1,3),(4,1,3)],[.lit (.int .i64 0),.lit (.slice none 0 0),.lit (.slice none 0 0),.lit (.int .i64 0),.lit (.int .i64 0)],72⟩ (.node (.node (.node .nil 94 ⟨.scal,[.lit .nilFunc],8⟩ .nil) 95 ⟨.scal,[.lit .nilFunc],8⟩ (.node .nil 96 ⟨.scal,[.lit .nilFunc],8⟩ .nil)) 97 ⟨.scal,[.lit .nilFunc],8⟩ (.node (.node .nil 98 ⟨.scal,[.lit .nilFunc],8⟩ .nil) 99 ⟨.scal,[.lit .nilFunc],8⟩ .nil)))) 100 ⟨.scal,[.lit .nilFunc],8⟩ (.node (.node (.node (.node (.node .nil 101 ⟨.strct [(0,1,3),(1,1,3)],[.lit (.int .i64 0),.lit (.int .i64 0)],16⟩ .nil) 102 ⟨.strct [(0,1,3),(1,1,3)],[.lit (.int .i64 0),.lit (.int .i64 0)],16⟩ (.node .nil 104 ⟨.scal,[.lit .nilFunc],8⟩ .nil)) 106 ⟨.scal,[.lit .nilFunc],8⟩ (.node (.node .nil 108 ⟨.scal,[.lit .nilFunc],8⟩ .nil) 110 ⟨.scal,[.lit .nilFunc],8⟩ (.node .nil 111 ⟨.scal,[.lit .nilFunc],8⟩ .nil))) 112 ⟨.scal,[.lit .nilFunc],8⟩ (.node (.node (.node .nil 113 ⟨.scal,[.lit .nilFunc],8⟩ .nil) 114 ⟨.scal,[.lit .nilFunc],8⟩ (.node .nil 115 ⟨.scal,[.lit .nilFunc],8⟩ .nil)) 116 ⟨.slc 9 1 false,[.lit (.slice none 0 0)],24⟩ (.node (.node .nil 117 ⟨.scal,[.lit .nilFunc],8⟩ .nil) 118 ⟨.scal,[.lit (.pointer none)],8⟩ .nil))) 119 ⟨.scal,[.lit .nilFunc],8⟩ (.node (.node (.node (.node .nil 120 ⟨.slc 53 1 true,[.lit (.slice none 0 0)],24⟩ .nil) 121 ⟨.slc 53 1 true,[.lit (.slice none 0 0)],24⟩ (.node .nil 122 ⟨.scal,[.lit .nilFunc],8⟩ .nil)) 123 ⟨.int .u64,[.lit (.int .u64 0)],8⟩ (.node (.node .nil 124 ⟨.strct [(0,1,3),(1,1,3)],[.lit (.int .i64 0),.lit (.int .i64 0)],16⟩ .nil) 125 ⟨.strct [(0,1,3),(1,1,3)],[.lit (.int .i64 0),.lit (.int .i64 0)],16⟩ (.node .nil 126 ⟨.scal,[.lit .nilFunc],8⟩ .nil))) 127 ⟨.scal,[.lit .nilFunc],8⟩ (.node (.node (.node .nil 128 ⟨.strct [(0,2,125),(2,1,127)],[.lit (.int .i64 0),.lit (.int .i64 0),.lit .nilFunc],24⟩ .nil) 129 ⟨.strct [(0,2,125),(2,1,127)],[.lit (.int .i64 0),.lit (.int .i64 0),.lit .nilFunc],24⟩ (.node .nil 130 ⟨.strct [(0,3,129),(3,1,9)],[.lit (.int .i64 0),.lit (.int .i64 0),.lit .nilFunc,.lit (.string ⟨#[]⟩)],40⟩ .nil)) 131 ⟨.strct [(0,3,129),(3,1,9)],[.lit (.int .i64 0),.lit (.int .i64 0),.lit .nilFunc,.lit (.string ⟨#[]⟩)],40⟩ (.node (.node .nil 132 ⟨.strct [(0,3,129)],[.lit (.int .i64 0),.lit (.int .i64 0),.lit .nilFunc],24⟩ .nil) 133 ⟨.strct [(0,3,129)],[.lit (.int .i64 0),.lit (.int .i64 0),.lit .nilFunc],24⟩ .nil)))))) 134 ⟨.strct [(0,3,129)],[.lit (.int .i64 0),.lit (.int .i64 0),.lit .nilFunc],24⟩ (.node (.node (.node (.node (.node (.node (.node .nil 135 ⟨.strct [(0,3,129)],[.lit (.int .i64 0),.lit (.int .i64 0),.lit .nilFunc],24⟩ .nil) 136 ⟨.strct [(0,3,129),(3,1,3)],[.lit (.int .i64 0),.lit (.int .i64 0),.lit .nilFunc,.lit (.int .i64 0)],32⟩ (.node .nil 137 ⟨.strct [(0,3,129),(3,1,3)],[.lit (.int .i64 0),.lit (.int .i64 0),.lit .nilFunc,.lit (.int .i64 0)],32⟩ .nil)) 138 ⟨.strct [(0,2,125),(2,1,3)],[.lit (.int .i64 0),.lit (.int .i64 0),.lit (.int .i64 0)],24⟩ (.node (.node .nil 139 ⟨.strct [(0,2,125),(2,1,3)],[.lit (.int .i64 0),.lit (.int .i64 0),.lit (.int .i64 0)],24⟩ .nil) 140 ⟨.strct [(0,1,3)],[.lit (.int .i64 0)],8⟩ (.node .nil 141 ⟨.strct [(0,1,3)],[.lit (.int .i64 0)],8⟩ .nil))) 142 ⟨.strct [(0,1,3)],[.lit (.int .i64 0)],8⟩ (.node (.node (.node .nil 143 ⟨.strct [],[],0⟩ .nil) 144 ⟨.strct [],[],0⟩ (.node .nil 145 ⟨.scal,[.lit .nilFunc],8⟩ .nil)) 146 ⟨.scal,[.lit .nilFunc],8⟩ (.node (.node .nil 147 ⟨.scal,[.lit .nilFunc],8⟩ .nil) 148 ⟨.scal,[.lit .nilFunc],8⟩ (.node .nil 149 ⟨.scal,[.lit .nilFunc],8⟩ .nil)))) 150 ⟨.scal,[.lit .nilFunc],8⟩ (.node (.node (.node (.node .nil 151 ⟨.scal,[.lit .nilFunc],8⟩ .nil) 152 ⟨.scal,[.lit .nilFunc],8⟩ (.node .nil 153 ⟨.scal,[.lit .nilFunc],8⟩ .nil)) 154 ⟨.scal,[.lit .nilFunc],8⟩ (.node (.node .nil 155 ⟨.scal,[.lit .nilFunc],8⟩ .nil) 156 ⟨.scal,[.lit .nilFunc],8⟩ (.node .nil 158 ⟨.scal,[.lit .nilFunc],8⟩ .nil))) 159 ⟨.scal,[.lit .nilFunc],8⟩ (.node (.node (.node .nil 160 ⟨.scal,[.lit .nilFunc],8⟩ .nil) 161 ⟨.scal,[.lit .nilFunc],8⟩ (.node .nil 162 ⟨.scal,[.lit .nilFunc],8⟩ .nil)) 164 ⟨.scal,[.lit .nilFunc],8⟩ (.node (.node .nil 165 ⟨.scal,[.lit .nilFunc],8⟩ .nil) 166 ⟨.scal,[.lit .nilFunc],8⟩ .nil)))) 168 ⟨.scal,[.lit .nilFunc],8⟩ (.node (.node (.node (.node (.node .nil 169 ⟨.arr 5 9 1,[.lit (.string ⟨#[]⟩),.lit (.string ⟨#[]⟩),.lit (.string ⟨#[]⟩),.lit (.string ⟨#[]⟩),.lit (.string ⟨#[]⟩)],80⟩ .nil) 171 ⟨.scal,[.lit .nilFunc],8⟩ (.node .nil 172 ⟨.scal,[.lit .nilFunc],8⟩ .nil)) 173 ⟨.map 3 4,[.lit (.map none)],8⟩ (.node (.node .nil 174 ⟨.scal,[.lit .nilFunc],8⟩ .nil) 175 ⟨.scal,[.lit .nilFunc],8⟩ (.node .nil 176 ⟨.scal,[.lit .nilFunc],8⟩ .nil))) 177 ⟨.scal,[.lit .nilFunc],8⟩ (.node (.node (.node .nil 178 ⟨.scal,[.lit .nilFunc],8⟩ .nil) 179 ⟨.scal,[.lit .nilFunc],8⟩ (.node .nil 181 ⟨.scal,[.lit .nilFunc],8⟩ .nil)) 182 ⟨.scal,[.lit .nilFunc],8⟩ (.node (.node .nil 183 ⟨.scal,[.lit .nilFunc],8⟩ .nil) 184 ⟨.scal,[.lit .nilFunc],8⟩ (.node .nil 185 ⟨.scal,[.lit .nilFunc],8⟩ .nil)))) 186 ⟨.scal,[.lit .nilFunc],8⟩ (.node (.node (.node (.node .nil 187 ⟨.scal,[.lit .nilFunc],8⟩ .nil) 188 ⟨.scal,[.lit .nilFunc],8⟩ (.node .nil 189 ⟨.scal,[.lit .nilFunc],8⟩ .nil)) 190 ⟨.scal,[.lit .nilFunc],8⟩ (.node (.node .nil 191 ⟨.scal,[.lit .nilFunc],8⟩ .nil) 192 ⟨.scal,[.lit .nilFunc],8⟩ (.node .nil 193 ⟨.arr 24 5 1,[.lit (.int .u8 0),.lit (.int .u8 0),.lit (.int .u8 0),.lit (.int .u8 0),.lit (.int .u8 0),.lit (.int .u8 0),.lit (.int .u8 0),.lit (.int .u8 0),.lit (.int .u8 0),.lit (.int .u8 0),.lit (.int .u8 0),.lit (.int .u8 0),.lit (.int .u8 0),.lit (.int .u8 0),.lit (.int .u8 0),.lit (.int .u8 0),.lit (.int .u8 0),.lit (.int .u8 0),.lit (.int .u8 0),.lit (.int .u8 0),.lit (.int .u8 0),.lit (.int .u8 0),.lit (.int .u8 0),.lit (.int .u8 0)],24⟩ .nil))) 194 ⟨.scal,[.lit .nilFunc],8⟩ (.node (.node (.node .nil 195 ⟨.scal,[.lit .nilFunc],8⟩ .nil) 197 ⟨.scal,[.lit .nilFunc],8⟩ (.node .nil 198 ⟨.scal,[.lit .nilFunc],8⟩ .nil)) 199 ⟨.scal,[.lit .nilFunc],8⟩ (.node (.node .nil 200 ⟨.scal,[.lit .nilFunc],8⟩ .nil) 202 ⟨.scal,[.lit .nilFunc],8⟩ .nil))))) 203 ⟨.scal,[.lit .nilFunc],8⟩ (.node (.node (.node (.node (.node (.node .nil 205 ⟨.scal,[.lit .nilFunc],8⟩ .nil) 206 ⟨.int .i64,[.lit (.int .i64 0)],8⟩ (.node .nil 208 ⟨.scal,[.lit .nilFunc],8⟩ .nil)) 209 ⟨.scal,[.lit (.pointer none)],8⟩ (.node (.node .nil 210 ⟨.scal,[.lit .nilFunc],8⟩ .nil) 211 ⟨.scal,[.lit .nilFunc],8⟩ (.node .nil 212 ⟨.arr 20 123 1,[.lit (.int .u64 0),.lit (.int .u64 0),.lit (.int .u64 0),.lit (.int .u64 0),.lit (.int .u64 0),.lit (.int .u64 0),.lit (.int .u64 0),.lit (.int .u64 0),.lit (.int .u64 0),.lit (.int .u64 0),.lit (.int .u64 0),.lit (.int .u64 0),.lit (.int .u64 0),.lit (.int .u64 0),.lit (.int .u64 0),.lit (.int .u64 0),.lit (.int .u64 0),.lit (.int .u64 0),.lit (.int .u64 0),.lit (.int .u64 0)],160⟩ .nil))) 214 ⟨.scal,[.lit .nilFunc],8⟩ (.node (.node (.node .nil 215 ⟨.int .i64,[.lit (.int .i64 0)],8⟩ .nil) 217 ⟨.scal,[.lit .nilFunc],8⟩ (.node .nil 218 ⟨.scal,[.lit .nilFunc],8⟩ .nil)) 219 ⟨.scal,[.lit .nilFunc],8⟩ (.node (.node .nil 221 ⟨.scal,[.lit .nilFunc],8⟩ .nil) 222 ⟨.scal,[.lit .nilFunc],8⟩ (.node .nil 224 ⟨.scal,[.lit .nilFunc],8⟩ .nil)))) 225 ⟨.scal,[.lit .nilFunc],8⟩ (.node (.node (.node (.node .nil 226 ⟨.strct [(0,1,9),(1,1,9),(2,1,67)],[.lit (.string ⟨#[]⟩),.lit (.string ⟨#[]⟩),.lit .nilIface],48⟩ .nil) 227 ⟨.strct [(0,1,9),(1,1,9),(2,1,67)],[.lit (.string ⟨#[]⟩),.lit (.string ⟨#[]⟩),.lit .nilIface],48⟩ (.node .nil 228 ⟨.scal,[.lit .nilFunc],8⟩ .nil)) 229 ⟨.int .u64,[.lit (.int .u64 0)],8⟩ (.node (.node .nil 230 ⟨.scal,[.lit .nilFunc],8⟩ .nil) 231 ⟨.scal,[.lit .nilFunc],8⟩ (.node .nil 232 ⟨.scal,[.lit .nilFunc],8⟩ .nil))) 233 ⟨.scal,[.lit (.pointer none)],8⟩ (.node (.node (.node .nil 234 ⟨.scal,[.lit .nilFunc],8⟩ .nil) 236 ⟨.strct [(0,1,5),(1,1,5)],[.lit (.int .u8 0),.lit (.int .u8 0)],2⟩ (.node .nil 237 ⟨.strct [(0,1,5),(1,1,5)],[.lit (.int .u8 0),.lit (.int .u8 0)],2⟩ .nil)) 238 ⟨.arr 16 237 2,[.lit (.int .u8 0),.lit (.int .u8 0),.lit (.int .u8 0),.lit (.int .u8 0),.lit (.int .u8 0),.lit (.int .u8 0),.lit (.int .u8 0),.lit (.int .u8 0),.lit (.int .u8 0),.lit (.int .u8 0),.lit (.int .u8 0),.lit (.int .u8 0),.lit (.int .u8 0),.lit (.int .u8 0),.lit (.int .u8 0),.lit (.int .u8 0),.lit (.int .u8 0),.lit (.int .u8 0),.lit (.int .u8 0),.lit (.int .u8 0),.lit (.int .u8 0),.lit (.int .u8 0),.lit (.int .u8 0),.lit (.int .u8 0),.lit (.int .u8 0),.lit (.int .u8 0),.lit (.int .u8 0),.lit (.int .u8 0),.lit (.int .u8 0),.lit (.int .u8 0),.lit (.int .u8 0),.lit (.int .u8 0)],32⟩ (.node (.node .nil 239 ⟨.scal,[.lit .nilFunc],8⟩ .nil) 240 ⟨.scal,[.lit (.pointer none)],8⟩ .nil)))) 241 ⟨.strct [(0,1,9)],[.lit (.string ⟨#[]⟩)],16⟩ (.node (.node (.node (.node (.node .nil 242 ⟨.strct [(0,1,9)],[.lit (.string ⟨#[]⟩)],16⟩ .nil) 243 ⟨.arr 32 5 1,[.lit (.int .u8 0),.lit (.int .u8 0),.lit (.int .u8 0),.lit (.int .u8 0),.lit (.int .u8 0),.lit (.int .u8 0),.lit (.int .u8 0),.lit (.int .u8 0),.lit (.int .u8 0),.lit (.int .u8 0),.lit (.int .u8 0),.lit (.int .u8 0),.lit (.int .u8 0),.lit (.int .u8 0),.lit (.int .u8 0),.lit (.int .u8 0),.lit (.int .u8 0),.lit (.int .u8 0),.lit (.int .u8 0),.lit (.int .u8 0),.lit (.int .u8 0),.lit (.int .u8 0),.lit (.int .u8 0),.lit (.int .u8 0),.lit (.int .u8 0),.lit (.int .u8 0),.lit (.int .u8 0),.lit (.int .u8 0),.lit (.int .u8 0),.lit (.int .u8 0),.lit (.int .u8 0),.lit (.int .u8 0)],32⟩ (.node .nil 244 ⟨.arr 64 5 1,[.lit (.int .u8 0),.lit (.int .u8 0),.lit (.int .u8 0),.lit (.int .u8 0),.lit (.int .u8 0),.lit (.int .u8 0),.lit (.int .u8 0),.lit (.int .u8 0),.lit (.int .u8 0),.lit (.int .u8 0),.lit (.int .u8 0),.lit (.int .u8 0),.lit (.int .u8 0),.lit (.int .u8 0),.lit (.int .u8 0),.lit (.int .u8 0),.lit (.int .u8 0),.lit (.int .u8 0),.lit (.int .u8 0),.lit (.int .u8 0),.lit (.int .u8 0),.lit (.int .u8 0),.lit (.int .u8 0),.lit (.int .u8 0),.lit (.int .u8 0),.lit (.int .u8 0),.lit (.int .u8 0),.lit (.int .u8 0),.lit (.int .u8 0),.lit (.int .u8 0),.lit (.int .u8 0),.lit (.int .u8 0),.lit (.int .u8 0),.lit (.int .u8 0),.lit (.int .u8 0),.lit (.int .u8 0),.lit (.int .u8 0),.lit (.int .u8 0),.lit (.int .u8 0),.lit (.int .u8 0),.lit (.int .u8 0),.lit (.int .u8 0),.lit (.int .u8 0),.lit (.int .u8 0),.lit (.int .u8 0),.lit (.int .u8 0),.lit (.int .u8 0),.lit (.int .u8 0),.lit (.int .u8 0),.lit (.int .u8 0),.lit (.int .u8 0),.lit (.int .u8 0),.lit (.int .u8 0),.lit (.int .u8 0),.lit (.int .u8 0),.lit (.int .u8 0),.lit (.int .u8 0),.lit (.int .u8 0),.lit (.int .u8 0),.lit (.int .u8 0),.lit (.int .u8 0),.lit (.int .u8 0),.lit (.int .u8 0),.lit (.int .u8 0)],64⟩ .nil)) 245 ⟨.scal,[.lit (.pointer none)],8⟩ (.node (.node .nil 246 ⟨.scal,[.lit .nilFunc],8⟩ .nil) 247 ⟨.strct [(0,1,17),(1,1,17),(2,1,17),(3,1,9)],[.lit (.pointer none),.lit (.pointer none),.lit (.pointer none),.lit (.string ⟨#[]⟩)],40⟩ (.node .nil 248 ⟨.strct [(0,1,17),(1,1,17),(2,1,17),(3,1,9)],[.lit (.pointer none),.lit (.pointer none),.lit (.pointer none),.lit (.string ⟨#[]⟩)],40⟩ .nil))) 249 ⟨.arr 0 16 1,[],0⟩ (.node (.node (.node .nil 252 ⟨.scal,[.lit .nilFunc],8⟩ .nil) 253 ⟨.int .u8,[.lit (.int .u8 0)],1⟩ (.node .nil 254 ⟨.int .u8,[.lit (.int .u8 0)],1⟩ .nil)) 255 ⟨.scal,[.lit .nilFunc],8⟩ (.node (.node .nil 256 ⟨.int .i32,[.lit (.int .i32 0)],4⟩ .nil) 257 ⟨.int .i32,[.lit (.int .i32 0)],4⟩ .nil))) 258 ⟨.strct [(0,1,12),(1,1,12),(2,1,53),(3,1,253),(4,1,5),(5,1,5),(6,1,254),(7,1,255),(8,1,118),(9,1,256),(10,1,257)],[.lit (.int .u64 0),.lit (.int .u64 0),.lit (.int .u32 0),.lit (.int .u8 0),.lit (.int .u8 0),.lit (.int .u8 0),.lit (.int .u8 0),.lit .nilFunc,.lit (.pointer none),.lit (.int .i32 0),.lit (.int .i32 0)],48⟩ (.node (.node (.node (.node .nil 259 ⟨.strct [(0,1,12),(1,1,12),(2,1,53),(3,1,253),(4,1,5),(5,1,5),(6,1,254),(7,1,255),(8,1,118),(9,1,256),(10,1,257)],[.lit (.int .u64 0),.lit (.int .u64 0),.lit (.int .u32 0),.lit (.int .u8 0),.lit (.int .u8 0),.lit (.int .u8 0),.lit (.int .u8 0),.lit .nilFunc,.lit (.pointer none),.lit (.int .i32 0),.lit (.int .i32 0)],48⟩ .nil) 260 ⟨.scal,[.lit .nilFunc],8⟩ (.node .nil 261 ⟨.scal,[.lit .nilFunc],8⟩ .nil)) 262 ⟨.map 3 3,[.lit (.map none)],8⟩ (.node (.node .nil 263 ⟨.scal,[.lit .nilFunc],8⟩ .nil) 264 ⟨.scal,[.lit .nilFunc],8⟩ (.node .nil 265 ⟨.scal,[.lit .nilFunc],8⟩ .nil))) 266 ⟨.scal,[.lit .nilFunc],8⟩ (.node (.node (.node .nil 267 ⟨.scal,[.lit .nilFunc],8⟩ .nil) 268 ⟨.scal,[.lit .nilFunc],8⟩ (.node .nil 269 ⟨.scal,[.lit .nilFunc],8⟩ .nil)) 270 ⟨.scal,[.lit .nilFunc],8⟩ (.node (.node .nil 271 ⟨.scal,[.lit .nilFunc],8⟩ .nil) 272 ⟨.scal,[.lit .nilFunc],8⟩ .nil))))))
theorem tabKT_ok:tabKT.all (tiB Tryz.prog)=true:=by kernel_rfl
def howKT:KTree KHow:=.node (.node (.node (.node (.node (.node (.node (.node .nil 2 ⟨0,[]⟩ .nil) 3 ⟨7,[]⟩ (.node .nil 4 ⟨5,[]⟩ .nil)) 5 ⟨13,[]⟩ (.node (.node .nil 6 ⟨52,[]⟩ .nil) 7 ⟨62,[1]⟩ (.node .nil 8 ⟨17,[]⟩ .nil))) 9 ⟨106,[]⟩ (.node (.node (.node .nil 10 ⟨24,[]⟩ .nil) 11 ⟨63,[]⟩ (.node .nil 12 ⟨38,[]⟩ .nil)) 13 ⟨25,[]⟩ (.node (.node .nil 14 ⟨101,[]⟩ .nil) 15 ⟨51,[]⟩ .nil))) 16 ⟨51,[]⟩ (.node (.node (.node (.node .nil 17 ⟨122,[18]⟩ .nil) 18 ⟨183,[14]⟩ (.node .nil 19 ⟨79,[]⟩ .nil)) 20 ⟨68,[]⟩ (.node (.node .nil 21 ⟨37,[6]⟩ .nil) 22 ⟨29,[]⟩ (.node .nil 23 ⟨59,[]⟩ .nil))) 24 ⟨62,[]⟩ (.node (.node (.node .nil 25 ⟨65,[]⟩ .nil) 26 ⟨56,[]⟩ (.node .nil 27 ⟨29,[]⟩ .nil)) 28 ⟨56,[]⟩ (.node (.node .nil 29 ⟨25,[]⟩ .nil) 30 ⟨16,[]⟩ .nil)))) 31 ⟨6,[]⟩ (.node (.node (.node (.node (.node .nil 32 ⟨14,[]⟩ .nil) 33 ⟨25,[]⟩ (.node .nil 34 ⟨3,[]⟩ .nil)) 35 ⟨3,[]⟩ (.node (.node .nil 36 ⟨18,[]⟩ .nil) 37 ⟨19,[]⟩ (.node .nil 38 ⟨129,[]⟩ .nil))) 39 ⟨7,[]⟩ (.node (.node (.node .nil 40 ⟨97,[]⟩ .nil) 41 ⟨3,[]⟩ (.node .nil 42 ⟨3,[]⟩ .nil)) 43 ⟨10,[]⟩ (.node (.node .nil 44 ⟨43,[]⟩ .nil) 45 ⟨33,[]⟩ .nil))) 46 ⟨4,[]⟩ (.node (.node (.node (.node .nil 47 ⟨72,[]⟩ .nil) 48 ⟨7,[]⟩ (.node .nil 49 ⟨33,[]⟩ .nil)) 50 ⟨19,[]⟩ (.node (.node .nil 51 ⟨11,[]⟩ .nil) 52 ⟨53,[]⟩ (.node .nil 53 ⟨33,[]⟩ .nil))) 54 ⟨10,[]⟩ (.node (.node (.node .nil 55 ⟨7,[]⟩ .nil) 56 ⟨26,[]⟩ (.node .nil 57 ⟨89,[]⟩ .nil)) 58 ⟨38,[]⟩ (.node (.node .nil 59 ⟨4,[]⟩ .nil) 60 ⟨37,[]⟩ .nil))))) 61 ⟨39,[]⟩ (.node (.node (.node (.node (.node (.node .nil 62 ⟨24,[]⟩ .nil) 63 ⟨4,[]⟩ (.node .nil 64 ⟨19,[]⟩ .nil)) 66 ⟨3,[]⟩ (.node (.node .nil 67 ⟨67,[]⟩ .nil) 68 ⟨39,[]⟩ (.node .nil 69 ⟨3,[]⟩ .nil))) 70 ⟨4,[]⟩ (.node (.node (.node .nil 71 ⟨5,[]⟩ .nil) 72 ⟨3,[]⟩ (.node .nil 73 ⟨3,[]⟩ .nil)) 74 ⟨3,[]⟩ (.node (.node .nil 75 ⟨4,[]⟩ .nil) 76 ⟨43,[]⟩ .nil))) 77 ⟨29,[]⟩ (.node (.node (.node (.node .nil 78 ⟨64,[]⟩ .nil) 79 ⟨46,[]⟩ (.node .nil 80 ⟨3,[]⟩ .nil)) 81 ⟨20,[]⟩ (.node (.node .nil 82 ⟨38,[]⟩ .nil) 83 ⟨4,[]⟩ (.node .nil 84 ⟨5,[]⟩ .nil))) 85 ⟨5,[]⟩ (.node (.node (.node .nil 86 ⟨26,[]⟩ .nil) 87 ⟨16,[]⟩ (.node .nil 88 ⟨23,[]⟩ .nil)) 89 ⟨70,[]⟩ (.node (.node .nil 90 ⟨10,[]⟩ .nil) 91 ⟨18,[]⟩ .nil)))) 92 ⟨13,[]⟩ (.node (.node (.node (.node (.node .nil 93 ⟨5,[]⟩ .nil) 94 ⟨38,[]⟩ (.node .nil 95 ⟨22,[]⟩ .nil)) 96 ⟨17,[]⟩ (.node (.node .nil 97 ⟨4,[]⟩ .nil) 98 ⟨20,[]⟩ (.node .nil 99 ⟨50,[]⟩ .nil))) 101 ⟨3,[]⟩ (.node (.node (.node .nil 102 ⟨22,[]⟩ .nil) 103 ⟨17,[]⟩ (.node .nil 104 ⟨18,[]⟩ .nil)) 105 ⟨5,[]⟩ (.node (.node .nil 106 ⟨24,[]⟩ .nil) 107 ⟨32,[]⟩ .nil))) 108 ⟨37,[]⟩ (.node (.node (.node (.node .nil 109 ⟨17,[]⟩ .nil) 110 ⟨17,[]⟩ (.node .nil 111 ⟨50,[]⟩ .nil)) 112 ⟨49,[6]⟩ (.node (.node .nil 113 ⟨5,[]⟩ .nil) 114 ⟨140,[]⟩ (.node .nil 115 ⟨42,[]⟩ .nil))) 116 ⟨44,[]⟩ (.node (.node (.node .nil 117 ⟨13,[]⟩ .nil) 118 ⟨35,[]⟩ (.node .nil 119 ⟨5,[]⟩ .nil)) 120 ⟨5,[]⟩ (.node (.node .nil 121 ⟨5,[]⟩ .nil) 122 ⟨5,[]⟩ .nil)))))) 123 ⟨5,[]⟩ (.node (.node (.node (.node (.node (.node (.node .nil 124 ⟨15,[]⟩ .nil) 125 ⟨20,[]⟩ (.node .nil 126 ⟨45,[6,11]⟩ .nil)) 127 ⟨12,[]⟩ (.node (.node .nil 128 ⟨5,[]⟩ .nil) 129 ⟨5,[]⟩ (.node .nil 131 ⟨3,[]⟩ .nil))) 132 ⟨78,[]⟩ (.node (.node (.node .nil 133 ⟨44,[]⟩ .nil) 134 ⟨25,[]⟩ (.node .nil 135 ⟨5,[]⟩ .nil)) 136 ⟨3,[]⟩ (.node (.node .nil 137 ⟨40,[]⟩ .nil) 138 ⟨33,[]⟩ .nil))) 139 ⟨67,[]⟩ (.node (.node (.node (.node .nil 140 ⟨35,[]⟩ .nil) 141 ⟨5,[]⟩ (.node .nil 142 ⟨4,[]⟩ .nil)) 143 ⟨162,[7,8,9,10,17,18,23]⟩ (.node (.node .nil 144 ⟨95,[]⟩ .nil) 146 ⟨126,[]⟩ (.node .nil 147 ⟨3,[]⟩ .nil))) 148 ⟨3,[]⟩ (.node (.node (.node .nil 150 ⟨31,[]⟩ .nil) 151 ⟨7,[]⟩ (.node .nil 152 ⟨11,[]⟩ .nil)) 154 ⟨15,[]⟩ (.node (.node .nil 155 ⟨70,[]⟩ .nil) 156 ⟨5,[1]⟩ .nil)))) 157 ⟨5,[1]⟩ (.node (.node (.node (.node (.node .nil 158 ⟨7,[]⟩ .nil) 159 ⟨7,[]⟩ (.node .nil 160 ⟨3,[]⟩ .nil)) 161 ⟨15,[]⟩ (.node (.node .nil 162 ⟨4,[]⟩ .nil) 163 ⟨3,[]⟩ (.node .nil 164 ⟨3,[]⟩ .nil))) 165 ⟨35,[6]⟩ (.node (.node (.node .nil 166 ⟨34,[10]⟩ .nil) 167 ⟨46,[10]⟩ (.node .nil 168 ⟨61,[]⟩ .nil)) 169 ⟨16,[3]⟩ (.node (.node .nil 170 ⟨125,[11,17,23]⟩ .nil) 171 ⟨71,[1,8]⟩ .nil))) 172 ⟨145,[1,8,10,18,21]⟩ (.node (.node (.node (.node .nil 173 ⟨9,[]⟩ .nil) 174 ⟨99,[]⟩ (.node .nil 175 ⟨170,[]⟩ .nil)) 176 ⟨7,[]⟩ (.node (.node .nil 177 ⟨3,[]⟩ .nil) 178 ⟨5,[]⟩ (.node .nil 179 ⟨5,[]⟩ .nil))) 180 ⟨59,[6]⟩ (.node (.node (.node .nil 181 ⟨3,[]⟩ .nil) 182 ⟨3,[]⟩ (.node .nil 183 ⟨9,[]⟩ .nil)) 184 ⟨13,[]⟩ (.node (.node .nil 185 ⟨3,[]⟩ .nil) 186 ⟨92,[]⟩ .nil))))) 187 ⟨23,[]⟩ (.node (.node (.node (.node (.node (.node .nil 204 ⟨5,[]⟩ .nil) 205 ⟨5,[]⟩ (.node .nil 206 ⟨26,[]⟩ .nil)) 207 ⟨5,[]⟩ (.node (.node .nil 208 ⟨5,[]⟩ .nil) 209 ⟨5,[]⟩ (.node .nil 210 ⟨5,[]⟩ .nil))) 211 ⟨12,[]⟩ (.node (.node (.node .nil 212 ⟨7,[]⟩ .nil) 213 ⟨3,[]⟩ (.node .nil 214 ⟨3,[]⟩ .nil)) 215 ⟨3,[]⟩ (.node (.node .nil 216 ⟨3,[]⟩ .nil) 217 ⟨11,[]⟩ .nil))) 218 ⟨3,[]⟩ (.node (.node (.node (.node .nil 219 ⟨6,[]⟩ .nil) 220 ⟨13,[]⟩ (.node .nil 221 ⟨5,[]⟩ .nil)) 222 ⟨3,[]⟩ (.node (.node .nil 223 ⟨7,[]⟩ .nil) 224 ⟨5,[]⟩ (.node .nil 225 ⟨5,[]⟩ .nil))) 226 ⟨7,[]⟩ (.node (.node (.node .nil 227 ⟨5,[]⟩ .nil) 228 ⟨3,[]⟩ (.node .nil 229 ⟨10,[]⟩ .nil)) 230 ⟨5,[]⟩ (.node (.node .nil 231 ⟨3,[]⟩ .nil) 232 ⟨5,[]⟩ .nil)))) 233 ⟨4,[]⟩ (.node (.node (.node (.node (.node .nil 234 ⟨5,[]⟩ .nil) 235 ⟨7,[]⟩ (.node .nil 236 ⟨5,[]⟩ .nil)) 237 ⟨3,[]⟩ (.node (.node .nil 238 ⟨18,[]⟩ .nil) 239 ⟨4,[]⟩ (.node .nil 240 ⟨5,[]⟩ .nil))) 241 ⟨3,[]⟩ (.node (.node (.node .nil 242 ⟨5,[]⟩ .nil) 243 ⟨3,[]⟩ (.node .nil 244 ⟨16,[]⟩ .nil)) 245 ⟨29,[]⟩ (.node (.node .nil 246 ⟨4,[]⟩ .nil) 247 ⟨3,[]⟩ .nil))) 248 ⟨114,[]⟩ (.node (.node (.node (.node .nil 249 ⟨31,[6]⟩ .nil) 250 ⟨31,[10]⟩ (.node .nil 251 ⟨44,[10]⟩ .nil)) 252 ⟨55,[]⟩ (.node (.node .nil 253 ⟨14,[3]⟩ .nil) 254 ⟨117,[11,17,23]⟩ .nil)) 255 ⟨5,[]⟩ (.node (.node (.node .nil 257 ⟨135,[1,8,10,18,21]⟩ .nil) 258 ⟨53,[3,6]⟩ (.node .nil 259 ⟨7,[]⟩ .nil)) 260 ⟨11,[]⟩ (.node (.node .nil 261 ⟨19,[]⟩ .nil) 275 ⟨0,[]⟩ .nil))))))
theorem howKT_ok:howKT.all (fnX Tryz.prog)=true:=by kernel_rfl
def methKL : List MeRow := [⟨131, "examboard/blueprint.broken", 207, some (4, 0, 3)⟩, ⟨131, "examboard/blueprint.check", 212, none⟩, ⟨131, "examboard/blueprint.exceeded", 208, some (4, 0, 3)⟩, ⟨131, "examboard/blueprint.line", 213, none⟩, ⟨131, "examboard/blueprint.rows", 209, some (4, 0, 3)⟩, ⟨133, "examboard/blueprint.broken", 207, some (3, 0, 3)⟩, ⟨133, "examboard/blueprint.check", 206, some (3, 0, 2)⟩, ⟨133, "examboard/blueprint.exceeded", 208, some (3, 0, 3)⟩, ⟨133, "examboard/blueprint.line", 214, none⟩, ⟨133, "examboard/blueprint.rows", 209, some (3, 0, 3)⟩, ⟨134, "examboard/blueprint.broken", 207, some (3, 0, 3)⟩, ⟨134, "examboard/blueprint.check", 206, some (3, 0, 2)⟩, ⟨134, "examboard/blueprint.exceeded", 208, some (3, 0, 3)⟩, ⟨134, "examboard/blueprint.line", 215, none⟩, ⟨134, "examboard/blueprint.rows", 209, some (3, 0, 3)⟩, ⟨135, "examboard/blueprint.broken", 207, some (3, 0, 3)⟩, ⟨135, "examboard/blueprint.check", 206, some (3, 0, 2)⟩, ⟨135, "examboard/blueprint.exceeded", 208, some (3, 0, 3)⟩, ⟨135, "examboard/blueprint.line", 216, none⟩, ⟨135, "examboard/blueprint.rows", 209, some (3, 0, 3)⟩, ⟨137, "examboard/blueprint.broken", 207, some (4, 0, 3)⟩, ⟨137, "examboard/blueprint.check", 217, none⟩, ⟨137, "examboard/blueprint.exceeded", 208, some (4, 0, 3)⟩, ⟨137, "examboard/blueprint.line", 218, none⟩, ⟨137, "examboard/blueprint.rows", 209, some (4, 0, 3)⟩, ⟨139, "examboard/blueprint.broken", 219, none⟩, ⟨139, "examboard/blueprint.check", 220, none⟩, ⟨139, "examboard/blueprint.exceeded", 221, none⟩, ⟨139, "examboard/blueprint.line", 222, none⟩, ⟨139, "examboard/blueprint.rows", 223, none⟩, ⟨141, "examboard/blueprint.broken", 225, none⟩, ⟨141, "examboard/blueprint.check", 226, none⟩, ⟨141, "examboard/blueprint.exceeded", 227, none⟩, ⟨141, "examboard/blueprint.line", 228, none⟩, ⟨141, "examboard/blueprint.rows", 229, none⟩, ⟨142, "examboard/blueprint.broken", 234, none⟩, ⟨142, "examboard/blueprint.check", 235, none⟩, ⟨142, "examboard/blueprint.exceeded", 236, none⟩, ⟨142, "examboard/blueprint.line", 237, none⟩, ⟨142, "examboard/blueprint.rows", 238, none⟩, ⟨144, "examboard/blueprint.broken", 240, none⟩, ⟨144, "examboard/blueprint.check", 241, none⟩, ⟨144, "examboard/blueprint.exceeded", 242, none⟩, ⟨144, "examboard/blueprint.line", 243, none⟩, ⟨144, "examboard/blueprint.rows", 244, none⟩]
theorem methKL_ok:∀p∈methKL,MeE Tryz.prog p:=List.forall_mem_cons.2 ⟨meP4 (fun _ _ _ _ _=>by kernel_rfl),List.forall_mem_cons.2 ⟨meW (fun _ _ _=>by kernel_rfl),List.forall_mem_cons.2 ⟨meP4 (fun _ _ _ _ _=>by kernel_rfl),List.forall_mem_cons.2 ⟨meW (fun _ _ _=>by kernel_rfl),List.forall_mem_cons.2 ⟨meP4 (fun _ _ _ _ _=>by kernel_rfl),List.forall_mem_cons.2 ⟨meP3 (fun _ _ _ _=>by kernel_rfl),List.forall_mem_cons.2 ⟨meP3 (fun _ _ _ _=>by kernel_rfl),List.forall_mem_cons.2 ⟨meP3 (fun _ _ _ _=>by kernel_rfl),List.forall_mem_cons.2 ⟨meW (fun _ _ _=>by kernel_rfl),List.forall_mem_cons.2 ⟨meP3 (fun _ _ _ _=>by kernel_rfl),List.forall_mem_cons.2 ⟨meP3 (fun _ _ _ _=>by kernel_rfl),List.forall_mem_cons.2 ⟨meP3 (fun _ _ _ _=>by kernel_rfl),List.forall_mem_cons.2 ⟨meP3 (fun _ _ _ _=>by kernel_rfl),List.forall_mem_cons.2 ⟨meW (fun _ _ _=>by kernel_rfl),List.forall_mem_cons.2 ⟨meP3 (fun _ _ _ _=>by kernel_rfl),List.forall_mem_cons.2 ⟨meP3 (fun _ _ _ _=>by kernel_rfl),List.forall_mem_cons.2 ⟨meP3 (fun _ _ _ _=>by kernel_rfl),List.forall_mem_cons.2 ⟨meP3 (fun _ _ _ _=>by kernel_rfl),List.forall_mem_cons.2 ⟨meW (fun _ _ _=>by kernel_rfl),List.forall_mem_cons.2 ⟨meP3 (fun _ _ _ _=>by kernel_rfl),List.forall_mem_cons.2 ⟨meP4 (fun _ _ _ _ _=>by kernel_rfl),List.forall_mem_cons.2 ⟨meW (fun _ _ _=>by kernel_rfl),List.forall_mem_cons.2 ⟨meP4 (fun _ _ _ _ _=>by kernel_rfl),List.forall_mem_cons.2 ⟨meW (fun _ _ _=>by kernel_rfl),List.forall_mem_cons.2 ⟨meP4 (fun _ _ _ _ _=>by kernel_rfl),List.forall_mem_cons.2 ⟨meW (fun _ _ _=>by kernel_rfl),List.forall_mem_cons.2 ⟨meW (fun _ _ _=>by kernel_rfl),List.forall_mem_cons.2 ⟨meW (fun _ _ _=>by kernel_rfl),List.forall_mem_cons.2 ⟨meW (fun _ _ _=>by kernel_rfl),List.forall_mem_cons.2 ⟨meW (fun _ _ _=>by kernel_rfl),List.forall_mem_cons.2 ⟨meW (fun _ _ _=>by kernel_rfl),List.forall_mem_cons.2 ⟨meW (fun _ _ _=>by kernel_rfl),List.forall_mem_cons.2 ⟨meW (fun _ _ _=>by kernel_rfl),List.forall_mem_cons.2 ⟨meW (fun _ _ _=>by kernel_rfl),List.forall_mem_cons.2 ⟨meW (fun _ _ _=>by kernel_rfl),List.forall_mem_cons.2 ⟨meW (fun _ _ _=>by kernel_rfl),List.forall_mem_cons.2 ⟨meW (fun _ _ _=>by kernel_rfl),List.forall_mem_cons.2 ⟨meW (fun _ _ _=>by kernel_rfl),List.forall_mem_cons.2 ⟨meW (fun _ _ _=>by kernel_rfl),List.forall_mem_cons.2 ⟨meW (fun _ _ _=>by kernel_rfl),List.forall_mem_cons.2 ⟨meW (fun _ _ _=>by kernel_rfl),List.forall_mem_cons.2 ⟨meW (fun _ _ _=>by kernel_rfl),List.forall_mem_cons.2 ⟨meW (fun _ _ _=>by kernel_rfl),List.forall_mem_cons.2 ⟨meW (fun _ _ _=>by kernel_rfl),List.forall_mem_cons.2 ⟨meW (fun _ _ _=>by kernel_rfl),fun _ h=>absurd h List.not_mem_nil⟩⟩⟩⟩⟩⟩⟩⟩⟩⟩⟩⟩⟩⟩⟩⟩⟩⟩⟩⟩⟩⟩⟩⟩⟩⟩⟩⟩⟩⟩⟩⟩⟩⟩⟩⟩⟩⟩⟩⟩⟩⟩⟩⟩⟩
def ifKL:List Nat:=[20,66,67,73,74]
theorem ifKL_ok:ifKL.all (ifTyB Tryz.prog)=true:=by kernel_rfl
def stKL:List Nat:=[7,8,77,78,101,102,124,125,140,141,142,236,237,241,242]
theorem stKL_ok:stKL.all (eqTyB Tryz.prog)=true:=by kernel_rfl
end Go.Proofs.YtcaahphghaddgaaGreatDoor
set_option linter.unusedSimpArgs false
set_option linter.unusedVariables false
namespace Go.Proofs.YtcaahphghaddgaaGreatDoor
open Go.RowKit Lim
noncomputable section
noncomputable def ctxK:Ctx:=⟨Tryz.prog,tabKT.get,Env,EBl,true,fun _ _ h=>tiB_sound (KTree.all_get tabKT_ok h),ctx.hE,ctx.hEB,ctx.hG,ctx.hm⟩
def meQ (t:TypeId) (name:String) (a:AV):Option (FuncId × AV):=(meth methKL t name).bind fun p=>(p.2 a).map fun a'=>(p.1,a')
abbrev PrimK:=List AV→Option AV
def primKL:List (Nat × PrimK):=[(55,kCut),(93,kSplit),(66,kItoa),(67,kJoin)]
theorem primKL_ok:∀p∈primKL,∀args r,p.2 args=some r→AT p.1 args r :=
 List.forall_mem_cons.2 ⟨fun _ _=>kCut_ok,List.forall_mem_cons.2 ⟨fun _ _=>kSplit_ok,List.forall_mem_cons.2 ⟨fun _ _=>kItoa_ok,List.forall_mem_cons.2 ⟨fun _ _=>kJoin_ok,fun _ h=>absurd h List.not_mem_nil⟩⟩⟩⟩
def lkP:List (Nat × PrimK)→Nat→Option PrimK
 | [],_=>none
 | p :: l,x=>bif Nat.beq x p.1 then some p.2 else lkP l x
theorem lkP_mem:∀{l:List (Nat × PrimK)} {x:Nat} {p:PrimK},lkP l x=some p→(x,p)∈l
 | [],_,_,h=>by cases h
 | (k,q) :: l,x,p,h=>by
  unfold lkP at h
  cases hb:Nat.beq x k with
  | true=>rw [hb]at h;cases h;rw [kbeq hb];exact List.mem_cons_self
  | false=>rw [hb]at h;exact List.mem_cons_of_mem _ (lkP_mem h)
noncomputable def kw (F:Nat):KW:=⟨tabKT.get,Tryz.prog.funcs,howKT.get,meQ,eqTab tabKT.get ifKL stKL,lkP primKL,F⟩
theorem kw_ok {F:Nat}:KWOK ctxK (kw F) :=
 ⟨rfl,rfl,fun t name a f a' h=>by
  obtain ⟨p,h1,h2⟩:=kbind h
  obtain ⟨b,h3,h4⟩:=Option.map_eq_some_iff.1 h2
  cases h4
  exact meth_some methKL_ok h1 a _ h3,
 fun _ _ _ _ _ _ _ h=>eqTab_ok (C:=ctxK) ifKL_ok stKL_ok h,
 fun f h fn c h1 h2 h3=>fnX_of (KTree.all_get howKT_ok h1) h2 h3,
 fun f p args r h1 h2=>primKL_ok _ (lkP_mem h1) args r h2⟩
noncomputable abbrev KR (n:Nat):FuncId→List AV→Option AV:=kask (kw 1000000) n
theorem KR_calls {n:Nat} {f:FuncId} {args:List AV} {r:AV} (h:KR n f args=some r):AT f args r:=kask_sound (C:=ctxK) kw_ok n f args r h
end
end Go.Proofs.YtcaahphghaddgaaGreatDoor
set_option linter.unusedSimpArgs false
set_option linter.unusedVariables false
namespace Go.Proofs.YtcaahphghaddgaaGreatDoor
open Go.RowKit Lim
noncomputable section
def kstr1:AV→Option (List UInt8)
 | .lit (.string s)=>some s.data.toList
 | _=>none
theorem kstr1_some:∀{a:AV} {l:List UInt8},kstr1 a=some l→a=str l
 | .lit (.string s),l,h=>by cases h;rw [str,bs_data]
def kzero:AV→Bool
 | .lit (.int .i64 z)=>z == 0
 | _=>false
theorem kzero_of {a:AV} (h:kzero a=true):a=i64 0:=by
 unfold kzero at h
 split at h
 ·rw [eq_of_beq h]
 ·cases h
def kLines (n:Nat):List AV→Option (List (List UInt8))
 | []=>some []
 | .ifc ty a :: ds => (meQ ty "examboard/blueprint.line" a).bind fun p => (KR n p.1 [p.2]).bind fun r => (kstr1 r).bind fun l => (kLines n ds).map fun ls => l :: ls
 | _=>none
theorem kLines_ok {n : Nat} : ∀ {ds : List AV} {ls : List (List UInt8)}, kLines n ds = some ls → ls.length = ds.length ∧ (∀ d ∈ ds, d.one = true) ∧ ∀ i (hi : i < ds.length), ∃ ty a a' f l, ds[i]'hi = .ifc ty a ∧ ls[i]? = some l ∧ Meth Tryz.prog ty "examboard/blueprint.line" a f a' ∧ AT f [a'] (str l) := by
 intro ds
 induction ds with
 | nil=>intro ls h;cases h;exact ⟨rfl,fun d hd=>absurd hd List.not_mem_nil,fun i hi=>absurd hi (Nat.not_lt_zero _)⟩
 | cons d ds ih =>
  intro ls h
  unfold kLines at h
  split at h
  ·rename_i e1;cases e1
  ·rename_i ty a ds' e1
   cases e1
   obtain ⟨p,h1,h⟩:=kbind h
   obtain ⟨r,h2,h⟩:=kbind h
   obtain ⟨l,h3,h⟩:=kbind h
   obtain ⟨ls',h4,rfl⟩:=Option.map_eq_some_iff.1 h
   obtain ⟨q1,q2,q3⟩:=ih h4
   have hat:=KR_calls h2
   rw [kstr1_some h3]at hat
   refine ⟨by rw [List.length_cons,List.length_cons,q1],fun d hd=>?_,fun i hi=>?_⟩
   ·rcases List.mem_cons.1 hd with rfl|hd
    ·rfl
    ·exact q2 d hd
   ·match i with
    | 0=>exact ⟨ty,a,p.2,p.1,l,rfl,rfl,(kw_ok (F:=0)).me ty _ a p.1 p.2 h1,hat⟩
    | i+1 =>
     obtain ⟨ty,a,a',f,l,g⟩:=q3 i (Nat.lt_of_succ_lt_succ hi)
     exact ⟨ty,a,a',f,l,g⟩
  ·cases h
def kPrint (n:Nat):List AV→Option AV
 | [.agg [.lit (.int .i64 L),.sl k rs]] =>
  (KR n 12 [.agg [.lit (.int .i64 L),.sl k rs]]).bind fun v =>
   bif kzero v then
    (KR n 32 [str [108,101,110,103,116,104],.sl 1 [i64 L]]).bind fun t=>(kstr1 t).bind fun t0 =>
     (KR n 33 [.agg [.lit (.int .i64 L),.sl k rs]]).bind fun d=>match d with
      | .sl 1 ds=>(kLines n ds).bind fun ls=>bif Nat.ble ds.length 1048576 && Nat.ble (wrt t0 ls).length 140737488355328 then some (.tup [str (wrt t0 ls),i64 0]) else none
      | _=>none
   else none
 | _=>none
theorem kPrint_ok {n:Nat} {args:List AV} {r:AV} (h:kPrint n args=some r):AT 10 args r:=by
 unfold kPrint at h
 split at h
 ·rename_i L k rs
  obtain ⟨v,h1,h⟩:=kbind h
  obtain ⟨h2,h⟩:=kif h
  obtain ⟨t,h3,h⟩:=kbind h
  obtain ⟨t0,h4,h⟩:=kbind h
  obtain ⟨d,h5,h⟩:=kbind h
  split at h
  ·rename_i ds
   obtain ⟨ls,h6,h⟩:=kbind h
   obtain ⟨h7,h⟩:=kif h
   obtain ⟨h7,h8⟩:=kand h7
   cases h
   have c1:=KR_calls h1
   have c2:=KR_calls h3
   rw [kzero_of h2]at c1
   rw [kstr1_some h4]at c2
   obtain ⟨q1,q2,q3⟩:=kLines_ok h6
   exact print_c c1 c2 (KR_calls h5) q2 q3 q1 (Nat.le_of_ble_eq_true h7) (Nat.le_of_ble_eq_true h8)
  ·cases h
 ·cases h
end
end Go.Proofs.YtcaahphghaddgaaGreatDoor
set_option linter.unusedSimpArgs false
set_option linter.unusedVariables false
namespace Go.Proofs.YtcaahphghaddgaaGreatDoor
open Go.RowKit Lim
noncomputable section
def eqL:Value→Value→Bool
 | .int .i64 m,.int .i64 n=>m == n
 | .bool a,.bool b=>a == b
 | .string s,.string t=>s.data.toList == t.data.toList
 | _,_=>false
theorem eqL_of {a b:Value} (h:eqL a b=true):a=b:=by
 unfold eqL at h
 split at h
 ·rw [eq_of_beq h]
 ·rw [eq_of_beq h]
 ·rename_i s t
  have e:=eq_of_beq h
  rw [←bs_data s,←bs_data t,e]
 ·cases h
def eqAs (e:AV→AV→Bool):List AV→List AV→Bool
 | [],[]=>true
 | a :: l,b :: m=>e a b && eqAs e l m
 | _,_=>false
theorem eqAs_of {e:AV→AV→Bool} (he:∀a b,e a b=true→a=b):∀l m,eqAs e l m=true→l=m
 | [],[],_=>rfl
 | [],_ :: _,h=>by cases h
 | _ :: _,[],h=>by cases h
 | a :: l,b :: m,h=>by
  obtain ⟨h1,h2⟩:=kand h
  rw [he a b h1,eqAs_of he l m h2]
def eqA:Nat→AV→AV→Bool
 | n+1,.lit a,.lit b=>eqL a b
 | n+1,.sl k es,.sl k' fs=>k == k' && eqAs (eqA n) es fs
 | n+1,.agg es,.agg fs=>eqAs (eqA n) es fs
 | n+1,.tup es,.tup fs=>eqAs (eqA n) es fs
 | _,_,_=>false
theorem eqA_of:∀n a b,eqA n a b=true→a=b:=by
 intro n
 induction n with
 | zero=>intro a b h;cases a <;> cases h
 | succ n ih =>
  intro a b h
  cases a <;> cases b <;> first
   | exact absurd h Bool.false_ne_true
   | exact congrArg AV.lit (eqL_of h)
   | exact congrArg AV.agg (eqAs_of ih _ _ h)
   | exact congrArg AV.tup (eqAs_of ih _ _ h)
   | skip
  obtain ⟨h1,h2⟩:=kand h
  rw [eq_of_beq h1,eqAs_of ih _ _ h2]
def kMemo (as':List AV) (x:AV) (args:List AV):Option AV:=bif eqAs (eqA 9) args as' then some x else none
theorem kMemo_ok {f:FuncId} {as':List AV} {x:AV} (h:AT f as' x) {args:List AV} {r:AV} (hm:kMemo as' x args=some r):AT f args r:=by
 obtain ⟨h1,h2⟩:=kif hm
 cases h2
 rw [eqAs_of (eqA_of 9) _ _ h1]
 exact h
noncomputable def kwp (ps:List (Nat × PrimK)) (F:Nat):KW:={ kw F with pr:=lkP ps }
theorem kwp_ok {ps:List (Nat × PrimK)} (hp:∀p∈ps,∀args r,p.2 args=some r→AT p.1 args r) {F:Nat}:KWOK ctxK (kwp ps F):=by
 have h:=kw_ok (F:=F)
 exact ⟨h.1,h.2,h.3,h.4,h.5,fun f p args r h1 h2=>hp _ (lkP_mem h1) args r h2⟩
noncomputable abbrev KRp (ps:List (Nat × PrimK)) (n:Nat):FuncId→List AV→Option AV:=kask (kwp ps 1000000) n
theorem KRp_calls {ps:List (Nat × PrimK)} (hp:∀p∈ps,∀args r,p.2 args=some r→AT p.1 args r) {n:Nat} {f:FuncId} {args:List AV} {r:AV} (h:KRp ps n f args=some r):AT f args r:=kask_sound (C:=ctxK) (kwp_ok hp) n f args r h
def sampleK (n:Int):AV:=.agg [.lit (.int .i64 n),.lit (.string ⟨#[77,65,84,72,46,65,76,71]⟩),.lit (.int .i64 0),.lit (.int .i64 0),.lit (.int .i64 6),.lit (.int .i64 10),.lit (.int .i64 1),.lit (.int .i64 0),.sl 1 [.sl 1 [.lit (.int .i64 500),.lit (.int .i64 500)]]]
def probA:List AV:=[.agg [.lit (.int .i64 1),.sl 5 [.agg [.lit (.int .i64 8),.lit (.int .i64 5),.lit (.int .i64 0),.lit (.int .i64 0),.lit (.string ⟨#[]⟩)]]],.sl 9 [sampleK 2,sampleK 5],.sl 2 [],.sl 1 [.lit (.int .i64 7),.lit (.int .i64 9)]]
def probR:AV:=.tup [.agg [.sl 1 [.lit (.int .i64 7),.lit (.int .i64 9)],.sl 3 [.agg [.sl 1 [.lit (.int .i64 1),.lit (.int .i64 1)],.lit (.int .i64 1),.lit (.int .i64 1)]],.sl 1 [.lit (.int .i64 (-1)),.lit (.int .i64 0)]],.lit (.int .i64 0)]
end
end Go.Proofs.YtcaahphghaddgaaGreatDoor
