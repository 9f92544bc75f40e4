import Derived.Test.YtmegoiaijfeilaaGreatDoorB1
import Derived.BigQuiet
import Derived.Lib.SliceRun
import Derived.Shelf.SlSortCmp.NoneTotal
import Derived.Test.YtmegoiaijfeilaaGreatDoorProg
import Derived.Sort.OwnSortedInts
import Derived.Laws.StructEq
import Derived.WideLaws
/- Texts merged: Rc Slsf Rd Re Rf Wi1 Wi2 Wi3 Wi4 Wi5 Rg Wi6 Wi7 Wj1 Wj2 Wj3 Wi8 KQ XY KT KH Qd Qf. -/
set_option linter.unusedSimpArgs false
set_option linter.unusedVariables false
namespace Go.Proofs.YtmegoiaijfeilaaGreatDoor
open Go.RowKit Lim
def uniqL:Option (Int × Int)→List (Int × Int)→List (Int × Int)
 | _,[]=>[]
 | o,p :: l=>if o=some p then uniqL o l else p :: uniqL (some p) l
def uniqP (l:List (Int × Int)):List (Int × Int):=uniqL none l
theorem uniqL_app:∀(l:List (Int × Int)) (o:Option (Int × Int)) (p:Int × Int),uniqL o (l ++ [p])=uniqL o l ++ if (l.getLast?.or o)=some p then [] else [p]
 | [],o,p=>by by_cases h:o=some p <;> simp [uniqL,h]
 | q :: l,o,p=>by
  have e:((q :: l).getLast?.or o)=l.getLast?.or (some q):=by
   cases l with
   | nil=>rfl
   | cons a l=>simp [List.getLast?_cons_cons,List.getLast?_cons]
  rw [e]
  simp only [List.cons_append,uniqL]
  by_cases h:o=some q
  ·rw [if_pos h,if_pos h,uniqL_app l o p,h]
  ·rw [if_neg h,if_neg h,uniqL_app l (some q) p]
   rfl
theorem uniq_step {l:List (Int × Int)} {i:Nat} (hi:i+1<l.length):uniqP (l.take (i+2))=uniqP (l.take (i+1)) ++ if l[i]'(by omega)=l[i+1]'hi then [] else [l[i+1]'hi]:=by
 unfold uniqP
 rw [List.take_succ_eq_append_getElem hi,uniqL_app]
 have e:(l.take (i+1)).getLast?.or none=some (l[i]'(by omega)):=by
  rw [Option.or_none,List.getLast?_take]
  simp [show i<l.length by omega]
 rw [e]
 simp only [Option.some.injEq]
theorem uniq_one {l:List (Int × Int)} (h:0<l.length):uniqP (l.take 1)=[l[0]]:=by
 match l,h with
 | p :: l,_=>simp [uniqP,uniqL]
theorem uniq_le:∀(l:List (Int × Int)) (o:Option (Int × Int)),(uniqL o l).length≤l.length
 | [],_=>by simp [uniqL]
 | p :: l,o=>by
  unfold uniqL
  split
  ·have:=uniq_le l o;simp;omega
  ·have:=uniq_le l (some p);simp;omega
def At (w:World) (g i:Nat) (p:Int × Int):Prop:=w.cell? ⟨g,i*2,none⟩=some (.int .i64 p.1)∧w.cell? ⟨g,i*2+1,none⟩=some (.int .i64 p.2)
theorem setCell_grown {w w1:World} {g o:Nat} {v:Value} (h:w.grownBy w1 (some g)):w.grownBy (w1.setCell ⟨g,o,none⟩ v) (some g) :=
 ⟨h.os,h.tape,h.output,by have:=h.size;simpa [World.setCell]using this,fun k hk hne=>(heap_setCell_other _ _ _ _ (fun e=>hne (by rw [e]))).trans (h.block k hk hne)⟩
theorem setCells_grown {w:World} {g:Nat}:∀(vs:List Value) (o:Nat) (w1:World),w.grownBy w1 (some g)→w.grownBy (w1.setCells g o vs) (some g)
 | [],_,_,h=>h
 | _ :: r,o,_,h=>setCells_grown r (o+1) _ (setCell_grown h)
theorem drewN_grown {w w1:World} {g:Option Nat} (h:w.grownBy w1 g) (n:Nat):w.grownBy (w1.drewN n) g:=⟨h.os,h.tape,h.output,h.size,h.block⟩
theorem off_ne {g a b:Nat} (h:a≠b):(⟨g,a,none⟩:Addr)≠⟨g,b,none⟩:=fun e=>h (congrArg Addr.off e)
theorem At.set {w:World} {g K:Nat} {q:Int × Int} (h0:At w g K q) (a b:Int):At ((w.setCell ⟨g,K*2,none⟩ (.int .i64 a)).setCell ⟨g,K*2+1,none⟩ (.int .i64 b)) g K (a,b):=by
 have h1:(w.setCell ⟨g,K*2,none⟩ (.int .i64 a)).cell? ⟨g,K*2+1,none⟩=some (.int .i64 q.2):=(World.cell?_setCell_other _ _ _ _ (off_ne (by omega))).trans h0.2
 exact ⟨(World.cell?_setCell_other _ _ _ _ (off_ne (by omega))).trans (World.cell?_setCell_same _ _ _ h0.1),World.cell?_setCell_same _ _ _ h1⟩
theorem At.keep {w:World} {g K t:Nat} {p:Int × Int} (h:At w g t p) (hne:t≠K) (a b:Int):At ((w.setCell ⟨g,K*2,none⟩ (.int .i64 a)).setCell ⟨g,K*2+1,none⟩ (.int .i64 b)) g t p :=
 ⟨(World.cell?_setCell_other _ _ _ _ (off_ne (by omega))).trans ((World.cell?_setCell_other _ _ _ _ (off_ne (by omega))).trans h.1),(World.cell?_setCell_other _ _ _ _ (off_ne (by omega))).trans ((World.cell?_setCell_other _ _ _ _ (off_ne (by omega))).trans h.2)⟩
theorem zeros2 (a b:Value) (ha:a.oneCell'=true) (hb:b.oneCell'=true) (n:Nat):(Builtin.zeroCells #[a,b] n).size=n*2∧∀v∈(Builtin.zeroCells #[a,b] n).toList,v.oneCell'=true:=by
 refine ⟨by simp [Builtin.zeroCells],fun v hv=>?_⟩
 simp only [Builtin.zeroCells,Array.toList_map,List.mem_map]at hv
 obtain ⟨i,_,rfl⟩:=hv
 have h2:i % (#[a,b]:Array Value).size<2:=Nat.mod_lt _ (by simp)
 generalize i % (#[a,b]:Array Value).size=j at *
 match j,h2 with
 | 0,_=>exact ha
 | 1,_=>exact hb
theorem run_clear2 {P:Program} (w:World) (t e ty:TypeId) (a b:Value) (ht:P.underlying t=some (.slice e)) (hv:∀w,(zeroValue e).run P w=.ok (.agg #[a,b]) w) (ha:a.oneCell'=true) (hb:b.oneCell'=true) (g o n c:Nat) (hn:0<n)
  (hc:∀j,j<n*2→(w.cell? ⟨g,o+j,none⟩).isSome=true) (hf:∀j,w.frozen? ⟨g,j,none⟩=false) :
  (Builtin.clear_ #[t] ty #[.slice (some ⟨g,o,none⟩) n c]).run P w=.ok (.tuple #[]) (w.setCells g o (Builtin.zeroCells #[a,b] n).toList):=by
 obtain ⟨z1,z2⟩:=zeros2 a b ha hb n
 have hst:=run_storeCells_cells (P:=P) g o (Builtin.zeroCells #[a,b] n).toList 0 w (by simpa [z1]using hc) (fun j _=>hf _) z2
 simp only [Nat.add_zero]at hst
 obtain ⟨m,rfl⟩:∃m,n=m+1:=⟨n-1,by omega⟩
 simp [Builtin.clear_,run_underlying ht,hv,Value.cells,hst]
set_option maxHeartbeats 4000000 in
set_option maxRecDepth 100000 in
theorem compact_w (l:List (Int × Int)) (g cap:Nat) (w:World) (hn:l.length≤cap) (hcap:cap≤9223372036854775807) (hc:∀i (hi:i<l.length),At w g i l[i]) (hf:∀o,w.frozen? ⟨g,o,none⟩=false) :
  Calls Tryz.prog 98 #[.slice (some ⟨g,0,none⟩) l.length cap] w fun e w'=>e=.returned (.slice (some ⟨g,0,none⟩) (uniqP l).length cap)∧w.grownBy w' (some g)∧∀i (hi:i<(uniqP l).length),At w' g i (uniqP l)[i]:=by
 by_cases h2:l.length<2
 ·have e:uniqP l=l:=by
   match l,h2 with
   | [],_=>rfl
   | [p],_=>rfl
  rw [e]
  go_enter Tryz.func98,Tryz.ntmps98
  go_wp2
  go_ret
  exact ⟨rfl,⟨rfl,rfl,rfl,Nat.le_refl _,fun _ _ _=>rfl⟩,hc⟩
 obtain ⟨U,hU⟩:∃U,uniqP l=U:=⟨_,rfl⟩
 rw [hU]
 go_enter Tryz.func98,Tryz.ntmps98
 go_wp2
 go_loopw [3] (fun s3 wl=>∃m q:Nat,s3=.int .i64 ((m:Int)+1)∧m+1≤l.length∧wl=w.drewN q∧uniqP (l.take (m+1))=l.take (m+1)) (fun s3 _=>l.length-(intOf s3).toNat)
 case atStart =>
  refine ⟨0,0,rfl,by omega,rfl,?_⟩
  rw [uniq_one (by omega)]
  match l,h2 with
  | p :: l,_=>rfl
 case round =>
  obtain ⟨m,q,rfl,hm,rfl,hu⟩:=hrel
  by_cases hlt:m+1<l.length
  ·obtain ⟨c0,c1⟩:=hc m (by omega)
   obtain ⟨d0,d1⟩:=hc (m+1) hlt
   have us0:=uniq_step hlt
   generalize hx:l[m]'(by omega)=x at *
   generalize hy:l[m+1]'hlt=y at *
   have s1:IntKind.i64.wrap ((m:Int)+1-1)=(m:Int):=IntWalk.i64_in _ (by omega) |>.trans (by omega)
   have s2:((m:Int)+1).toNat=m+1:=by omega
   have s3:(0:Int)≤(m:Int)+1:=by omega
   have s4:(m:Int)+1<((l.length:Nat):Int):=by omega
   have s5:(m:Int)<((l.length:Nat):Int):=by omega
   obtain ⟨x1,x2⟩:=x
   obtain ⟨y1,y2⟩:=y
   have next:¬(x1=y1∧x2=y2)→uniqP (l.take (m+2))=l.take (m+2):=fun hne=>by
    rw [us0,hu,if_neg (fun e=>hne (Prod.mk.inj e)),List.take_succ_eq_append_getElem hlt,hy]
   by_cases h1:x1=y1
   ·subst h1
    by_cases h3:x2=y2
    ·subst h3
     have us:uniqP (l.take (m+2))=l.take (m+1):=by rw [us0,hu,if_pos rfl,List.append_nil]
     clear next us0
     go_wp2
     go_quiet (fail)
     go_wp2
     go_loopw [3,5] (fun s3 s5 wl=>∃j K:Nat,s3=.int .i64 K∧s5=.int .i64 ((j:Int)+1)∧m+2+j≤l.length∧K≤m+1+j∧(uniqP (l.take (m+2+j))).length=K∧w.grownBy wl (some g)∧(∀o,wl.frozen? ⟨g,o,none⟩=false)∧(∀t,t<l.length→∃p,At wl g t p)∧(∀t (ht:t<l.length),m+1+j≤t→At wl g t l[t])∧(∀t p,(uniqP (l.take (m+2+j)))[t]? = some p→At wl g t p)) (fun _ s5 _=>l.length-(intOf s5).toNat)
     case atStart =>
      refine ⟨0,m+1,rfl,rfl,by omega,Nat.le_refl _,?_,⟨rfl,rfl,rfl,Nat.le_refl _,fun _ _ _=>rfl⟩,hf,fun t ht=>⟨_,hc t ht⟩,fun t ht _=>hc t ht,fun t p hp=>?_⟩
      ·rw [us,List.length_take];omega
      ·rw [us,List.getElem?_take]at hp
       split at hp
       ·obtain ⟨ht,rfl⟩:=List.getElem?_eq_some_iff.1 hp
        exact hc t ht
       ·cases hp
     case round =>
      obtain ⟨j,K,rfl,rfl,hjn,hK,hKU,hgr,hfz,hany,hold,hnew⟩:=hrel
      clear c0 c1 d0 d1 us
      by_cases hlt2:m+2+j<l.length
      ·obtain ⟨c0,c1⟩:=hold (m+1+j) (by omega) (Nat.le_refl _)
       obtain ⟨d0,d1⟩:=hold (m+2+j) hlt2 (by omega)
       have us0:=uniq_step (l:=l) (i:=m+1+j) (by omega)
       simp only [show m+1+j+1=m+2+j by omega,show m+1+j+2=m+3+j by omega]at us0
       generalize hx':l[m+1+j]'(by omega)=x at *
       generalize hy':l[m+2+j]'hlt2=y at *
       obtain ⟨u1,u2⟩:=x
       obtain ⟨v1,v2⟩:=y
       rw [show (m+1+j)*2=(m+1)*2+j*2 by omega]at c0 c1
       rw [show (m+2+j)*2=(m+1)*2+(j+1)*2 by omega]at d0 d1
       have s6:(j:Int)+1<((l.length-(m+1):Nat):Int):=by omega
       have s7:IntKind.i64.wrap ((j:Int)+1-1)=(j:Int):=(IntWalk.i64_in _ (by omega)).trans (by omega)
       have s8:((j:Int)+1).toNat=j+1:=by omega
       have s9:(0:Int)≤(j:Int)+1:=by omega
       have s10:(j:Int)<((l.length-(m+1):Nat):Int):=by omega
       have s11:((K:Nat):Int)<((l.length:Nat):Int):=by omega
       obtain ⟨pk,k0,k1⟩:=hany K (by omega)
       have f0:=hfz (K*2)
       have f1:=hfz (K*2+1)
       have diff:¬(u1=v1∧u2=v2)→uniqP (l.take (m+3+j))=uniqP (l.take (m+2+j)) ++ [(v1,v2)]:=fun hne=>by
        rw [us0,if_neg (fun e=>hne (Prod.mk.inj e))]
       by_cases h1:u1=v1
       ·subst h1
        by_cases h3:u2=v2
        ·subst h3
         rw [if_pos rfl,List.append_nil]at us0
         go_wp2
         go_quiet (fail)
         go_wp2
         refine ⟨⟨j+1,K,rfl,by simp,by omega,by omega,?_,drewN_grown hgr _,hfz,hany,fun t ht h=>hold t ht (by omega),?_⟩,?_⟩
         ·rw [show m+2+(j+1)=m+3+j by omega,us0];exact hKU
         ·intro t p hp
          rw [show m+2+(j+1)=m+3+j by omega,us0]at hp
          exact hnew t p hp
         ·simp only [intOf]
          omega
        ·have hb:(u2 == v2)=false:=by simpa using h3
         have us:=diff fun e=>h3 e.2
         clear diff us0
         go_wp2
         go_quiet (fail)
         go_wp2
         refine ⟨⟨j+1,K+1,by simp,by simp,by omega,by omega,?_,setCell_grown (setCell_grown (drewN_grown hgr _)),fun o=>?_,fun t ht=>?_,fun t ht h=>At.keep (w:=wr.drewN _) (hold t ht (by omega)) (by omega) _ _,fun t p hp=>?_⟩,?_⟩
         ·rw [show m+2+(j+1)=m+3+j by omega,us,List.length_append,hKU];rfl
         ·rw [World.frozen?_setCell,World.frozen?_setCell];exact hfz o
         ·by_cases h:t=K
          ·rw [h];exact ⟨_,At.set (w:=wr.drewN _) ⟨k0,k1⟩ _ _⟩
          ·obtain ⟨p,hp⟩:=hany t ht
           exact ⟨p,At.keep (w:=wr.drewN _) hp h _ _⟩
         ·rw [show m+2+(j+1)=m+3+j by omega,us,List.getElem?_append]at hp
          split at hp
          ·rename_i hlt3
           exact At.keep (w:=wr.drewN _) (hnew t p hp) (by omega) _ _
          ·rename_i hlt3
           obtain ⟨h5,h6⟩:=List.getElem?_eq_some_iff.1 hp
           have h7:t=K:=by simp at h5;omega
           subst h7
           simp [hKU]at h6
           rw [←h6]
           exact At.set (w:=wr.drewN _) ⟨k0,k1⟩ _ _
         ·simp only [intOf]
          omega
       ·have hb:(u1 == v1)=false:=by simpa using h1
        have us:=diff fun e=>h1 e.1
        clear diff us0
        go_wp2
        go_quiet (fail)
        go_wp2
        refine ⟨⟨j+1,K+1,by simp,by simp,by omega,by omega,?_,setCell_grown (setCell_grown (drewN_grown hgr _)),fun o=>?_,fun t ht=>?_,fun t ht h=>At.keep (w:=wr.drewN _) (hold t ht (by omega)) (by omega) _ _,fun t p hp=>?_⟩,?_⟩
        ·rw [show m+2+(j+1)=m+3+j by omega,us,List.length_append,hKU];rfl
        ·rw [World.frozen?_setCell,World.frozen?_setCell];exact hfz o
        ·by_cases h:t=K
         ·rw [h];exact ⟨_,At.set (w:=wr.drewN _) ⟨k0,k1⟩ _ _⟩
         ·obtain ⟨p,hp⟩:=hany t ht
          exact ⟨p,At.keep (w:=wr.drewN _) hp h _ _⟩
        ·rw [show m+2+(j+1)=m+3+j by omega,us,List.getElem?_append]at hp
         split at hp
         ·rename_i hlt3
          exact At.keep (w:=wr.drewN _) (hnew t p hp) (by omega) _ _
         ·rename_i hlt3
          obtain ⟨h5,h6⟩:=List.getElem?_eq_some_iff.1 hp
          have h7:t=K:=by simp at h5;omega
          subst h7
          simp [hKU]at h6
          rw [←h6]
          exact At.set (w:=wr.drewN _) ⟨k0,k1⟩ _ _
        ·simp only [intOf]
         omega
      ·have s6:¬(j:Int)+1<((l.length-(m+1):Nat):Int):=by omega
       have e:m+2+j=l.length:=by omega
       rw [e,List.take_length,hU]at hKU
       simp only [e,List.take_length,hU]at hnew
       have hKn:K<l.length:=by omega
       have hcl:∀ty,(Builtin.clear_ #[26] ty #[.slice (some ⟨g,K*2,none⟩) (l.length-K) (cap-K)]).run Tryz.prog wr=.ok (.tuple #[]) (wr.setCells g (K*2) (Builtin.zeroCells #[.int .i64 0,.int .i64 0] (l.length-K)).toList):=fun ty =>
        run_clear2 wr _ _ ty _ _ Tryz.underlying26 Tryz.zeroValue64 rfl rfl g (K*2) _ _ (by omega) (fun jj hjj=>by
         obtain ⟨pp,q1,q2⟩:=hany (K+jj / 2) (by omega)
         rcases Nat.mod_two_eq_zero_or_one jj with h|h
         ·rw [show K*2+jj=(K+jj / 2)*2 by omega,q1];rfl
         ·rw [show K*2+jj=(K+jj / 2)*2+1 by omega,q2];rfl) hfz
       go_wp2
       go_ret
       refine ⟨rfl,setCells_grown _ _ _ hgr,fun t ht=>?_⟩
       obtain ⟨q1,q2⟩:=hnew t U[t] (List.getElem?_eq_getElem (by omega))
       exact ⟨(World.cell?_setCells_out g _ _ _ _ (fun _ _=>.inl (by show t*2<K*2;omega))).trans q1,(World.cell?_setCells_out g _ _ _ _ (fun _ _=>.inl (by show t*2+1<K*2;omega))).trans q2⟩
    ·have hb:(x2 == y2)=false:=by simpa using h3
     have us:=next fun e=>h3 e.2
     clear next us0
     go_wp2
     go_quiet (fail)
     go_wp2
     refine ⟨⟨m+1,_,rfl,by omega,rfl,us⟩,?_⟩
     simp only [intOf]
     omega
   ·have hb:(x1 == y1)=false:=by simpa using h1
    have us:=next fun e=>h1 e.1
    clear next us0
    go_wp2
    go_quiet (fail)
    go_wp2
    refine ⟨⟨m+1,_,rfl,by omega,rfl,us⟩,?_⟩
    simp only [intOf]
    omega
  ·have s4:¬(m:Int)+1<((l.length:Nat):Int):=by omega
   have e:m+1=l.length:=by omega
   rw [e,List.take_length]at hu
   go_wp2
   go_ret
   rw [hU]at hu
   subst hu
   exact ⟨rfl,⟨rfl,rfl,rfl,Nat.le_refl _,fun _ _ _=>rfl⟩,hc⟩
theorem compact_n {l:List (Int × Int)} {n:Nat} (hln:l.length=n) {g cap:Nat} {w:World} (hn:n≤cap) (hcap:cap≤9223372036854775807) (hc:∀i (hi:i<l.length),At w g i l[i]) (hf:∀o,w.frozen? ⟨g,o,none⟩=false) :
  Calls Tryz.prog 98 #[.slice (some ⟨g,0,none⟩) n cap] w fun e w'=>e=.returned (.slice (some ⟨g,0,none⟩) (uniqP l).length cap)∧w.grownBy w' (some g)∧∀i (hi:i<(uniqP l).length),At w' g i (uniqP l)[i]:=by
 subst hln
 exact compact_w l g cap w hn hcap hc hf
end Go.Proofs.YtmegoiaijfeilaaGreatDoor
namespace Go.Proofs
open Go.Shelf
def Tryz.sortPr_ren:Go.Shelf.Ren:=⟨fun|6=>94|15=>115|14=>114|28=>141|29=>142|20=>133|21=>134|22=>135|23=>136|24=>137|25=>138|26=>139|27=>140|46=>159|47=>160|48=>161|49=>162|50=>163|57=>172|n=>n,fun|22=>26|24=>64|25=>158|3=>3|39=>176|0=>0|53=>195|55=>183|4=>4|46=>188|45=>187|50=>192|5=>5|9=>9|66=>214|70=>218|76=>228|77=>131|n=>n,fun|n=>n⟩
theorem Tryz.sortPr:Go.Proofs.SlLaysF0.n6 Tryz.prog Tryz.sortPr_ren:={
 mixed:=by kernel_rfl
 f6:=⟨Tryz.f94.name,by decide,Tryz.func94.trans (congrArg some (by kernel_rfl))⟩
 f14:=⟨Tryz.f114.name,by decide,Tryz.func114.trans (congrArg some (by kernel_rfl))⟩
 f15:=Tryz.func115.trans (congrArg some (by kernel_rfl))
 f20:=⟨Tryz.f133.name,by decide,Tryz.func133.trans (congrArg some (by kernel_rfl))⟩
 f21:=⟨Tryz.f134.name,by decide,Tryz.func134.trans (congrArg some (by kernel_rfl))⟩
 f22:=⟨Tryz.f135.name,by decide,Tryz.func135.trans (congrArg some (by kernel_rfl))⟩
 f23:=⟨Tryz.f136.name,by decide,Tryz.func136.trans (congrArg some (by kernel_rfl))⟩
 f24:=⟨Tryz.f137.name,by decide,Tryz.func137.trans (congrArg some (by kernel_rfl))⟩
 f25:=⟨Tryz.f138.name,by decide,Tryz.func138.trans (congrArg some (by kernel_rfl))⟩
 f26:=⟨Tryz.f139.name,by decide,Tryz.func139.trans (congrArg some (by kernel_rfl))⟩
 f27:=⟨Tryz.f140.name,by decide,Tryz.func140.trans (congrArg some (by kernel_rfl))⟩
 f28:=Tryz.func141.trans (congrArg some (by kernel_rfl))
 f29:=Tryz.func142.trans (congrArg some (by kernel_rfl))
 f46:=⟨Tryz.f159.name,by decide,Tryz.func159.trans (congrArg some (by kernel_rfl))⟩
 f47:=Tryz.func160.trans (congrArg some (by kernel_rfl))
 f48:=Tryz.func161.trans (congrArg some (by kernel_rfl))
 f49:=⟨Tryz.f162.name,by decide,Tryz.func162.trans (congrArg some (by kernel_rfl))⟩
 f50:=⟨Tryz.f163.name,by decide,Tryz.func163.trans (congrArg some (by kernel_rfl))⟩
 f57:=⟨Tryz.f172.name,by decide,Tryz.func172.trans (congrArg some (by kernel_rfl))⟩
 t0:=Tryz.underlying0
 a0:=Tryz.isAgg0
 z0:=Tryz.sizeOf0
 v0:=Tryz.zeroValue0
 t3:=Tryz.underlying3
 a3:=Tryz.isAgg3
 z3:=Tryz.sizeOf3
 v3:=Tryz.zeroValue3
 t4:=Tryz.underlying4
 a4:=Tryz.isAgg4
 z4:=Tryz.sizeOf4
 v4:=Tryz.zeroValue4
 t5:=Tryz.underlying5
 a5:=Tryz.isAgg5
 z5:=Tryz.sizeOf5
 v5:=Tryz.zeroValue5
 t9:=Tryz.underlying9
 a9:=Tryz.isAgg9
 z9:=Tryz.sizeOf9
 v9:=Tryz.zeroValue9
 t22:=Tryz.underlying26
 a22:=Tryz.isAgg26
 z22:=Tryz.sizeOf26
 v22:=Tryz.zeroValue26
 t25:=Tryz.underlying158
 a25:=Tryz.isAgg158
 z25:=Tryz.sizeOf158
 v25:=Tryz.zeroValue158
 t39:=Tryz.underlying176
 a39:=Tryz.isAgg176
 z39:=Tryz.sizeOf176
 v39:=Tryz.zeroValue176
 t45:=Tryz.underlying187
 a45:=Tryz.isAgg187
 z45:=Tryz.sizeOf187
 v45:=Tryz.zeroValue187
 t46:=Tryz.underlying188
 a46:=Tryz.isAgg188
 z46:=Tryz.sizeOf188
 v46:=Tryz.zeroValue188
 t50:=Tryz.underlying192
 a50:=Tryz.isAgg192
 z50:=Tryz.sizeOf192
 v50:=Tryz.zeroValue192
 t53:=Tryz.underlying195
 a53:=Tryz.isAgg195
 z53:=Tryz.sizeOf195
 v53:=Tryz.zeroValue195
 t55:=Tryz.underlying183
 a55:=Tryz.isAgg183
 z55:=Tryz.sizeOf183
 v55:=Tryz.zeroValue183
 t66:=Tryz.underlying214
 a66:=Tryz.isAgg214
 z66:=Tryz.sizeOf214
 v66:=Tryz.zeroValue214
 t70:=Tryz.underlying218
 a70:=Tryz.isAgg218
 z70:=Tryz.sizeOf218
 v70:=Tryz.zeroValue218
 t76:=Tryz.underlying228
 a76:=Tryz.isAgg228
 z76:=Tryz.sizeOf228
 v76:=Tryz.zeroValue228
 t77:=Tryz.underlying131
 a77:=Tryz.isAgg131
 z77:=Tryz.sizeOf131
 v77:=Tryz.zeroValue131 }
end Go.Proofs
set_option linter.unusedSimpArgs false
set_option linter.unusedVariables false
namespace Go.Proofs.YtmegoiaijfeilaaGreatDoor
open Go.RowKit Lim
theorem lt_cmpP (p q:Int × Int):ltOf cmpP p q=decide (p.1<q.1∨p.1=q.1∧p.2<q.2):=by
 unfold ltOf cmpP orI cmpI
 by_cases h1:p.1<q.1
 ·simp [h1]
 ·by_cases h2:q.1<p.1
  ·have:¬p.1=q.1:=by omega
   simp [h1,h2,this]
  ·have:p.1=q.1:=by omega
   by_cases h3:p.2<q.2
   ·simp [h1,h2,this,h3]
   ·by_cases h4:q.2<p.2 <;> simp [h1,h2,this,h3,h4]
theorem swoP:Sort.SWO (ltOf cmpP) where
 irrefl x:=by rw [lt_cmpP];simp
 trans x y z h1 h2:=by rw [lt_cmpP]at *;simp at *;omega
 ntrans x y z h1 h2:=by rw [lt_cmpP]at *;simp at *;omega
theorem totP (x y:Int × Int) (h1:ltOf cmpP x y=false) (h2:ltOf cmpP y x=false):x=y:=by
 rw [lt_cmpP]at *
 simp at *
 obtain ⟨a,b⟩:=x
 obtain ⟨c,d⟩:=y
 simp at *
 omega
def sortP (l:List (Int × Int)):List (Int × Int):=l.mergeSort fun x y=>!ltOf cmpP y x
theorem sortP_len (l:List (Int × Int)):(sortP l).length=l.length:=by simp [sortP]
theorem cmp_lays (blk off size:Nat) (w:World):CmpLays Tryz.prog 95 #[] prVs 2 cmpP blk off size w:=fun _ _ _ _ x y=>norm1_w x y _
theorem holds_own {w:World} {B g n cap:Nat} {l:List (Int × Int)} (h:w.ownsRow B tPair 2 (.slice (some ⟨g,0,none⟩) n cap) l.length (rowVs prVs l)) (hb:∃cur,w.heap[g]? = some (.cells cur tPair (0,0))):Sort.HoldsK prVs 2 w g 0 l.toArray:=by
 obtain ⟨cur,hb⟩:=hb
 intro j hj
 have hj:j<l.length*2:=by simpa using hj
 refine ⟨?_,frozen_of_row _ _ _ _ _ hb⟩
 have h1:j / 2<l.length:=by omega
 have h2:j % 2<2:=Nat.mod_lt _ (by omega)
 have e:=rowVs_get prVs_len l (j / 2) (j % 2) h1 h2
 rw [show j / 2*2+j % 2=j by omega]at e
 have hl:j % 2<(prVs l[j / 2]).length:=h2
 rw [List.getElem?_eq_getElem hl]at e
 have:=h.cells (g:=g) rfl j _ e
 rw [show (⟨g,0,none⟩:Addr).add j=⟨g,j,none⟩by unfold Addr.add;split <;> simp_all]at this
 rw [Nat.zero_add,this,Sort.get_flatK _ _ _ _ (by simpa using hj)]
 congr 1
 show _=(prVs (l.toArray[j / 2]!))[j % 2]!
 rw [getElem!_pos l.toArray (j / 2) (by simpa using h1),getElem!_pos _ _ (by exact hl)]
 rfl
theorem sortW_grown {α:Type} [Inhabited α] (enc:α→List Value) (k:Nat) (w:World) (g off n:Nat) (d:Array α) (os:Array Obj):w.grownBy (sortWorldK enc k w g off n d os) (some g):=by
 refine ⟨rfl,rfl,rfl,?_,fun j hj hne=>?_⟩
 ·simp [sortWorldK,Sort.grow,Sort.putRowK,Sort.putRow,Sort.mapBlock,Sort.ahead]
 ·have hne:g≠j:=fun e=>hne (by rw [e])
  simp only [sortWorldK,Sort.grow,Sort.putRowK,Sort.putRow,Sort.mapBlock,Sort.ahead]
  rw [Array.getElem?_append_left (by simpa using hj),Array.getElem?_modify,if_neg hne]
theorem sort_w {w:World} {B g cap:Nat} {l:List (Int × Int)} (hl:0<l.length) (hsz:l.length<4611686018427387904) (h:w.ownsRow B tPair 2 (.slice (some ⟨g,0,none⟩) l.length cap) l.length (rowVs prVs l)) :
  Calls Tryz.prog 94 #[.slice (some ⟨g,0,none⟩) l.length cap,.func (.func 95) #[] #[]] w fun e w'=>e=.returned (.tuple #[])∧w.grownBy w' (some g)∧(∀o,w'.frozen? ⟨g,o,none⟩=false)∧∀i (hi:i<(sortP l).length),At w' g i (sortP l)[i]:=by
 obtain ⟨cur,hb⟩:∃cur,w.heap[g]? = some (.cells cur tPair (0,0)):=by
  rcases h.2 with ⟨h0,_⟩|⟨g',cap',cur,e,_,hb,_⟩
  ·cases h0
  ·cases e;exact ⟨cur,hb⟩
 have hblk:g<w.heap.size:=(Array.getElem?_eq_some_iff.1 hb).1
 have hH:=holds_own h ⟨cur,hb⟩
 have eg:∀args w,(callFunc 95 args).run Tryz.prog w=.ok (.enter 95 args) w:=enters_of Tryz.func95 (by kernel_rfl) rfl
 have hcon:=AnyQ.slices_SortFunc_total Tryz.sortPr 2 Tryz.isAgg64 Tryz.sizeOf64 prVs prVs_len prVs_one cmpP swoP 95 #[] g 0 cap l.toArray w eg (cmp_lays g 0 l.toArray.size w) hH hblk (by simpa using hsz) totP
 rw [show l.toArray.size=l.length by simp]at hcon
 refine Calls.mono (show Calls Tryz.prog 94 _ w _ from hcon) ?_
 rintro e w' ⟨rfl,n,os,rfl⟩
 have hfin:=holdsK_sortWorldK_c prVs 2 w g 0 l.toArray (sortP l).toArray n os hH hblk (by simp [sortP_len])
 refine ⟨rfl,sortW_grown _ _ _ _ _ _ _ _,fun o=>?_,fun i hi=>?_⟩
 ·have hf:w.frozen? ⟨g,o,none⟩=false:=frozen_of_row _ _ _ _ _ hb
  have hs:g<(Sort.putRowK prVs 2 (Sort.ahead w n) g 0 (sortP l).toArray).heap.size:=by simpa [Sort.putRowK,Sort.putRow,Sort.mapBlock,Sort.ahead]using hblk
  rw [←hf]
  show World.frozen? (Sort.grow (Sort.putRowK prVs 2 (Sort.ahead w n) g 0 (sortP l).toArray) os) _=_
  refine Eq.trans (b:=(Sort.putRowK prVs 2 (Sort.ahead w n) g 0 (sortP l).toArray).frozen? ⟨g,o,none⟩) ?_ ?_
  ·refine World.frozen?_of_block ?_
   show ((Sort.putRowK prVs 2 (Sort.ahead w n) g 0 (sortP l).toArray).heap ++ os:Array Obj)[g]? = _
   rw [Array.getElem?_append_left hs]
  ·exact Sort.frozen?_putRow _ _ _ _ _ _
 ·have hi':i<(sortP l).toArray.size:=by simpa using hi
  have a0:=(hfin.cell hi' (c:=0) (by omega)).1
  have a1:=(hfin.cell hi' (c:=1) (by omega)).1
  rw [getElem!_pos (sortP l).toArray i hi']at a0 a1
  rw [show 0+i*2+0=i*2 by omega]at a0
  rw [show 0+i*2+1=i*2+1 by omega]at a1
  exact ⟨a0,a1⟩
end Go.Proofs.YtmegoiaijfeilaaGreatDoor
set_option linter.unusedSimpArgs false
set_option linter.unusedVariables false
namespace Go.Proofs.YtmegoiaijfeilaaGreatDoor
open Go.RowKit Lim
def normPre (l:List (Int × Int)):List (Int × Int):=(l.filter fun p=>p.1 != p.2).map ordP
def normE (l:List (Int × Int)):List (Int × Int):=uniqP (sortP (normPre l))
theorem normPre_len (l:List (Int × Int)):(normPre l).length≤l.length:=by
 unfold normPre
 rw [List.length_map]
 exact List.length_filter_le _ _
theorem normPre_step {l:List (Int × Int)} {k:Nat} (hk:k<l.length):normPre (l.take (k+1))=normPre (l.take k) ++ if (l[k]).1=(l[k]).2 then [] else [ordP l[k]]:=by
 unfold normPre
 rw [List.take_succ_eq_append_getElem hk,List.filter_append,List.map_append]
 congr 1
 by_cases h:(l[k]).1=(l[k]).2
 ·rw [if_pos h,List.filter_cons_of_neg (by simpa using h)];rfl
 ·rw [if_neg h,List.filter_cons_of_pos (by simpa using h)];rfl
theorem at_rep {w:World} {Z:Zone} {g cap:Nat} {l:List (Int × Int)} (hg:g<w.heap.size) (hc:l.length≤cap) (hZ:∀o,Z g o) (h:∀i (hi:i<l.length),At w g i l[i]):Rep w Z (.sl 2 (l.map prA)) (.slice (some ⟨g,0,none⟩) l.length cap):=by
 have key:Rep w Z (.sl 2 (l.map prA)) (.slice (some ⟨g,0,none⟩) (l.map prA).length cap):=by
  refine .sl (fun i j=>((rowVs prVs l)[i*2+j]?).getD undef) hg (by simpa using hc) (fun i hi=>by simp [AV.cells]) (fun i j hi hj=>⟨?_,hZ _⟩) (fun i hi j hj=>?_)
  ·have hi':i<l.length:=by simpa using hi
   obtain ⟨a0,a1⟩:=h i hi'
   rw [rowVs_get prVs_len l i j hi' hj]
   match j,hj with
   | 0,_=>rw [show 0+i*2+0=i*2 by omega];exact a0
   | 1,_=>rw [show 0+i*2+1=i*2+1 by omega];exact a1
  ·have hi':i<l.length:=by simpa using hi
   have hj':j<2:=by simpa [AV.cells]using hj
   rw [rowVs_get prVs_len l i j hi' hj']
   simp only [List.getElem_map,AV.cells]
   match j,hj' with
   | 0,_=>exact .lit rfl
   | 1,_=>exact .lit rfl
 rw [List.length_map]at key
 exact key
theorem grown_below {w w1 w2:World} {g:Nat} (hb:Below w.heap.size w w1) (hg:w1.grownBy w2 (some g)) (hB:w.heap.size≤g):Below w.heap.size w w2 :=
 ⟨hg.os.trans hb.os,hg.tape.trans hb.tape,hg.output.trans hb.output,Nat.le_trans hb.size hg.size,fun k hk=>(hg.block k (Nat.lt_of_lt_of_le hk hb.size) (fun e=>by cases e;omega)).trans (hb.block k hk)⟩
theorem sort_none (p:Option Addr) (cap:Nat) (w:World):Calls Tryz.prog 94 #[.slice p 0 cap,.func (.func 95) #[] #[]] w fun e w'=>e=.returned (.tuple #[])∧w'=w:=AnyF.slices_SortFunc_none Tryz.sortPr p cap _ w
theorem compact_none (p:Option Addr) (cap:Nat) (w:World):Calls Tryz.prog 98 #[.slice p 0 cap] w fun e w'=>e=.returned (.slice p 0 cap)∧w'=w:=by
 go_enter Tryz.func98,Tryz.ntmps98
 go_wp2
 go_ret
 exact ⟨rfl,rfl⟩
set_option maxHeartbeats 4000000 in
set_option maxRecDepth 100000 in
theorem norm_c (l:List (Int × Int)) (hl:l.length≤1048576):AT 71 [.sl 2 (l.map prA)] (.sl 2 ((normE l).map prA)):=by
 refine ⟨⟨_,Tryz.func71,by kernel_rfl,by kernel_rfl⟩,fun w Z vs hE hz _ hrep=>?_⟩
 obtain ⟨_,rfl,q1⟩:=reps1 hrep
 obtain ⟨A,c,rfl,hc,hget⟩:=row_cells prVs_len prA_cells q1
 clear hrep q1
 change Calls Tryz.prog _ _ w _
 have hinf:(Tryz.prog.info? 64).map (fun i=>(i.zero,i.size,i.bytes))=some (some (.agg #[.int .i64 0,.int .i64 0]),2,16):=by kernel_rfl
 obtain ⟨i0,hi,hz0,hz1,hz2⟩:=info_parts hinf
 have hlen:((l.length:Nat):Int)≤1048576:=by omega
 obtain ⟨N,hN⟩:∃N,normE l=N:=⟨_,rfl⟩
 rw [hN]
 go_enter Tryz.func71,Tryz.ntmps71
 go_wp2
 go_loopw [3,8] (fun v i wl=>∃k:Nat,i=.int .i64 k∧k≤l.length∧wl.ownsRow w.heap.size tPair 2 v (normPre (l.take k)).length (rowVs prVs (normPre (l.take k)))∧Below w.heap.size w wl) (fun _ i _=>l.length-(intOf i).toNat)
 case atStart=>exact ⟨0,rfl,Nat.zero_le _,World.ownsRow_nil _ _ _ _,Below.refl _ _⟩
 case round =>
  obtain ⟨k,rfl,hk,hown,hbw⟩:=hrel
  by_cases hlt:k<l.length
  ·obtain ⟨b,off,rfl,hcell⟩:=hget k hlt
   have step:=normPre_step hlt
   have hpl:=normPre_len (l.take k)
   have hpl2:(normPre (l.take k)).length≤1048576:=by rw [List.length_take]at hpl;omega
   clear hget hpl
   generalize l[k]=p at *
   obtain ⟨a1,a2⟩:=p
   have d0:=(hbw.cell (p:=⟨b,off+k*2+0,none⟩) (World.block_lt_of_cell? w _ (hcell 0 _ rfl))).trans (hcell 0 _ rfl)
   have d1:=(hbw.cell (p:=⟨b,off+k*2+1,none⟩) (World.block_lt_of_cell? w _ (hcell 1 _ rfl))).trans (hcell 1 _ rfl)
   rw [Nat.add_zero]at d0
   clear hcell
   have g1:((k:Nat):Int)<((l.length:Nat):Int):=by omega
   by_cases hab:a1=a2
   ·subst hab
    rw [if_pos rfl,List.append_nil]at step
    go_wp2
    refine ⟨⟨k+1,by simp,by omega,?_,hbw.alloc hbw.size _⟩,?_⟩
    ·rw [step];exact hown.alloc _
    ·simp only [intOf]
     omega
   ·rw [if_neg hab]at step
    have g2:(a1 == a2)=false:=by simpa using hab
    generalize hP:normPre (l.take k)=P at *
    go_wp2_with (first|(go_at_call 93;refine (ordered_w a1 a2 _).mono ?_))
    rintro e w2 rfl hb2
    obtain ⟨o1,o2,ho⟩:∃o1 o2,ordP (a1,a2)=(o1,o2):=⟨_,_,rfl⟩
    rw [ho]at step
    rw [ho,show (prVs (o1,o2)).toArray=#[.int .i64 o1,.int .i64 o2]from rfl]
    have hB2:Below w.heap.size w w2:=(hbw.alloc hbw.size _).trans (hb2.mono (by have:=hbw.size;omega))
    have hown2:w2.ownsRow w.heap.size tPair 2 _ P.length (rowVs prVs P):=own_at (hown.alloc _) fun g _ hg=>hb2.block g (by simpa using hg)
    go_wp2_with (at_builtin;refine wpList_append_own _ rfl _ _ 26 rfl w.heap.size tPair i0 (.agg #[.int .i64 0,.int .i64 0]) 2 16 Tryz.underlying26 hi hz0 hz1 hz2 rfl (by decide) _ _ _ rfl (hown2.alloc _) _ _ _ (prVs (o1,o2)) rfl rfl ?c1 ?c2 ?c3 ?c4 ?c5 ?_)
    case c1 =>
     intro j u hj
     have hb:=heap_alloc_new w2 (.cells #[.int .i64 o1,.int .i64 o2] tPair)
     rw [show (⟨w2.heap.size,0,none⟩:Addr).add j=⟨w2.heap.size,j,none⟩by unfold Addr.add;split <;> simp_all]
     rw [Lib.cell_of_heap hb]
     simpa [prVs]using hj
    case c2=>exact prVs_one _
    case c3=>unfold maxLen;omega
    case c4=>omega
    case c5=>have:=hB2.size;simp;omega
    intro v' w3 hown3 hgrow _
    rw [rowVs_app]at hown3
    have hB3:Below w.heap.size w w3:=(hB2.alloc hB2.size _).grown hgrow (by have:=hB2.size;simp;omega) fun q hq=>(own_zone hown2 hq).1
    go_wp2
    refine ⟨⟨k+1,by simp,by omega,?_,hB3⟩,?_⟩
    ·rw [step,List.length_append]
     exact hown3
    ·simp only [intOf]
     omega
  ·obtain rfl:k=l.length:=by omega
   rw [List.take_length]at hown
   have g1:¬((l.length:Nat):Int)<((l.length:Nat):Int):=by omega
   have hpl:=normPre_len l
   unfold normE at hN
   generalize normPre l=P at *
   by_cases h0:P.length=0
   ·obtain rfl:=List.length_eq_zero_iff.1 h0
    have hN:N=[]:=by rw [←hN];simp [sortP,uniqP,uniqL]
    subst hN
    obtain ⟨p,cap,rfl⟩:∃p cap,u3=.slice p 0 cap:=by
     rcases hown.2 with ⟨e,_⟩|⟨g,cap,cur,e,_⟩
     ·exact ⟨_,_,e⟩
     ·exact ⟨_,_,e⟩
    go_wp2_with (first|(go_at_call 94;refine (sort_none p cap wr).mono ?_;rintro e w2 ⟨rfl,rfl⟩)|(go_at_call 98;refine (compact_none p cap _).mono ?_;rintro e w2 ⟨rfl,rfl⟩))
    go_ret
    exact ⟨_,rfl,hbw,.nil⟩
   ·have hcap:∃g cap,u3=.slice (some ⟨g,0,none⟩) P.length cap∧w.heap.size≤g∧P.length≤cap∧cap≤maxLen∧g<wr.heap.size:=by
     rcases hown.2 with ⟨_,h1⟩|⟨g,cap,cur,e,a2,a3,a4,a5,_⟩
     ·exact absurd h1 h0
     ·exact ⟨g,cap,e,a2,a4,a5,(Array.getElem?_eq_some_iff.1 a3).1⟩
    obtain ⟨g,cap,rfl,hg1,hg2,hg3,hg4⟩:=hcap
    have p0:0<P.length:=by omega
    have p1:P.length<4611686018427387904:=by omega
    have p2:cap≤9223372036854775807:=by unfold maxLen at hg3;omega
    clear hg3
    go_wp2_with (go_at_call 94;refine (sort_w p0 p1 hown).mono ?_)
    rintro e w2 rfl hgr2 hfz2 hat2
    go_wp2_with (go_at_call 98;refine (compact_n (sortP_len P) hg2 p2 hat2 hfz2).mono ?_)
    rintro e w3 ⟨rfl,hgr3,hat3⟩
    go_wp2
    go_ret
    have hB2:=grown_below hbw hgr2 hg1
    have hB3:=grown_below hB2 hgr3 hg1
    have hu:(uniqP (sortP P)).length≤cap:=by
     have:=uniq_le (sortP P) none
     rw [sortP_len]at this
     exact Nat.le_trans this hg2
    subst hN
    refine ⟨_,rfl,hB3,at_rep (Nat.lt_of_lt_of_le hg4 (Nat.le_trans hgr2.size hgr3.size)) hu (fun o=>.inr ⟨hg1,Nat.lt_of_lt_of_le hg4 (Nat.le_trans hgr2.size hgr3.size)⟩) hat3⟩
end Go.Proofs.YtmegoiaijfeilaaGreatDoor
set_option linter.unusedSimpArgs false
set_option linter.unusedVariables false
namespace Go.Proofs.YtmegoiaijfeilaaGreatDoor
open Go.RowKit Lim
def mapE (ids:List Int):List (Value × AV):=ids.foldl (fun m i=>mputA m (.int .i64 i) (boo true)) []
theorem mapE_app (ids:List Int) (x:Int):mapE (ids ++ [x])=mputA (mapE ids) (.int .i64 x) (boo true):=by simp [mapE]
theorem mget_put (i x:Int) (y:AV):∀m:List (Value × AV),mgetA (mputA m (.int .i64 i) y) (.int .i64 x)=if x=i then some y else mgetA m (.int .i64 x)
 | []=>by
  by_cases h:x=i
  ·subst h;simp [mputA,mgetA,keyEq]
  ·simp [mputA,mgetA,keyEq,h]
 | p :: l=>by
  unfold mputA
  by_cases hp:keyEq (.int .i64 i) p.1=true
  ·rw [if_pos hp]
   obtain ⟨pk,pv⟩:=p
   cases pk <;> first|(cases hp;done)|skip
   simp only [keyEq,Bool.and_eq_true,decide_eq_true_eq,beq_iff_eq]at hp
   obtain ⟨rfl,rfl⟩:=hp
   by_cases h:x=i
   ·subst h;simp [mgetA,keyEq]
   ·simp [mgetA,keyEq,h]
  ·rw [if_neg hp]
   unfold mgetA
   rw [mget_put i x y l]
   by_cases hx:keyEq (.int .i64 x) p.1=true
   ·rw [if_pos hx,if_pos hx]
    have:x≠i:=fun e=>hp (e ▸ hx)
    rw [if_neg this]
   ·rw [if_neg hx,if_neg hx]
theorem mget_mapE (ids:List Int) (x:Int):mgetA (mapE ids) (.int .i64 x)=if x∈ids then some (boo true) else none:=by
 have key:∀(ids:List Int) (m:List (Value × AV)),mgetA (ids.foldl (fun m i=>mputA m (.int .i64 i) (boo true)) m) (.int .i64 x)=if x∈ids then some (boo true) else mgetA m (.int .i64 x):=by
  intro ids
  induction ids with
  | nil=>intro m;simp
  | cons i ids ih =>
   intro m
   rw [List.foldl_cons,ih,mget_put]
   by_cases h1:x∈ids
   ·simp [h1]
   ·by_cases h2:x=i <;> simp [h1,h2]
 exact key ids []
def conflE (l:List (Int × Int)) (ids:List Int):List (Int × Int):=(normE l).filter fun p=>decide (p.1∈ids) && decide (p.2∈ids)
theorem filt_step {α:Type} (f:α→Bool) {l:List α} {k:Nat} (hk:k<l.length):(l.take (k+1)).filter f=(l.take k).filter f ++ if f l[k]=true then [l[k]] else []:=by
 rw [List.take_succ_eq_append_getElem hk,List.filter_append]
 congr 1
 by_cases h:f l[k]=true
 ·rw [if_pos h,List.filter_cons_of_pos h];rfl
 ·rw [if_neg h,List.filter_cons_of_neg h];rfl
abbrev mT:TypeId:=119
abbrev noZ:Zone:=fun _ _=>False
theorem noKeeps {w w':World} (h:w.heap.size≤w'.heap.size):Keeps noZ w w':=⟨h,fun _ _ _ h=>h.elim⟩
theorem look_w {w:World} {g:Nat} {es:Array MapEntry} {clock:Nat} {ids:List Int} (hb:w.heap[g]? = some (.map es clock)) (hm:MapR w noZ (.int .i64) (mapE ids) es.toList) (x:Int):(Instr.lookup mT (.map (some g)) (.int .i64 x) false).run Tryz.prog w=.ok (.bool (decide (x∈ids))) w:=by
 obtain ⟨v,h1,h2⟩:=lookup_run (P:=Tryz.prog) (kd:=.int .i64) (ty:=mT) (q:=.int .i64 x) (zv:=.bool false) (a0:=boo false) Tryz.underlying119 Tryz.underlying3 rfl hb hm rfl (Tryz.zeroValue4 w) (.lit rfl) false
 rw [h1]
 have e:(mgetA (mapE ids) (.int .i64 x)).getD (boo false)=boo (decide (x∈ids)):=by
  rw [mget_mapE]
  by_cases h:x∈ids <;> simp [h]
 rw [cond_false,e]at h2
 rw [h2.lit_eq]
set_option maxHeartbeats 4000000 in
set_option maxRecDepth 100000 in
theorem confl_c (l:List (Int × Int)) (ids:List Int) (hl:l.length≤1048576) (hi:ids.length≤1048576):AT 46 [.sl 2 (l.map prA),.sl 1 (ids.map fun z=>i64 z)] (.sl 2 ((conflE l ids).map prA)):=by
 refine ⟨⟨_,Tryz.func46,by kernel_rfl,by kernel_rfl⟩,fun w Z vs hE hz _ hrep=>?_⟩
 obtain ⟨v1,v2,rfl,q1,q2⟩:=reps2 hrep
 obtain ⟨A,c,rfl,hget⟩:=q2.row1 (fun d hd=>by obtain ⟨n,_,rfl⟩:=List.mem_map.1 hd;rfl)
 rw [List.length_map]at *
 change Calls Tryz.prog _ _ w _
 have hinf:(Tryz.prog.info? 64).map (fun i=>(i.zero,i.size,i.bytes))=some (some (.agg #[.int .i64 0,.int .i64 0]),2,16):=by kernel_rfl
 obtain ⟨i0,hi0,hz0,hz1,hz2⟩:=info_parts hinf
 have hlen:((ids.length:Nat):Int)≤1048576:=by omega
 have hmm:=@run_makeMap Tryz.prog
 obtain ⟨R,hR⟩:∃R,conflE l ids=R:=⟨_,rfl⟩
 rw [hR]
 go_enter Tryz.func46,Tryz.ntmps46
 go_wp2
 clear hmm
 go_loopw [14] (fun i wl=>∃k:Nat,i=.int .i64 k∧k≤ids.length∧Below w.heap.size w wl∧∃es clock,wl.heap[w.heap.size]? = some (.map es clock)∧MapR wl noZ (.int .i64) (mapE (ids.take k)) es.toList) (fun i _=>ids.length-(intOf i).toNat)
 case atStart=>exact ⟨0,rfl,Nat.zero_le _,(Below.refl _ _).alloc (Nat.le_refl _) _,#[],0,heap_alloc_new w _,trivial⟩
 case round =>
  obtain ⟨k,rfl,hk,hbw,es,clock,hes,hm⟩:=hrel
  by_cases hlt:k<ids.length
  ·obtain ⟨b,off,u,rfl,hcl,hzc,hru⟩:=hget k (by rw [List.length_map];exact hlt)
   rw [List.getElem_map]at hru
   obtain rfl:=hru.lit_eq
   have hcl':=(hbw.cell (p:=⟨b,off+k,none⟩) (World.block_lt_of_cell? w _ hcl)).trans hcl
   have g1:((k:Nat):Int)<((ids.length:Nat):Int):=by omega
   obtain ⟨es',clock',hu,hm'⟩:=update_run (P:=Tryz.prog) (kd:=.int .i64) (ty:=mT) (q:=.int .i64 ids[k]) (y:=boo true) (v:=.bool true) Tryz.underlying119 Tryz.underlying3 rfl hes hm rfl (.lit rfl)
   rw [←mapE_app]at hm'
   rw [show ids.take k ++ [ids[k]]=ids.take (k+1)from (List.take_succ_eq_append_getElem hlt).symm]at hm'
   have hmb:w.heap.size<wr.heap.size:=(Array.getElem?_eq_some_iff.1 hes).1
   go_wp2
   refine ⟨⟨k+1,by simp,by omega,⟨hbw.os,hbw.tape,hbw.output,by simpa using hbw.size,fun j hj=>?_⟩,es',clock',?_,hm'.keep (noKeeps (by simp)) fun _ _ h=>h⟩,?_⟩
   ·show (wr.heap.setIfInBounds w.heap.size _)[j]? = _
    rw [Array.getElem?_setIfInBounds_ne (by omega)]
    exact hbw.block j hj
   ·show (wr.heap.setIfInBounds w.heap.size _)[w.heap.size]? = _
    rw [Array.getElem?_setIfInBounds_self_of_lt hmb]
   ·simp only [intOf]
    omega
  ·obtain rfl:k=ids.length:=by omega
   rw [List.take_length]at hm
   have g1:¬((ids.length:Nat):Int)<((ids.length:Nat):Int):=by omega
   have hmb:w.heap.size<wr.heap.size:=(Array.getElem?_eq_some_iff.1 hes).1
   clear hget
   go_wp2_with (go_at_call 71;refine (at_call hE (norm_c l hl) wr Z _ hbw (fun b o h=>Nat.lt_of_lt_of_le (hz b o h) hbw.size) (rep_1 (q1.keep (Keeps.ofBelow hbw) fun _ _ h=>h))).mono ?_)
   rintro e w2 x rfl hb2 hr2
   obtain ⟨A2,c2,rfl,hc2,hget⟩:=row_cells prVs_len prA_cells hr2
   clear hr2
   have hB2:=hbw.trans (hb2.mono hbw.size)
   have hes2:w2.heap[w.heap.size]? = some (.map es clock):=by rw [hb2.block _ hmb];exact hes
   have hm2:MapR w2 noZ (.int .i64) (mapE ids) es.toList:=hm.keep (noKeeps hb2.size) fun _ _ h=>h
   have hNl:(normE l).length≤1048576:=by
    have h1:=uniq_le (sortP (normPre l)) none
    rw [sortP_len]at h1
    exact Nat.le_trans h1 (Nat.le_trans (normPre_len l) hl)
   unfold conflE at hR
   generalize normE l=N at *
   have hNi:((N.length:Nat):Int)≤1048576:=by omega
   have hm0:w.heap.size<w2.heap.size:=Nat.lt_of_lt_of_le hmb hb2.size
   clear hm hes hbw hb2
   go_wp2
   go_loopw [8,24] (fun v i wl=>∃k:Nat,i=.int .i64 k∧k≤N.length∧Below w2.heap.size w2 wl∧wl.ownsRow w2.heap.size tPair 2 v ((N.take k).filter fun p=>decide (p.1∈ids) && decide (p.2∈ids)).length (rowVs prVs ((N.take k).filter fun p=>decide (p.1∈ids) && decide (p.2∈ids)))) (fun _ i _=>N.length-(intOf i).toNat)
   case atStart=>exact ⟨0,rfl,Nat.zero_le _,Below.refl _ _,World.ownsRow_nil _ _ _ _⟩
   case round =>
    obtain ⟨k,rfl,hk,hbl,hown⟩:=hrel
    by_cases hlt:k<N.length
    ·obtain ⟨b,off,rfl,hcell⟩:=hget k hlt
     have step:(N.take (k+1)).filter (fun p=>decide (p.1∈ids) && decide (p.2∈ids))=(N.take k).filter (fun p=>decide (p.1∈ids) && decide (p.2∈ids)) ++ if (decide ((N[k]).1∈ids) && decide ((N[k]).2∈ids))=true then [N[k]] else []:=filt_step (fun p:Int × Int=>decide (p.1∈ids) && decide (p.2∈ids)) hlt
     have hpl:((N.take k).filter fun p=>decide (p.1∈ids) && decide (p.2∈ids)).length≤1048576:=by
      have:=List.length_filter_le (fun p:Int × Int=>decide (p.1∈ids) && decide (p.2∈ids)) (N.take k)
      rw [List.length_take]at this
      omega
     generalize (N.take k).filter (fun p=>decide (p.1∈ids) && decide (p.2∈ids))=P at *
     generalize N[k]=p at *
     obtain ⟨a1,a2⟩:=p
     have d0:=(hbl.cell (p:=⟨b,off+k*2+0,none⟩) (World.block_lt_of_cell? w2 _ (hcell 0 _ rfl))).trans (hcell 0 _ rfl)
     have d1:=(hbl.cell (p:=⟨b,off+k*2+1,none⟩) (World.block_lt_of_cell? w2 _ (hcell 1 _ rfl))).trans (hcell 1 _ rfl)
     rw [Nat.add_zero]at d0
     clear hcell hget
     have g1:((k:Nat):Int)<((N.length:Nat):Int):=by omega
     have hbls:=hbl.size
     have hesA:(wr.alloc (.cells #[.int .i64 a1,.int .i64 a2] tPair)).heap[w.heap.size]? = some (.map es clock):=by
      rw [Lib.alloc_old _ _ _ (by omega),hbl.block _ hm0]
      exact hes2
     have hmA:MapR (wr.alloc (.cells #[.int .i64 a1,.int .i64 a2] tPair)) noZ (.int .i64) (mapE ids) es.toList:=hm2.keep (noKeeps (by simp;omega)) fun _ _ h=>h
     have L1:=look_w hesA hmA a1
     have L2:=look_w hesA hmA a2
     clear hesA hmA
     have hB1:Below w2.heap.size w2 (wr.alloc (.cells #[.int .i64 a1,.int .i64 a2] tPair)):=hbl.alloc hbls _
     by_cases h1:a1∈ids
     ·rw [decide_eq_true h1]at L1 step
      by_cases h2:a2∈ids
      ·rw [decide_eq_true h2]at L2 step
       rw [if_pos (by decide)]at step
       go_wp2_with (at_builtin;refine wpList_append_own _ rfl _ _ 26 rfl w2.heap.size tPair i0 (.agg #[.int .i64 0,.int .i64 0]) 2 16 Tryz.underlying26 hi0 hz0 hz1 hz2 rfl (by decide) _ _ _ rfl ((hown.alloc _).alloc _) _ _ _ (prVs (a1,a2)) rfl rfl ?c1 ?c2 ?c3 ?c4 ?c5 ?_)
       case c1 =>
        intro j u hj
        simpa [prVs]using hj
       case c2=>exact prVs_one _
       case c3=>unfold maxLen;omega
       case c4=>omega
       case c5=>omega
       intro v' w3 hown3 hgrow _
       rw [rowVs_app]at hown3
       have hB3:Below w2.heap.size w2 w3:=(hB1.alloc hB1.size _).grown hgrow (by simp;omega) fun q hq=>(own_zone hown hq).1
       go_wp2
       refine ⟨⟨k+1,by simp,by omega,hB3,?_⟩,?_⟩
       ·rw [step,List.length_append]
        exact hown3
       ·simp only [intOf]
        omega
      ·rw [decide_eq_false h2]at L2 step
       rw [if_neg (by decide),List.append_nil]at step
       go_wp2
       refine ⟨⟨k+1,by simp,by omega,hB1,?_⟩,?_⟩
       ·rw [step];exact hown.alloc _
       ·simp only [intOf]
        omega
     ·rw [decide_eq_false h1]at L1 step
      rw [if_neg (by simp),List.append_nil]at step
      go_wp2
      refine ⟨⟨k+1,by simp,by omega,hB1,?_⟩,?_⟩
      ·rw [step];exact hown.alloc _
      ·simp only [intOf]
       omega
    ·obtain rfl:k=N.length:=by omega
     rw [List.take_length,hR]at hown
     have g1:¬((N.length:Nat):Int)<((N.length:Nat):Int):=by omega
     go_wp2
     go_ret
     have hBl:=hbl.size
     refine ⟨_,rfl,hB2.trans (hbl.mono hB2.size),row_rep prVs_len prA_cells prVs_one hown fun g hg o=>.inr ⟨?_,(own_zone hown hg).2⟩⟩
     have:=(own_zone hown hg).1
     omega
end Go.Proofs.YtmegoiaijfeilaaGreatDoor
set_option linter.unusedSimpArgs false
set_option linter.unusedVariables false
namespace Go.Proofs.YtmegoiaijfeilaaGreatDoor
open Go.RowKit Lim
abbrev rowsA (rows:List (List Int)):AV:=.sl 1 (rows.map fun r=>AV.sl 1 (r.map fun z=>i64 z))
abbrev itC (y:PI):List AV:=[i64 y.1,str y.2.1,i64 y.2.2.1,i64 y.2.2.2.1,i64 y.2.2.2.2.1,i64 y.2.2.2.2.2.1,i64 y.2.2.2.2.2.2.1,i64 y.2.2.2.2.2.2.2.1,rowsA y.2.2.2.2.2.2.2.2]
abbrev itA (y:PI):AV:=.agg (itC y)
theorem sel1_c (y:PI) (id:Int):AT 67 [itA y,.ptr [i64 id]] (boo (y.1 == id)):=by
 generalize rowsA y.2.2.2.2.2.2.2.2=R
 refine ACalls.of ⟨4,[],[]⟩ (fn:=Tryz.f67) Tryz.func67 rfl rfl rfl (by kernel_rfl) (by kernel_rfl) (Nat.le_of_ble_eq_true rfl) ?_
 simp (maxSteps:=1000000) -implicitDefEqProofs only [go_sem,awp_seq,Nat.reduceBEq,Nat.reduceAdd,Nat.reduceLT]
def idxI (p:PI→Bool):List PI→Nat→Int
 | [],_=>-1
 | y :: l,k=>if p y then (k:Int) else idxI p l (k+1)
set_option maxHeartbeats 1000000 in
theorem index_c {f:FuncId} {pre post:List AV} (p:PI→Bool) (pool:List PI) (hl:pool.length≤1048576) (hf:∀y∈pool,AT f (pre ++ itA y :: post) (boo (p y))):AT 66 [.sl 9 (pool.map itA),.fn (.func f) pre post] (i64 (idxI p pool 0)):=by
 obtain ⟨R,hR⟩:∃R,R=idxI p pool 0:=⟨_,rfl⟩
 rw [←hR]
 refine ACalls.of ⟨9,[],[]⟩ (fn:=Tryz.f66) Tryz.func66 rfl rfl rfl (by kernel_rfl) (by kernel_rfl) (Nat.le_of_ble_eq_true rfl) ?_
 simp (maxSteps:=1000000) -implicitDefEqProofs only [List.length_map,go_sem,awp_seq,Nat.reduceBEq,Nat.reduceAdd,Nat.reduceLT]
 refine loop_mk (α:={k:Nat // k≤pool.length∧R=idxI p (pool.drop k) k}) (fun k=>[(0,some (.av (.sl 9 (pool.map itA)))),(1,some (.av (.fn (.func f) pre post))),(4,some (.av (i64 0))),(6,some (.av (.sl 9 (pool.map itA)))),(7,some (.av (i64 (pool.length:Nat)))),(8,some (.av (i64 (k.1:Nat))))]) (fun _=>[]) (fun _=>[]) (fun k=>pool.length-k.1) ⟨0,Nat.zero_le _,hR⟩ ?_ ?_
 ·simp (maxSteps:=1000000) -implicitDefEqProofs only [go_sem,awp_seq,Nat.reduceBEq,Int.cast_ofNat_Int]
 ·clear hR
  rintro ⟨k,hk,hR⟩
  by_cases hlt:k<pool.length
  ·have g1:decide (((k:Nat):Int)<(pool.length:Nat))=true:=by simp;omega
   have e1:=map_get itA pool hlt
   have w1:IntKind.i64.wrap ((k:Int)+1)=((k+1:Nat):Int):=by rw [IntWalk.i64_in _ (by omega)];omega
   have F:=hf _ (List.getElem_mem hlt)
   rw [List.drop_eq_getElem_cons hlt]at hR
   generalize pool[k]=y at *
   unfold idxI at hR
   cases hp:p y with
   | true =>
    rw [hp,if_pos rfl]at hR
    subst hR
    rw [hp]at F
    simp (maxSteps:=1000000) -implicitDefEqProofs only [g1,e1,Int.toNat_natCast,Int.natCast_nonneg,go_sem,awp_seq,Nat.reduceBEq,Nat.reduceAdd,Nat.reduceLeDiff,Nat.reduceLT]
    refine callA_t F ?_
    simp (maxSteps:=1000000) -implicitDefEqProofs only [go_sem,awp_seq,Nat.reduceBEq,Nat.reduceLeDiff,Nat.reduceLT]
   | false =>
    rw [hp]at hR F
    have hR:R=idxI p (pool.drop (k+1)) (k+1):=by simpa using hR
    simp (maxSteps:=1000000) -implicitDefEqProofs only [g1,e1,Int.toNat_natCast,Int.natCast_nonneg,go_sem,awp_seq,Nat.reduceBEq,Nat.reduceAdd,Nat.reduceLeDiff,Nat.reduceLT]
    refine callA_t F ?_
    simp (maxSteps:=1000000) -implicitDefEqProofs only [w1,go_sem,awp_seq,Nat.reduceBEq,Nat.reduceLeDiff,Nat.reduceLT]
    refine roundK_mk ⟨k+1,by omega,hR⟩ ?_ (by show pool.length-(k+1)<pool.length-k;omega)
    simp (maxSteps:=1000000) -implicitDefEqProofs only [go_sem,awp_seq,Nat.reduceBEq]
  ·have g1:decide (((k:Nat):Int)<(pool.length:Nat))=false:=by simp;omega
   rw [List.drop_of_length_le (by omega)]at hR
   have hR:R = -1:=hR
   subst hR
   simp (maxSteps:=1000000) -implicitDefEqProofs only [g1,go_sem,awp_seq,Nat.reduceBEq,Nat.reduceLT]
end Go.Proofs.YtmegoiaijfeilaaGreatDoor
set_option linter.unusedSimpArgs false
set_option linter.unusedVariables false
namespace Go.Proofs.YtmegoiaijfeilaaGreatDoor
open Go.RowKit Lim
def risesB:List Int→Bool
 | a :: b :: l=>decide (a<b) && risesB (b :: l)
 | _=>true
def idP (id:Int) (y:PI):Bool:=y.1 == id
def pickE (pool:List PI):List Int→List PI→List PI × Int
 | [],acc=>(acc,0)
 | id :: l,acc=>match pool.find? (idP id)with
  | none=>([],6)
  | some y=>pickE pool l (acc ++ [y])
def selE (pool:List PI) (ch:List Int):List PI × Int:=if risesB ch then pickE pool ch [] else ([],23)
theorem idxI_find (p:PI→Bool):∀(pool:List PI) (k:Nat),(idxI p pool k = -1∧pool.find? p=none)∨∃i,∃hi:i<pool.length,idxI p pool k=((k+i:Nat):Int)∧pool.find? p=some pool[i]
 | [],k=>.inl ⟨rfl,rfl⟩
 | y :: l,k=>by
  unfold idxI
  cases h:p y with
  | true=>exact .inr ⟨0,by simp,by simp,by simp [h]⟩
  | false =>
   rw [if_neg (by simp)]
   rcases idxI_find p l (k+1)with ⟨h1,h2⟩|⟨i,hi,h1,h2⟩
   ·exact .inl ⟨h1,by simp [h,h2]⟩
   ·exact .inr ⟨i+1,by simpa using hi,by rw [h1];congr 1;omega,by simp [h,h2]⟩
theorem rises_step {l:List Int} {k:Nat} (h:k+1<l.length):risesB (l.drop k)=(decide (l[k]'(by omega)<l[k+1]'h) && risesB (l.drop (k+1))):=by
 rw [List.drop_eq_getElem_cons (show k<l.length by omega),List.drop_eq_getElem_cons h]
 rfl
theorem rises_end {l:List Int} {k:Nat} (h:¬k+1<l.length):risesB (l.drop k)=true:=by
 by_cases hk:k<l.length
 ·rw [List.drop_eq_getElem_cons hk,List.drop_of_length_le (by omega)];rfl
 ·rw [List.drop_of_length_le (by omega)];rfl
set_option maxHeartbeats 2000000 in
theorem selected_c (pool:List PI) (ch:List Int) (hl:pool.length≤1000) (hc:ch.length≤1048576):AT 34 [.sl 9 (pool.map itA),.sl 1 (ch.map fun z=>i64 z)] (.tup [.sl 9 ((selE pool ch).1.map itA),i64 (selE pool ch).2]):=by
 obtain ⟨R,hR⟩:∃R,R=selE pool ch:=⟨_,rfl⟩
 rw [←hR]
 unfold selE at hR
 refine ACalls.of ⟨30,[(10,9)],[]⟩ (fn:=Tryz.f34) Tryz.func34 rfl rfl rfl (by kernel_rfl) (by kernel_rfl) (Nat.le_of_ble_eq_true rfl) ?_
 simp (maxSteps:=1000000) -implicitDefEqProofs only [List.length_map,go_sem,awp_seq,Nat.reduceBEq,Nat.reduceAdd,Nat.reduceLT]
 refine loop_mk (α:={k:Nat // (k=0∨k<ch.length)∧risesB ch=risesB (ch.drop k)}) (fun k=>[(0,some (.av (.sl 9 (pool.map itA)))),(1,some (.av (.sl 1 (ch.map fun z=>i64 z)))),(4,some (.av (.lit (.slice none 0 0)))),(5,some (.av (i64 0))),(6,some (.av (i64 ((k.1:Nat)+1))))]) (fun _=>[]) (fun _=>[]) (fun k=>ch.length-k.1) ⟨0,.inl rfl,rfl⟩ ?_ ?_
 ·simp (maxSteps:=1000000) -implicitDefEqProofs only [go_sem,awp_seq,Nat.reduceBEq,Int.reduceAdd,Int.cast_ofNat_Int]
 rintro ⟨k,hk,hr⟩
 have hk1:k≤1048576:=by omega
 by_cases hlt:k+1<ch.length
 ·have g1:decide (((k:Nat):Int)+1<(ch.length:Nat))=true:=by simp;omega
  have e0:=map_get (fun z=>i64 z) ch (show k<ch.length by omega)
  have e1:=map_get (fun z=>i64 z) ch hlt
  have w1:IntKind.i64.wrap ((k:Int)+1+1)=((k+1:Nat):Int)+1:=by rw [IntWalk.i64_in _ (by omega)];omega
  have w2:IntKind.i64.wrap ((k:Int)+1-1)=(k:Int):=by rw [IntWalk.i64_in _ (by omega)];omega
  have n1:((k:Int)+1).toNat=k+1:=by omega
  have n2:(0:Int)≤(k:Int)+1:=by omega
  have rs:=rises_step hlt
  generalize ch[k]'(by omega)=a at *
  generalize ch[k+1]'hlt=b at *
  by_cases hab:b≤a
  ·have g2:decide (b≤a)=true:=by simpa using hab
   have hb:risesB ch=false:=by rw [hr,rs,decide_eq_false (by omega)];rfl
   rw [hb]at hR
   have hR:R=([],23):=hR
   subst hR
   simp (maxSteps:=1000000) -implicitDefEqProofs only [List.length_map,g1,g2,e0,e1,w2,n1,n2,Int.toNat_natCast,Int.natCast_nonneg,go_sem,awp_seq,Nat.reduceBEq,Nat.reduceLT]
   rfl
  ·have g2:decide (b≤a)=false:=by simpa using hab
   have hr2:risesB ch=risesB (ch.drop (k+1)):=by rw [hr,rs,decide_eq_true (by omega)];rfl
   simp (maxSteps:=1000000) -implicitDefEqProofs only [List.length_map,g1,g2,e0,e1,w1,w2,n1,n2,Int.toNat_natCast,Int.natCast_nonneg,go_sem,awp_seq,Nat.reduceBEq,Nat.reduceLT]
   refine roundK_mk ⟨k+1,.inr hlt,hr2⟩ ?_ (by show ch.length-(k+1)<ch.length-k;omega)
   simp (maxSteps:=1000000) -implicitDefEqProofs only [go_sem,awp_seq,Nat.reduceBEq]
 ·have g1:decide (((k:Nat):Int)+1<(ch.length:Nat))=false:=by simp;omega
  have hb:risesB ch=true:=by rw [hr];exact rises_end hlt
  rw [hb,if_pos rfl]at hR
  simp (maxSteps:=1000000) -implicitDefEqProofs only [g1,List.length_map,go_sem,awp_seq,Nat.reduceBEq,Nat.reduceLT]
  refine loop_mk (α:={x:Nat × List PI // x.1≤ch.length∧x.2.length=x.1∧R=pickE pool (ch.drop x.1) x.2}) (fun x=>[(0,some (.av (.sl 9 (pool.map itA)))),(1,some (.av (.sl 1 (ch.map fun z=>i64 z)))),(4,some (.av (.lit (.slice none 0 0)))),(5,some (.av (i64 0))),(7,some (bif x.1.1 == 0 then .av (.lit (.slice none 0 0)) else .osl 44 9 0 x.1.1)),(27,some (.av (.sl 1 (ch.map fun z=>i64 z)))),(28,some (.av (i64 (ch.length:Nat)))),(29,some (.av (i64 (x.1.1:Nat))))]) (fun _=>[]) (fun x=>bif x.1.1 == 0 then [] else [(44,.row 54 9 (x.1.2.map itA))]) (fun x=>ch.length-x.1.1) ⟨(0,[]),Nat.zero_le _,rfl,hR⟩ ?_ ?_
  ·have b0:((0:Nat) == 0)=true:=rfl
   simp (maxSteps:=1000000) -implicitDefEqProofs only [b0,cond_true,go_sem,awp_seq,Nat.reduceBEq,Int.cast_ofNat_Int]
  clear hR hr
  rintro ⟨⟨j,acc⟩,hj,hacc,hR⟩
  dsimp only at hj hacc hR
  by_cases hlt2:j<ch.length
  ·have g2:decide (((j:Nat):Int)<(ch.length:Nat))=true:=by simp;omega
   have e2:=map_get (fun z=>i64 z) ch hlt2
   have w3:IntKind.i64.wrap ((j:Int)+1)=((j+1:Nat):Int):=by rw [IntWalk.i64_in _ (by omega)];omega
   rw [List.drop_eq_getElem_cons hlt2]at hR
   generalize ch[j]=id at *
   have I:=index_c (f:=67) (pre:=[]) (post:=[.ptr [i64 id]]) (idP id) pool (by omega) (fun y _=>sel1_c y id)
   unfold pickE at hR
   rcases idxI_find (idP id) pool 0 with ⟨h1,h2⟩|⟨i,hi,h1,h2⟩
   ·rw [h2]at hR
    have hR:R=([],6):=hR
    subst hR
    rw [h1]at I
    have m1:decide ((-1:Int)<0)=true:=rfl
    cases j with
    | zero =>
     have b0:((0:Nat) == 0)=true:=rfl
     have g0:decide ((0:Int)<(ch.length:Nat))=true:=g2
     have z0:((0:Int)).toNat=0:=rfl
     simp (maxSteps:=1000000) -implicitDefEqProofs only [b0,g0,e2,z0,cond_true,Int.toNat_natCast,Int.natCast_nonneg,Int.le_refl,Int.ofNat_zero,Int.natCast_zero,go_sem,awp_seq,Nat.reduceBEq,Nat.reduceLeDiff,Nat.reduceLT,Int.cast_ofNat_Int]
     refine callA_tt I ?_
     simp (maxSteps:=1000000) -implicitDefEqProofs only [m1,go_sem,awp_seq,Nat.reduceBEq,Nat.reduceLeDiff,Nat.reduceLT,Int.reduceLT]
     rfl
    | succ j =>
     have b0:((j+1:Nat) == 0)=false:=rfl
     simp (maxSteps:=1000000) -implicitDefEqProofs only [b0,g2,e2,cond_false,Int.toNat_natCast,Int.natCast_nonneg,go_sem,awp_seq,Nat.reduceBEq,Nat.reduceLeDiff,Nat.reduceLT]
     refine callA_tt I ?_
     simp (maxSteps:=1000000) -implicitDefEqProofs only [m1,go_sem,awp_seq,Nat.reduceBEq,Nat.reduceLeDiff,Nat.reduceLT,Int.reduceLT]
     rfl
   ·rw [h2]at hR
    rw [h1,Nat.zero_add]at I
    have ep:=map_get itA pool hi
    have hR:R=pickE pool (ch.drop (j+1)) (acc ++ [pool[i]]):=hR
    have m1:decide (((i:Nat):Int)<0)=false:=by simp
    generalize pool[i]=y at *
    cases j with
    | zero =>
     have b0:((0:Nat) == 0)=true:=rfl
     have b3:((1:Nat) == 0)=false:=rfl
     have g0:decide ((0:Int)<(ch.length:Nat))=true:=g2
     have z0:((0:Int)).toNat=0:=rfl
     have w0:IntKind.i64.wrap ((0:Int)+1)=1:=rfl
     have w4:IntKind.i64.wrap 1=1:=rfl
     obtain rfl:acc=[]:=List.length_eq_zero_iff.1 hacc
     simp (maxSteps:=1000000) -implicitDefEqProofs only [b0,g0,e2,z0,cond_true,Int.toNat_natCast,Int.natCast_nonneg,Int.le_refl,Int.ofNat_zero,Int.natCast_zero,go_sem,awp_seq,Nat.reduceBEq,Nat.reduceLeDiff,Nat.reduceLT,Int.cast_ofNat_Int]
     refine callA_tt I ?_
     simp (maxSteps:=1000000) -implicitDefEqProofs only [m1,ep,w0,w4,Int.toNat_natCast,Int.natCast_nonneg,go_sem,awp_seq,Nat.reduceBEq,Nat.reduceAdd,Nat.reduceMul,Nat.reduceLeDiff,Nat.reduceLT,Int.reduceAdd]
     have w5:((1:Nat):Int)=1:=rfl
     refine roundK_mk ⟨(1,[y]),by show 1≤_;omega,rfl,hR⟩ ?_ (by show ch.length-1<ch.length-0;omega)
     simp (maxSteps:=1000000) -implicitDefEqProofs only [b3,w5,cond_false,List.map_cons,List.map_nil,go_sem,awp_seq,Nat.reduceBEq]
    | succ j =>
     have b0:((j+1:Nat) == 0)=false:=rfl
     simp (maxSteps:=1000000) -implicitDefEqProofs only [b0,g2,e2,cond_false,Int.toNat_natCast,Int.natCast_nonneg,go_sem,awp_seq,Nat.reduceBEq,Nat.reduceLeDiff,Nat.reduceLT]
     refine callA_tt I ?_
     simp (maxSteps:=1000000) -implicitDefEqProofs only [m1,ep,w3,Int.toNat_natCast,Int.natCast_nonneg,go_sem,awp_seq,Nat.reduceBEq,Nat.reduceAdd,Nat.reduceMul,Nat.reduceLeDiff,Nat.reduceLT]
     have b1:((j+1+1:Nat) == 0)=false:=rfl
     have ml:(acc.map itA).length=j+1:=by rw [List.length_map];exact hacc
     refine ⟨ml.symm,by rw [ml];omega,by rw [ml];omega,?_⟩
     refine roundK_mk ⟨(j+1+1,acc ++ [y]),by show j+1+1≤_;omega,by simp [hacc],hR⟩ ?_ (by show ch.length-(j+1+1)<ch.length-(j+1);omega)
     simp (maxSteps:=1000000) -implicitDefEqProofs only [b1,ml,cond_false,List.map_append,List.map_cons,List.map_nil,go_sem,awp_seq,Nat.reduceBEq]
  ·obtain rfl:j=ch.length:=by omega
   rw [List.drop_length]at hR
   have hR:R=(acc,0):=hR
   subst hR
   have g2:decide (((ch.length:Nat):Int)<(ch.length:Nat))=false:=by simp
   have ml:(acc.map itA).length=ch.length:=by rw [List.length_map];exact hacc
   cases hk0:ch.length == 0 with
   | true =>
    have h0:ch.length=0:=by simpa using hk0
    obtain rfl:acc=[]:=List.length_eq_zero_iff.1 (by omega)
    simp (maxSteps:=1000000) -implicitDefEqProofs only [hk0,g2,cond_true,go_sem,awp_seq,Nat.reduceBEq,Nat.reduceLT]
    rfl
   | false =>
    have tk:(acc.map itA).take ch.length=acc.map itA:=List.take_of_length_le (by omega)
    simp (maxSteps:=1000000) -implicitDefEqProofs only [hk0,g2,ml,tk,cond_false,go_sem,awp_seq,Nat.reduceBEq,Nat.reduceLT]
end Go.Proofs.YtmegoiaijfeilaaGreatDoor
set_option linter.unusedSimpArgs false
set_option linter.unusedVariables false
namespace Go.Proofs.YtmegoiaijfeilaaGreatDoor
open Go.RowKit Lim
theorem slHasPrefix_c (s p:List UInt8):AT 132 [str s,str p] (boo (Lib.hasPrefix s p)):=by
 refine ⟨by exact ⟨Tryz.f132,Tryz.func132,by kernel_rfl,rfl⟩,fun w Z vs hE hz _ hr=>?_⟩
 obtain ⟨_,_,rfl,h1,h2⟩:=reps2 hr
 rw [h1.lit_eq,h2.lit_eq]
 refine (Tryz.stringslite_HasPrefix (bs s) (bs p) w).mono ?_
 rintro e w' ⟨rfl,rfl⟩
 exact ⟨_,rfl,Below.refl _ _,.lit rfl⟩
theorem hasPre_c (s p:List UInt8):AT 113 [str s,str p] (boo (Lib.hasPrefix s p)):=by
 have P:=slHasPrefix_c s p
 generalize Lib.hasPrefix s p=b at *
 refine ACalls.of ⟨5,[],[]⟩ (fn:=Tryz.f113) Tryz.func113 rfl rfl rfl (by kernel_rfl) (by kernel_rfl) (Nat.le_of_ble_eq_true rfl) ?_
 simp (maxSteps:=1000000) -implicitDefEqProofs only [go_sem,awp_seq,Nat.reduceBEq,Nat.reduceAdd,Nat.reduceLT]
 refine callA_tt P ?_
 simp (maxSteps:=1000000) -implicitDefEqProofs only [go_sem,awp_seq,Nat.reduceBEq]
def underB (code top:List UInt8):Bool:=top == [] || (code == top || Lib.hasPrefix code (top ++ [46]))
theorem under_c (a b:List UInt8) (hb:b.length≤1048576):AT 88 [str a,str b] (boo (underB a b)):=by
 have P:=hasPre_c a (b ++ [46])
 have e:bs b ++ (⟨#[46]⟩:ByteArray)=bs (b ++ [46]):=bs_app b [46]
 unfold underB
 generalize Lib.hasPrefix a (b ++ [46])=r at *
 cases c1:(b == [])with
 | true =>
  refine ACalls.of ⟨5,[],[]⟩ (fn:=Tryz.f88) Tryz.func88 rfl rfl rfl (by kernel_rfl) (by kernel_rfl) (Nat.le_of_ble_eq_true rfl) ?_
  simp (maxSteps:=1000000) -implicitDefEqProofs only [mk_bs,toList_bs,c1,Bool.true_or,go_sem,awp_seq,Nat.reduceBEq,Nat.reduceAdd,Nat.reduceLT]
 | false =>
  cases c2:(a == b)with
  | true =>
   refine ACalls.of ⟨5,[],[]⟩ (fn:=Tryz.f88) Tryz.func88 rfl rfl rfl (by kernel_rfl) (by kernel_rfl) (Nat.le_of_ble_eq_true rfl) ?_
   simp (maxSteps:=1000000) -implicitDefEqProofs only [mk_bs,toList_bs,c1,c2,Bool.true_or,Bool.false_or,go_sem,awp_seq,Nat.reduceBEq,Nat.reduceAdd,Nat.reduceLT]
  | false =>
   refine ACalls.of ⟨5,[],[]⟩ (fn:=Tryz.f88) Tryz.func88 rfl rfl rfl (by kernel_rfl) (by kernel_rfl) (Nat.le_of_ble_eq_true rfl) ?_
   simp (maxSteps:=1000000) -implicitDefEqProofs only [mk_bs,toList_bs,c1,c2,Bool.false_or,e,bs_size,go_sem,awp_seq,Nat.reduceBEq,Nat.reduceAdd,Nat.reduceLT]
   refine ⟨by omega,callA_tt P ?_⟩
   simp (maxSteps:=1000000) -implicitDefEqProofs only [go_sem,awp_seq,Nat.reduceBEq]
def oneI (b:Bool):Int:=if b then 1 else 0
theorem one_c (b:Bool):AT 19 [boo b] (i64 (oneI b)):=by
 cases b with
 | true =>
  refine ACalls.of ⟨3,[],[]⟩ (fn:=Tryz.f19) Tryz.func19 rfl rfl rfl (by kernel_rfl) (by kernel_rfl) (Nat.le_of_ble_eq_true rfl) ?_
  simp (maxSteps:=1000000) -implicitDefEqProofs only [go_sem,awp_seq,Nat.reduceBEq,Nat.reduceLT]
  rfl
 | false =>
  refine ACalls.of ⟨3,[],[]⟩ (fn:=Tryz.f19) Tryz.func19 rfl rfl rfl (by kernel_rfl) (by kernel_rfl) (Nat.le_of_ble_eq_true rfl) ?_
  simp (maxSteps:=1000000) -implicitDefEqProofs only [go_sem,awp_seq,Nat.reduceBEq,Nat.reduceLT]
  rfl
theorem ms1_c (y:PI) (r:RuleV) (hc:r.code.length≤1048576):AT 87 [itA y,.ptr (ruleC r)] (i64 (oneI (underB y.2.1 r.code))):=by
 have U:=under_c y.2.1 r.code hc
 have O:=one_c (underB y.2.1 r.code)
 generalize underB y.2.1 r.code=b at *
 generalize rowsA y.2.2.2.2.2.2.2.2=R
 refine ACalls.of ⟨4,[],[]⟩ (fn:=Tryz.f87) Tryz.func87 rfl rfl rfl (by kernel_rfl) (by kernel_rfl) (Nat.le_of_ble_eq_true rfl) ?_
 simp (maxSteps:=1000000) -implicitDefEqProofs only [go_sem,awp_seq,Nat.reduceBEq,Nat.reduceAdd,Nat.reduceLT]
 refine callA_tt U ?_
 simp (maxSteps:=1000000) -implicitDefEqProofs only [go_sem,awp_seq,Nat.reduceBEq]
 refine callA_tt O ?_
 simp (maxSteps:=1000000) -implicitDefEqProofs only [go_sem,awp_seq,Nat.reduceBEq]
theorem ms2_c (y:PI):AT 89 [itA y] (i64 y.2.2.2.2.1):=by
 generalize rowsA y.2.2.2.2.2.2.2.2=R
 refine ACalls.of ⟨3,[],[]⟩ (fn:=Tryz.f89) Tryz.func89 rfl rfl rfl (by kernel_rfl) (by kernel_rfl) (Nat.le_of_ble_eq_true rfl) ?_
 simp (maxSteps:=1000000) -implicitDefEqProofs only [go_sem,awp_seq,Nat.reduceBEq,Nat.reduceLT]
theorem ms3_c (y:PI):AT 90 [itA y] (i64 y.2.2.2.2.2.1):=by
 generalize rowsA y.2.2.2.2.2.2.2.2=R
 refine ACalls.of ⟨3,[],[]⟩ (fn:=Tryz.f90) Tryz.func90 rfl rfl rfl (by kernel_rfl) (by kernel_rfl) (Nat.le_of_ble_eq_true rfl) ?_
 simp (maxSteps:=1000000) -implicitDefEqProofs only [go_sem,awp_seq,Nat.reduceBEq,Nat.reduceLT]
theorem ms4_c (y:PI):AT 91 [itA y] (i64 y.2.2.2.2.2.2.1):=by
 generalize rowsA y.2.2.2.2.2.2.2.2=R
 refine ACalls.of ⟨3,[],[]⟩ (fn:=Tryz.f91) Tryz.func91 rfl rfl rfl (by kernel_rfl) (by kernel_rfl) (Nat.le_of_ble_eq_true rfl) ?_
 simp (maxSteps:=1000000) -implicitDefEqProofs only [go_sem,awp_seq,Nat.reduceBEq,Nat.reduceLT]
theorem ms5_c (y:PI) (r:RuleV):AT 92 [itA y,.ptr (ruleC r)] (i64 (oneI (y.2.2.2.2.2.2.2.1 == r.n))):=by
 have O:=one_c (y.2.2.2.2.2.2.2.1 == r.n)
 generalize hb:(y.2.2.2.2.2.2.2.1 == r.n)=b at *
 generalize rowsA y.2.2.2.2.2.2.2.2=R
 refine ACalls.of ⟨4,[],[]⟩ (fn:=Tryz.f92) Tryz.func92 rfl rfl rfl (by kernel_rfl) (by kernel_rfl) (Nat.le_of_ble_eq_true rfl) ?_
 simp (maxSteps:=1000000) -implicitDefEqProofs only [hb,go_sem,awp_seq,Nat.reduceBEq,Nat.reduceAdd,Nat.reduceLT]
 refine callA_tt O ?_
 simp (maxSteps:=1000000) -implicitDefEqProofs only [go_sem,awp_seq,Nat.reduceBEq]
theorem mset_c (a b n:Int) (y:PI):AT 213 [.agg [i64 a,i64 b,i64 n],itA y] (i64 (oneI (y.2.2.2.1 == n))):=by
 have O:=one_c (y.2.2.2.1 == n)
 generalize hb:(y.2.2.2.1 == n)=b at *
 generalize rowsA y.2.2.2.2.2.2.2.2=R
 refine ACalls.of ⟨5,[],[]⟩ (fn:=Tryz.f213) Tryz.func213 rfl rfl rfl (by kernel_rfl) (by kernel_rfl) (Nat.le_of_ble_eq_true rfl) ?_
 simp (maxSteps:=1000000) -implicitDefEqProofs only [hb,go_sem,awp_seq,Nat.reduceBEq,Nat.reduceAdd,Nat.reduceLT,Nat.reduceEqDiff]
 refine callA_tt O ?_
 simp (maxSteps:=1000000) -implicitDefEqProofs only [go_sem,awp_seq,Nat.reduceBEq]
def totE (m:PI→Int):List PI→Int→Int
 | [],s=>s
 | y :: l,s=>totE m l (IntKind.i64.wrap (s+m y))
set_option maxHeartbeats 1000000 in
theorem total_c {f:FuncId} {pre post:List AV} (m:PI→Int) (pool:List PI) (hl:pool.length≤1048576) (hf:∀y∈pool,AT f (pre ++ itA y :: post) (i64 (m y))):AT 200 [.sl 9 (pool.map itA),.fn (.func f) pre post] (i64 (totE m pool 0)):=by
 obtain ⟨R,hR⟩:∃R,R=totE m pool 0:=⟨_,rfl⟩
 rw [←hR]
 refine ACalls.of ⟨11,[],[]⟩ (fn:=Tryz.f200) Tryz.func200 rfl rfl rfl (by kernel_rfl) (by kernel_rfl) (Nat.le_of_ble_eq_true rfl) ?_
 simp (maxSteps:=1000000) -implicitDefEqProofs only [List.length_map,go_sem,awp_seq,Nat.reduceBEq,Nat.reduceAdd,Nat.reduceLT]
 refine loop_mk (α:={x:Nat × Int // x.1≤pool.length∧R=totE m (pool.drop x.1) x.2}) (fun x=>[(0,some (.av (.sl 9 (pool.map itA)))),(1,some (.av (.fn (.func f) pre post))),(4,some (.av (i64 0))),(5,some (.av (i64 x.1.2))),(8,some (.av (.sl 9 (pool.map itA)))),(9,some (.av (i64 (pool.length:Nat)))),(10,some (.av (i64 (x.1.1:Nat))))]) (fun _=>[]) (fun _=>[]) (fun x=>pool.length-x.1.1) ⟨(0,0),Nat.zero_le _,hR⟩ ?_ ?_
 ·simp (maxSteps:=1000000) -implicitDefEqProofs only [go_sem,awp_seq,Nat.reduceBEq,Int.cast_ofNat_Int]
 ·clear hR
  rintro ⟨⟨k,s⟩,hk,hR⟩
  dsimp only at hk hR
  by_cases hlt:k<pool.length
  ·have g1:decide (((k:Nat):Int)<(pool.length:Nat))=true:=by simp;omega
   have e1:=map_get itA pool hlt
   have w1:IntKind.i64.wrap ((k:Int)+1)=((k+1:Nat):Int):=by rw [IntWalk.i64_in _ (by omega)];omega
   have F:=hf _ (List.getElem_mem hlt)
   rw [List.drop_eq_getElem_cons hlt]at hR
   generalize pool[k]=y at *
   unfold totE at hR
   simp (maxSteps:=1000000) -implicitDefEqProofs only [g1,e1,Int.toNat_natCast,Int.natCast_nonneg,go_sem,awp_seq,Nat.reduceBEq,Nat.reduceAdd,Nat.reduceLeDiff,Nat.reduceLT]
   refine callA_t F ?_
   simp (maxSteps:=1000000) -implicitDefEqProofs only [w1,go_sem,awp_seq,Nat.reduceBEq,Nat.reduceLeDiff,Nat.reduceLT]
   refine roundK_mk ⟨(k+1,IntKind.i64.wrap (s+m y)),by show k+1≤_;omega,hR⟩ ?_ (by show pool.length-(k+1)<pool.length-k;omega)
   simp (maxSteps:=1000000) -implicitDefEqProofs only [go_sem,awp_seq,Nat.reduceBEq]
  ·have g1:decide (((k:Nat):Int)<(pool.length:Nat))=false:=by simp;omega
   rw [List.drop_of_length_le (by omega)]at hR
   have hR:R=s:=hR
   subst hR
   simp (maxSteps:=1000000) -implicitDefEqProofs only [g1,go_sem,awp_seq,Nat.reduceBEq,Nat.reduceLT]
end Go.Proofs.YtmegoiaijfeilaaGreatDoor
set_option linter.unusedSimpArgs false
set_option linter.unusedVariables false
namespace Go.Proofs.YtmegoiaijfeilaaGreatDoor
open Go.RowKit Lim
def outB (lo hi n:Int):Bool:=decide (n<lo) || decide (hi<n)
theorem above_c (lo hi n:Int):AT 194 [.agg [i64 lo,i64 hi],i64 n] (boo (decide (hi<n))):=by
 generalize hb:decide (hi<n)=b at *
 refine ACalls.of ⟨5,[],[]⟩ (fn:=Tryz.f194) Tryz.func194 rfl rfl rfl (by kernel_rfl) (by kernel_rfl) (Nat.le_of_ble_eq_true rfl) ?_
 simp (maxSteps:=1000000) -implicitDefEqProofs only [hb,go_sem,awp_seq,Nat.reduceBEq,Nat.reduceAdd,Nat.reduceLT]
theorem outside_c (lo hi n:Int):AT 199 [.agg [i64 lo,i64 hi],i64 n] (boo (outB lo hi n)):=by
 have A:=above_c lo hi n
 unfold outB
 generalize decide (hi<n)=b at *
 cases c1:decide (n<lo)with
 | true =>
  refine ACalls.of ⟨5,[],[]⟩ (fn:=Tryz.f199) Tryz.func199 rfl rfl rfl (by kernel_rfl) (by kernel_rfl) (Nat.le_of_ble_eq_true rfl) ?_
  simp (maxSteps:=1000000) -implicitDefEqProofs only [c1,Bool.true_or,go_sem,awp_seq,Nat.reduceBEq,Nat.reduceAdd,Nat.reduceLT]
 | false =>
  refine ACalls.of ⟨5,[],[]⟩ (fn:=Tryz.f199) Tryz.func199 rfl rfl rfl (by kernel_rfl) (by kernel_rfl) (Nat.le_of_ble_eq_true rfl) ?_
  simp (maxSteps:=1000000) -implicitDefEqProofs only [c1,Bool.false_or,go_sem,awp_seq,Nat.reduceBEq,Nat.reduceAdd,Nat.reduceLT]
  refine callA_tt A ?_
  simp (maxSteps:=1000000) -implicitDefEqProofs only [go_sem,awp_seq,Nat.reduceBEq]
section
variable {f:FuncId} {pre post:List AV} (m:PI→Int) (items:List PI) (lo hi:Int)
theorem mbrk_c (hl:items.length≤1048576) (hn:(AV.fn (.func f) pre post).noLimb=true) (hf:∀y∈items,AT f (pre ++ itA y :: post) (i64 (m y))):AT 196 [.agg [i64 lo,i64 hi,.fn (.func f) pre post],.sl 9 (items.map itA)] (boo (outB lo hi (totE m items 0))):=by
 have T:=total_c m items hl hf
 have O:=outside_c lo hi (totE m items 0)
 generalize totE m items 0=s at *
 refine ACalls.of ⟨5,[],[]⟩ (fn:=Tryz.f196) Tryz.func196 rfl rfl rfl (by kernel_rfl) (by kernel_rfl) (Nat.le_of_ble_eq_true rfl) ?_
 simp (maxSteps:=1000000) -implicitDefEqProofs only [hn,go_sem,awp_seq,Nat.reduceBEq,Nat.reduceAdd,Nat.reduceLeDiff,Nat.reduceLT]
 refine callA_tt T ?_
 simp (maxSteps:=1000000) -implicitDefEqProofs only [go_sem,awp_seq,Nat.reduceBEq]
 refine callA_tt O ?_
 simp (maxSteps:=1000000) -implicitDefEqProofs only [go_sem,awp_seq,Nat.reduceBEq]
end
def setM (n:Int) (y:PI):Int:=oneI (y.2.2.2.1 == n)
theorem sbrk_c (lo hi n:Int) (items:List PI) (hl:items.length≤1048576):AT 208 [.agg [i64 lo,i64 hi,i64 n],.sl 9 (items.map itA)] (boo (totE (setM n) items 0 != 0 && outB lo hi (totE (setM n) items 0))):=by
 have T:=total_c (f:=213) (pre:=[.agg [i64 lo,i64 hi,i64 n]]) (post:=[]) (setM n) items hl (fun y _=>mset_c lo hi n y)
 have O:=outside_c lo hi (totE (setM n) items 0)
 generalize totE (setM n) items 0=s at *
 generalize outB lo hi s=b at *
 cases c1:(s != 0)with
 | false =>
  refine ACalls.of ⟨6,[],[]⟩ (fn:=Tryz.f208) Tryz.func208 rfl rfl rfl (by kernel_rfl) (by kernel_rfl) (Nat.le_of_ble_eq_true rfl) ?_
  simp (maxSteps:=1000000) -implicitDefEqProofs only [go_sem,awp_seq,Nat.reduceBEq,Nat.reduceAdd,Nat.reduceLT]
  trace_state
  refine callA_tt T ?_
  simp (maxSteps:=1000000) -implicitDefEqProofs only [c1,Bool.false_and,go_sem,awp_seq,Nat.reduceBEq,Nat.reduceLeDiff,Nat.reduceLT]
 | true =>
  refine ACalls.of ⟨6,[],[]⟩ (fn:=Tryz.f208) Tryz.func208 rfl rfl rfl (by kernel_rfl) (by kernel_rfl) (Nat.le_of_ble_eq_true rfl) ?_
  simp (maxSteps:=1000000) -implicitDefEqProofs only [go_sem,awp_seq,Nat.reduceBEq,Nat.reduceAdd,Nat.reduceLT]
  refine callA_tt T ?_
  simp (maxSteps:=1000000) -implicitDefEqProofs only [c1,Bool.true_and,go_sem,awp_seq,Nat.reduceBEq,Nat.reduceAdd,Nat.reduceLeDiff,Nat.reduceLT]
  refine callA_tt O ?_
  simp (maxSteps:=1000000) -implicitDefEqProofs only [go_sem,awp_seq,Nat.reduceBEq]
end Go.Proofs.YtmegoiaijfeilaaGreatDoor
set_option linter.unusedSimpArgs false
set_option linter.unusedVariables false
namespace Go.Proofs.YtmegoiaijfeilaaGreatDoor
open Go.RowKit Lim
def hasE (items:List PI) (n:Int):Bool:=(items.find? (idP n)).isSome
theorem idxI_has (p:PI→Bool) (items:List PI):decide (0≤idxI p items 0)=(items.find? p).isSome:=by
 rcases idxI_find p items 0 with ⟨h1,h2⟩|⟨i,hi,h1,h2⟩
 ·rw [h1,h2];rfl
 ·rw [h1,h2]
  exact decide_eq_true (by omega)
theorem containsF_c {f:FuncId} {pre post:List AV} (p:PI→Bool) (items:List PI) (hl:items.length≤1048576) (hf:∀y∈items,AT f (pre ++ itA y :: post) (boo (p y))):AT 221 [.sl 9 (items.map itA),.fn (.func f) pre post] (boo (items.find? p).isSome):=by
 have I:=index_c p items hl hf
 have e:=idxI_has p items
 generalize (items.find? p).isSome=b at *
 generalize idxI p items 0=i at *
 refine ACalls.of ⟨5,[],[]⟩ (fn:=Tryz.f221) Tryz.func221 rfl rfl rfl (by kernel_rfl) (by kernel_rfl) (Nat.le_of_ble_eq_true rfl) ?_
 simp (maxSteps:=1000000) -implicitDefEqProofs only [go_sem,awp_seq,Nat.reduceBEq,Nat.reduceAdd,Nat.reduceLT]
 refine callA_tt I ?_
 simp (maxSteps:=1000000) -implicitDefEqProofs only [e,go_sem,awp_seq,Nat.reduceBEq]
theorem cont1_c (y:PI) (n:Int):AT 222 [itA y,.ptr [i64 n]] (boo (idP n y)):=by
 unfold idP
 generalize rowsA y.2.2.2.2.2.2.2.2=R
 refine ACalls.of ⟨4,[],[]⟩ (fn:=Tryz.f222) Tryz.func222 rfl rfl rfl (by kernel_rfl) (by kernel_rfl) (Nat.le_of_ble_eq_true rfl) ?_
 simp (maxSteps:=1000000) -implicitDefEqProofs only [go_sem,awp_seq,Nat.reduceBEq,Nat.reduceAdd,Nat.reduceLT]
theorem contains_c (items:List PI) (n:Int) (hl:items.length≤1048576):AT 219 [.sl 9 (items.map itA),i64 n] (boo (hasE items n)):=by
 have C:=containsF_c (f:=222) (pre:=[]) (post:=[.ptr [i64 n]]) (idP n) items hl (fun y _=>cont1_c y n)
 unfold hasE
 generalize (items.find? (idP n)).isSome=b at *
 refine ACalls.of ⟨5,[(1,3)],[]⟩ (fn:=Tryz.f219) Tryz.func219 rfl rfl rfl (by kernel_rfl) (by kernel_rfl) (Nat.le_of_ble_eq_true rfl) ?_
 simp (maxSteps:=1000000) -implicitDefEqProofs only [go_sem,awp_seq,Nat.reduceBEq,Nat.reduceAdd,Nat.reduceLT]
 refine callA_tt C ?_
 simp (maxSteps:=1000000) -implicitDefEqProofs only [go_sem,awp_seq,Nat.reduceBEq]
theorem ibrk_c (items:List PI) (n:Int) (hl:items.length≤1048576):AT 214 [.agg [i64 n],.sl 9 (items.map itA)] (boo !(hasE items n)):=by
 have C:=contains_c items n hl
 generalize hasE items n=b at *
 refine ACalls.of ⟨5,[],[]⟩ (fn:=Tryz.f214) Tryz.func214 rfl rfl rfl (by kernel_rfl) (by kernel_rfl) (Nat.le_of_ble_eq_true rfl) ?_
 simp (maxSteps:=1000000) -implicitDefEqProofs only [go_sem,awp_seq,Nat.reduceBEq,Nat.reduceAdd,Nat.reduceLT]
 refine callA_tt C ?_
 simp (maxSteps:=1000000) -implicitDefEqProofs only [go_sem,awp_seq,Nat.reduceBEq]
theorem ebrk_c (items:List PI) (n:Int) (hl:items.length≤1048576):AT 223 [.agg [i64 n],.sl 9 (items.map itA)] (boo (hasE items n)):=by
 have C:=contains_c items n hl
 generalize hasE items n=b at *
 refine ACalls.of ⟨5,[],[]⟩ (fn:=Tryz.f223) Tryz.func223 rfl rfl rfl (by kernel_rfl) (by kernel_rfl) (Nat.le_of_ble_eq_true rfl) ?_
 simp (maxSteps:=1000000) -implicitDefEqProofs only [go_sem,awp_seq,Nat.reduceBEq,Nat.reduceAdd,Nat.reduceLT]
 refine callA_tt C ?_
 simp (maxSteps:=1000000) -implicitDefEqProofs only [go_sem,awp_seq,Nat.reduceBEq]
theorem fbrk_c (items:List PI) (fs:List Int) (R:AT 234 [.agg [],.sl 9 (items.map itA)] (.sl 1 (fs.map fun z=>i64 z))):AT 229 [.agg [],.sl 9 (items.map itA)] (boo !fs.isEmpty):=by
 have e:decide (0<((fs.length:Nat):Int))=!fs.isEmpty:=by cases fs <;> simp
 refine ACalls.of ⟨5,[],[]⟩ (fn:=Tryz.f229) Tryz.func229 rfl rfl rfl (by kernel_rfl) (by kernel_rfl) (Nat.le_of_ble_eq_true rfl) ?_
 simp (maxSteps:=1000000) -implicitDefEqProofs only [go_sem,awp_seq,Nat.reduceBEq,Nat.reduceAdd,Nat.reduceLT]
 refine callA_tt R ?_
 simp (maxSteps:=1000000) -implicitDefEqProofs only [List.length_map,e,go_sem,awp_seq,Nat.reduceBEq]
end Go.Proofs.YtmegoiaijfeilaaGreatDoor
set_option linter.unusedSimpArgs false
set_option linter.unusedVariables false
namespace Go.Proofs.YtmegoiaijfeilaaGreatDoor
open Go.RowKit Lim
def itVs (y:PI):List Value:=[.int .i64 y.1,.string (bs y.2.1),.int .i64 y.2.2.1,.int .i64 y.2.2.2.1,.int .i64 y.2.2.2.2.1,.int .i64 y.2.2.2.2.2.1,.int .i64 y.2.2.2.2.2.2.1,.int .i64 y.2.2.2.2.2.2.2.1]
theorem sl_slice {w:World} {Z:Zone} {k:Nat} {es:List AV} {v:Value} (h:Rep w Z (.sl k es) v):∃A n c,v=.slice A n c:=by
 cases h <;> exact ⟨_,_,_,rfl⟩
theorem items_row {w:World} {Z:Zone} {l:List PI} {v:Value} (h:Rep w Z (.sl 9 (l.map itA)) v):∃A c,v=.slice A l.length c∧∀i (hi:i<l.length),∃b off v8,A=some ⟨b,off,none⟩∧(∀j u,(itVs (l[i]'hi) ++ [v8])[j]? = some u→w.cell? ⟨b,off+i*9+j,none⟩=some u)∧∃A8 n8 c8,v8=.slice A8 n8 c8:=by
 generalize hm:l.map itA=es at h
 have hl:es.length=l.length:=by rw [←hm,List.length_map]
 cases h with
 | nil =>
  obtain rfl:l=[]:=List.length_eq_zero_iff.1 (by rw [←hl];rfl)
  exact ⟨_,_,rfl,fun i hi=>by simp at hi⟩
 | sl vs hb hc hkk hmm hr =>
  rw [hl]at *
  refine ⟨_,_,rfl,fun i hi=>⟨_,_,vs i 8,rfl,fun j u hj=>?_,?_⟩⟩
  ·have hj9:j<9:=by
    have:=(List.getElem?_eq_some_iff.1 hj).1
    simpa [itVs]using this
   rw [(hmm i j hi hj9).1]
   subst hm
   have h5:=hr i (by rw [List.length_map];exact hi) j (by simpa [AV.cells]using hj9)
   simp only [List.getElem_map,AV.cells]at h5
   rw [←hj]
   match j,hj9 with
   | 0,_=>exact congrArg some h5.lit_eq
   | 1,_=>exact congrArg some h5.lit_eq
   | 2,_=>exact congrArg some h5.lit_eq
   | 3,_=>exact congrArg some h5.lit_eq
   | 4,_=>exact congrArg some h5.lit_eq
   | 5,_=>exact congrArg some h5.lit_eq
   | 6,_=>exact congrArg some h5.lit_eq
   | 7,_=>exact congrArg some h5.lit_eq
   | 8,_=>rfl
  ·subst hm
   have h5:=hr i (by rw [List.length_map];exact hi) 8 (by simp [AV.cells])
   simp only [List.getElem_map,AV.cells]at h5
   exact sl_slice h5
def dupA:List Int→List Int→List Int
 | _,[]=>[]
 | seen,x :: l=>if seen.count x=1 then x :: dupA (x :: seen) l else dupA (x :: seen) l
def famL (items:List PI):List Int:=(items.map fun y=>y.2.2.1).filter fun x=>decide (0<x)
def repE (items:List PI):List Int:=(dupA [] (famL items)).mergeSort fun x y=>decide (x≤y)
def CntM (m:List (Value × AV)) (seen:List Int):Prop:=∀x,mgetA m (.int .i64 x)=if seen.count x=0 then none else some (i64 (seen.count x:Nat))
theorem CntM.nil:CntM [] []:=fun x=>by simp [mgetA]
theorem CntM.put {m:List (Value × AV)} {seen:List Int} (h:CntM m seen) (x:Int):CntM (mputA m (.int .i64 x) (i64 ((seen.count x:Nat)+1))) (x :: seen):=fun y=>by
 rw [mget_put,h y]
 by_cases hy:y=x
 ·subst hy
  rw [if_pos rfl,if_neg (by simp)]
  simp
 ·have hne:(x == y)=false:=by simpa using fun e=>hy e.symm
  rw [if_neg hy,List.count_cons,hne]
  simp
abbrev cT:TypeId:=256
theorem cnt_w {w:World} {g:Nat} {es:Array MapEntry} {clock:Nat} {m:List (Value × AV)} {seen:List Int} (hb:w.heap[g]? = some (.map es clock)) (hm:MapR w noZ (.int .i64) m es.toList) (hc:CntM m seen) (x:Int):(Instr.lookup cT (.map (some g)) (.int .i64 x) false).run Tryz.prog w=.ok (.int .i64 (seen.count x:Nat)) w:=by
 obtain ⟨v,h1,h2⟩:=lookup_run (P:=Tryz.prog) (kd:=.int .i64) (ty:=cT) (q:=.int .i64 x) (zv:=.int .i64 0) (a0:=i64 0) Tryz.underlying256 Tryz.underlying3 rfl hb hm rfl (Tryz.zeroValue3 w) (.lit rfl) false
 rw [h1]
 have e:(mgetA m (.int .i64 x)).getD (i64 0)=i64 (seen.count x:Nat):=by
  rw [hc x]
  by_cases h:seen.count x=0
  ·rw [if_pos h,h];rfl
  ·rw [if_neg h];rfl
 rw [cond_false,e]at h2
 rw [h2.lit_eq]
theorem rowI:∀D:List Int,rowVs (fun z:Int=>[Value.int .i64 z]) D=D.map (Value.int .i64)
 | []=>rfl
 | x :: D=>by
  have:=rowI D
  unfold rowVs at this ⊢
  rw [List.flatMap_cons,this]
  rfl
theorem ints_rep {w:World} {Z:Zone} {B:Nat} {e:TypeId} {v:Value} {l:List Int} {n:Nat} (hn:n=l.length) (h:w.ownsRow B e 1 v n (l.map (Value.int .i64))) (hZ:∀g,v.ownBlock=some g→∀o,Z g o):Rep w Z (.sl 1 (l.map fun z=>i64 z)) v:=by
 subst hn
 exact row_rep (enc:=fun z:Int=>[Value.int .i64 z]) (fA:=fun z=>i64 z) (fun _=>rfl) (fun _=>rfl) (fun x u hu=>by simp at hu;subst hu;rfl) (by rw [rowI];exact h) hZ
set_option maxHeartbeats 4000000 in
set_option maxRecDepth 100000 in
theorem rep_c (items:List PI) (hl:items.length≤1048576):AT 234 [.agg [],.sl 9 (items.map itA)] (.sl 1 ((repE items).map fun z=>i64 z)):=by
 refine ⟨⟨_,Tryz.func234,by kernel_rfl,by kernel_rfl⟩,fun w Z vs hE hz _ hrep=>?_⟩
 obtain ⟨v1,v2,rfl,q1,q2⟩:=reps2 hrep
 obtain ⟨A,c,rfl,hget⟩:=items_row q2
 obtain rfl:v1=.agg #[]:=by
  cases q1 with
  | @agg cs us hl _=>exact congrArg Value.agg (Array.eq_empty_of_size_eq_zero (by simpa using hl))
 clear hrep q1 q2
 change Calls Tryz.prog _ _ w _
 have hinf:(Tryz.prog.info? 3).map (fun i=>(i.zero,i.size,i.bytes))=some (some (.int .i64 0),1,8):=by kernel_rfl
 obtain ⟨i0,hi0,hz0,hz1,hz2⟩:=info_parts hinf
 have hlen:((items.length:Nat):Int)≤1048576:=by omega
 have hmm:=@run_makeMap Tryz.prog
 obtain ⟨R,hR⟩:∃R,repE items=R:=⟨_,rfl⟩
 rw [hR]
 go_enter Tryz.func234,Tryz.ntmps234
 go_wp2
 clear hmm
 go_loopw [6,12] (fun v i wl=>∃(k:Nat) (seen D:List Int) (m:List (Value × AV)) (es:Array MapEntry) (clock:Nat),i=.int .i64 k∧k≤items.length∧Below w.heap.size w wl∧wl.heap[w.heap.size+1]? = some (.map es clock)∧MapR wl noZ (.int .i64) m es.toList∧CntM m seen∧seen.length≤k∧D.length≤k∧wl.ownsRow (w.heap.size+2) 3 1 v D.length (D.map fun z=>Value.int .i64 z)∧dupA [] (famL items)=D ++ dupA seen (famL (items.drop k))) (fun _ i _=>items.length-(intOf i).toNat)
 case atStart =>
  refine ⟨0,[],[],[],#[],0,rfl,Nat.zero_le _,((Below.refl _ _).alloc (Nat.le_refl _) _).alloc (by simp) _,?_,trivial,CntM.nil,Nat.le_refl _,Nat.le_refl _,World.ownsRow_nil _ _ _ _,rfl⟩
  have:=heap_alloc_new (w.alloc (.cells #[] 154)) (.map #[] 0)
  rw [show (w.alloc (.cells #[] 154)).heap.size=w.heap.size+1 by simp]at this
  exact this
 case round =>
  obtain ⟨k,seen,D,m,es,clock,rfl,hk,hbw,hes,hm,hcnt,hsl,hDl,hown,hD⟩:=hrel
  have hmb:w.heap.size+1<wr.heap.size:=(Array.getElem?_eq_some_iff.1 hes).1
  by_cases hlt:k<items.length
  ·obtain ⟨b,off,_,rfl,hcell,A8,n8,c8,rfl⟩:=hget k hlt
   rw [List.drop_eq_getElem_cons hlt]at hD
   clear hget
   generalize items[k]=y at *
   obtain ⟨y1,y2,fam,y4,y5,y6,y7,y8,y9⟩:=y
   have cf:∀j u,(itVs (y1,y2,fam,y4,y5,y6,y7,y8,y9) ++ [.slice A8 n8 c8])[j]? = some u→wr.cell? ⟨b,off+k*9+j,none⟩=some u:=fun j u h=>(hbw.cell (p:=⟨b,off+k*9+j,none⟩) (World.block_lt_of_cell? w _ (hcell j u h))).trans (hcell j u h)
   have d0:=cf 0 _ rfl
   have d1:=cf 1 _ rfl
   have d2:=cf 2 _ rfl
   have d3:=cf 3 _ rfl
   have d4:=cf 4 _ rfl
   have d5:=cf 5 _ rfl
   have d6:=cf 6 _ rfl
   have d7:=cf 7 _ rfl
   have d8:=cf 8 _ rfl
   rw [Nat.add_zero]at d0
   clear cf hcell
   have g1:((k:Nat):Int)<((items.length:Nat):Int):=by omega
   by_cases hf:fam≤0
   ·have hD':dupA [] (famL items)=D ++ dupA seen (famL (items.drop (k+1))):=by
     rw [hD]
     congr 2
     unfold famL
     rw [List.map_cons,List.filter_cons_of_neg (by simpa using hf)]
    go_wp2
    refine ⟨⟨k+1,seen,D,m,es,clock,by simp,by omega,hbw.alloc hbw.size _,?_,hm.keep (noKeeps (by simp)) fun _ _ h=>h,hcnt,by omega,by omega,hown.alloc _,hD'⟩,?_⟩
    ·rw [Lib.alloc_old _ _ _ hmb];exact hes
    ·simp only [intOf]
     omega
   ·have hD1:dupA [] (famL items)=D ++ if seen.count fam=1 then fam :: dupA (fam :: seen) (famL (items.drop (k+1))) else dupA (fam :: seen) (famL (items.drop (k+1))):=by
     rw [hD]
     congr 1
     conv=>lhs;unfold famL
     rw [List.map_cons,List.filter_cons_of_pos (by simpa using hf)]
     rfl
    clear hD
    obtain ⟨O,hO⟩:∃O,O=Obj.cells #[.int .i64 y1,.string (bs y2),.int .i64 fam,.int .i64 y4,.int .i64 y5,.int .i64 y6,.int .i64 y7,.int .i64 y8,.slice A8 n8 c8] 54 (0,0):=⟨_,rfl⟩
    have hesA:(wr.alloc O).heap[w.heap.size+1]? = some (.map es clock):=by rw [Lib.alloc_old _ _ _ hmb];exact hes
    have hmA:MapR (wr.alloc O) noZ (.int .i64) m es.toList:=hm.keep (noKeeps (by simp)) fun _ _ h=>h
    have hnA:(wr.alloc O).heap[wr.heap.size]? = some O:=heap_alloc_new wr O
    have L1:=cnt_w hesA hmA hcnt fam
    obtain ⟨es',clock',hu,hm'⟩:=update_run (P:=Tryz.prog) (kd:=.int .i64) (ty:=cT) (q:=.int .i64 fam) (y:=i64 ((seen.count fam:Nat)+1)) (v:=.int .i64 ((seen.count fam:Nat)+1)) Tryz.underlying256 Tryz.underlying3 rfl hesA hmA rfl (.lit rfl)
    have hcnt':=hcnt.put fam
    have hcl:seen.count fam≤seen.length:=List.count_le_length
    have hmbA:w.heap.size+1<(wr.alloc O).heap.size:=by simp;omega
    have hBA:Below w.heap.size w (wr.alloc O):=hbw.alloc hbw.size _
    obtain ⟨W2,hW2⟩:∃W2,W2={ wr.alloc O with heap:=(wr.alloc O).heap.setIfInBounds (w.heap.size+1) (.map es' clock') }:=⟨_,rfl⟩
    rw [←hW2]at hu
    have o2:∀g,g≠w.heap.size+1→W2.heap[g]? = (wr.alloc O).heap[g]?:=fun g hg=>by
     rw [hW2]
     exact Array.getElem?_setIfInBounds_ne (by omega)
    have e2:W2.heap[w.heap.size+1]? = some (.map es' clock'):=by
     rw [hW2]
     exact Array.getElem?_setIfInBounds_self_of_lt hmbA
    have z2:W2.heap.size=wr.heap.size+1:=by rw [hW2];simp
    have hB2:Below w.heap.size w W2:=by
     refine ⟨?_,?_,?_,by rw [z2];have:=hbw.size;omega,fun j hj=>(o2 j (by omega)).trans (hBA.block j hj)⟩
     ·rw [hW2];exact hbw.os
     ·rw [hW2];exact hbw.tape
     ·rw [hW2];exact hbw.output
    have hm2:MapR W2 noZ (.int .i64) (mputA m (.int .i64 fam) (i64 ((seen.count fam:Nat)+1))) es'.toList:=hm'.keep (noKeeps (by rw [z2];simp)) fun _ _ h=>h
    have L2:=cnt_w e2 hm2 hcnt' fam
    rw [List.count_cons_self]at L2
    have f2:W2.cell? ⟨wr.heap.size,2,none⟩=some (.int .i64 fam):=by
     have:=(o2 wr.heap.size (by omega)).trans hnA
     rw [hO]at this
     rw [Lib.cell_of_heap this];rfl
    have hown2:W2.ownsRow (w.heap.size+2) 3 1 _ D.length (D.map fun z=>Value.int .i64 z):=own_at (hown.alloc O) fun g hg _=>o2 g (by omega)
    clear hW2 hm' hesA hmA hnA hcnt hm
    subst hO
    generalize hcx:seen.count fam=cx at *
    have hcb:(cx:Int)+1≤1048577:=by omega
    have g3:¬fam≤0:=hf
    by_cases h1:cx=1
    ·subst h1
     rw [if_pos rfl]at hD1
     rw [show (((1:Nat):Int)+1)=2 from rfl]at hu
     rw [show ((1:Nat):Int)=1 from rfl]at L1
     rw [show ((1+1:Nat):Int)=2 from rfl]at L2
     go_wp2_with (at_builtin;refine wpList_append_own _ rfl _ _ 27 rfl (w.heap.size+2) 3 i0 (.int .i64 0) 1 8 Tryz.underlying27 hi0 hz0 hz1 hz2 rfl (by decide) _ _ _ rfl (hown2.alloc _) _ _ _ [.int .i64 fam] rfl rfl ?c1 ?c2 ?c3 ?c4 ?c5 ?_)
     case c3=>unfold maxLen;omega
     case c4=>omega
     case c5=>omega
     intro v' w3 hown3 hgrow _
     rw [show (D.map fun z=>Value.int .i64 z) ++ [.int .i64 fam]=(D ++ [fam]).map fun z=>Value.int .i64 z by simp]at hown3
     have hne:∀g,g<w.heap.size+2→some g≠Value.ownBlock u6:=fun g hg he=>by have:=(own_zone hown2 he.symm).1;omega
     have hs3:W2.heap.size≤w3.heap.size:=by have:=hgrow.size;simp at this;omega
     have hblk:∀g,g<w.heap.size+2→w3.heap[g]? = W2.heap[g]?:=fun g hg=>(hgrow.block g (by simp;omega) (hne g hg)).trans (Lib.alloc_old _ _ _ (by omega))
     go_wp2
     refine ⟨⟨k+1,fam :: seen,D ++ [fam],_,es',clock',by simp,by omega,⟨hgrow.os.trans hB2.os,hgrow.tape.trans hB2.tape,hgrow.output.trans hB2.output,Nat.le_trans hB2.size hs3,fun j hj=>(hblk j (by omega)).trans (hB2.block j hj)⟩,(hblk _ (by omega)).trans e2,hm2.keep (noKeeps hs3) fun _ _ h=>h,hcnt',by simp;omega,by simp;omega,?_,by rw [hD1];simp⟩,?_⟩
     ·rw [List.length_append];exact hown3
     ·simp only [intOf]
      omega
    ·rw [if_neg h1]at hD1
     have g4:((cx:Int)+1 == 2)=false:=by rw [beq_eq_false_iff_ne];omega
     have L2:(Instr.lookup cT (.map (some (w.heap.size+1))) (.int .i64 fam) false).run Tryz.prog W2=.ok (.int .i64 ((cx:Int)+1)) W2:=L2
     clear h1
     go_wp2
     refine ⟨⟨k+1,fam :: seen,D,_,es',clock',by simp,by omega,hB2,e2,hm2,hcnt',by simp;omega,by omega,hown2,hD1⟩,?_⟩
     simp only [intOf]
     omega
  ·obtain rfl:k=items.length:=by omega
   rw [List.drop_length]at hD
   have hD:dupA [] (famL items)=D:=by rw [hD];simp [famL,dupA]
   have g1:¬((items.length:Nat):Int)<((items.length:Nat):Int):=by omega
   unfold repE at hR
   rw [hD]at hR
   clear hget hcnt hm hes hD
   rcases hown.2 with ⟨hv,h0⟩|⟨g,cap,cur,hv,hg1,hg2,hg3,hg4,hg5,hg6⟩
   ·obtain rfl:=List.length_eq_zero_iff.1 h0
    have hR:R=[]:=by rw [←hR];simp
    subst hR
    subst hv
    go_wp2_with (go_at_call 236;refine (Tryz.slices_Sort_int_none none 0 wr).mono ?_;rintro e w' ⟨rfl,rfl⟩)
    go_ret
    exact ⟨_,rfl,hbw,.nil⟩
   ·subst hv
    have hgl:g<wr.heap.size:=(Array.getElem?_eq_some_iff.1 hg2).1
    have hH:=holds_of_blockI hg2 (by rw [Nat.mul_one]at hg6;exact hg6)
    go_wp2_with (go_at_call 236;refine (Tryz.slices_Sort_int g 0 cap D wr hH hgl (by omega)).mono ?_;rintro e w' ⟨rfl,nn,os,rfl⟩)
    go_ret
    have hown2:=ownsRow_sortedI (n:=nn) (os:=os) (ts:=R) (by rw [←hR];simp) hg1 hg2 hg3 hg4 hg5
    have hlR:D.length=R.length:=by rw [←hR];simp
    refine ⟨_,rfl,?_,ints_rep hlR hown2 fun g' hg' o=>?_⟩
    ·have hgr:=grownBy_sortedI (w:=wr) (g:=g) (n:=nn) (os:=os) R.toArray
     exact grown_below hbw hgr (by omega)
    ·have:=own_zone hown2 hg'
     exact .inr ⟨by omega,this.2⟩
end Go.Proofs.YtmegoiaijfeilaaGreatDoor
set_option linter.unusedSimpArgs false
set_option linter.unusedVariables false
namespace Go.Proofs.YtmegoiaijfeilaaGreatDoor
open Go.RowKit Lim
def msr (r:RuleV) (y:PI):Int :=
 if r.k=1 then oneI (underB y.2.1 r.code) else
 if r.k=2 then y.2.2.2.2.1 else
 if r.k=3 then y.2.2.2.2.2.1 else
 if r.k=4 then y.2.2.2.2.2.2.1 else oneI (y.2.2.2.2.2.2.2.1 == r.n)
def brkE (r:RuleV) (items:List PI):Bool :=
 if r.k=6 then totE (setM r.n) items 0 != 0 && outB r.lo r.hi (totE (setM r.n) items 0) else
 if r.k=7 then !(hasE items r.n) else
 if r.k=8 then hasE items r.n else
 if r.k=9 then !(repE items).isEmpty else outB r.lo r.hi (totE (msr r) items 0)
def excE (r:RuleV) (items:List PI):Bool :=
 if r.k=6 then decide (r.hi<totE (setM r.n) items 0) else
 if r.k=7 then false else
 if r.k=8 then hasE items r.n else
 if r.k=9 then !(repE items).isEmpty else decide (r.hi<totE (msr r) items 0)
abbrev brk : String := "examboard/blueprint.broken"
section
variable {a b c d:AV}
theorem agg4 {w:World} {Z:Zone} {v:Value} (h:Rep w Z (.agg [a,b,c,d]) v):∃x y z u,v=.agg #[x,y,z,u]∧Rep w Z (.agg [a,b,c]) (.agg #[x,y,z]):=by
 cases h with
 | @agg cs us hl hr =>
  refine ⟨us[0]'(by rw [hl];simp),us[1]'(by rw [hl];simp),us[2]'(by rw [hl];simp),us[3]'(by rw [hl];simp),?_,.agg rfl fun j hj=>?_⟩
  ·congr 1
   apply Array.ext
   ·exact hl
   ·intro i hi _
    have:i<4:=by rw [hl]at hi;simpa using hi
    match i,this with
    | 0,_=>rfl
    | 1,_=>rfl
    | 2,_=>rfl
    | 3,_=>rfl
  ·have:j<3:=by simpa using hj
   match j,this with
   | 0,_=>exact hr 0 (by simp)
   | 1,_=>exact hr 1 (by simp)
   | 2,_=>exact hr 2 (by simp)
theorem bm_content:Meth Tryz.prog 141 brk (.agg [a,b,c,d]) 196 (.agg [a,b,c]):=fun w Z v h=>by
 obtain ⟨x,y,z,u,rfl,h1⟩:=agg4 h
 exact ⟨.agg #[x,y,z],by kernel_rfl,h1⟩
theorem bm_key:Meth Tryz.prog 147 brk (.agg [a,b,c,d]) 196 (.agg [a,b,c]):=fun w Z v h=>by
 obtain ⟨x,y,z,u,rfl,h1⟩:=agg4 h
 exact ⟨.agg #[x,y,z],by kernel_rfl,h1⟩
theorem bm_words:Meth Tryz.prog 143 brk (.agg [a,b,c]) 196 (.agg [a,b,c]):=fun w Z v h=>by
 obtain ⟨x,y,z,rfl,_,_,_⟩:=agg3 h
 exact ⟨.agg #[x,y,z],by kernel_rfl,h⟩
theorem bm_seconds:Meth Tryz.prog 144 brk (.agg [a,b,c]) 196 (.agg [a,b,c]):=fun w Z v h=>by
 obtain ⟨x,y,z,rfl,_,_,_⟩:=agg3 h
 exact ⟨.agg #[x,y,z],by kernel_rfl,h⟩
theorem bm_points:Meth Tryz.prog 145 brk (.agg [a,b,c]) 196 (.agg [a,b,c]):=fun w Z v h=>by
 obtain ⟨x,y,z,rfl,_,_,_⟩:=agg3 h
 exact ⟨.agg #[x,y,z],by kernel_rfl,h⟩
theorem bm_set:Meth Tryz.prog 149 brk (.agg [a,b,c]) 208 (.agg [a,b,c]):=fun w Z v h=>⟨v,by kernel_rfl,h⟩
theorem bm_inc:Meth Tryz.prog 151 brk (.agg [a]) 214 (.agg [a]):=fun w Z v h=>⟨v,by kernel_rfl,h⟩
theorem bm_exc:Meth Tryz.prog 152 brk (.agg [a]) 223 (.agg [a]):=fun w Z v h=>⟨v,by kernel_rfl,h⟩
theorem bm_fam:Meth Tryz.prog 154 brk (.agg []) 229 (.agg []):=fun w Z v h=>⟨v,by kernel_rfl,h⟩
end
theorem brkR_c (r:RuleV) (items:List PI) (hl:items.length≤1048576) (hr:RIn r) (hk:demOk r=true):∃t a f a',demV r=.ifc t a∧Meth Tryz.prog t brk a f a'∧AT f [a',.sl 9 (items.map itA)] (boo (brkE r items)):=by
 have hc:=hr.code
 obtain ⟨k,n,lo,hi,code⟩:=r
 rcases dem_kind hk with h|h|h|h|h|h|h|h|h <;> (have h:k=_:=h) <;> subst h
 ·have e:msr ⟨1,n,lo,hi,code⟩=fun y=>oneI (underB y.2.1 code):=rfl
  have M:=mbrk_c (f:=87) (pre:=[]) (post:=[.ptr (ruleC ⟨1,n,lo,hi,code⟩)]) (fun y=>oneI (underB y.2.1 code)) items lo hi hl rfl (fun y _=>ms1_c y ⟨1,n,lo,hi,code⟩ hc)
  exact ⟨_,_,_,_,rfl,bm_content,M⟩
 ·have M:=mbrk_c (f:=89) (pre:=[]) (post:=[]) (fun y=>y.2.2.2.2.1) items lo hi hl rfl (fun y _=>ms2_c y)
  exact ⟨_,_,_,_,rfl,bm_words,M⟩
 ·have M:=mbrk_c (f:=90) (pre:=[]) (post:=[]) (fun y=>y.2.2.2.2.2.1) items lo hi hl rfl (fun y _=>ms3_c y)
  exact ⟨_,_,_,_,rfl,bm_seconds,M⟩
 ·have M:=mbrk_c (f:=91) (pre:=[]) (post:=[]) (fun y=>y.2.2.2.2.2.2.1) items lo hi hl rfl (fun y _=>ms4_c y)
  exact ⟨_,_,_,_,rfl,bm_points,M⟩
 ·have M:=mbrk_c (f:=92) (pre:=[]) (post:=[.ptr (ruleC ⟨5,n,lo,hi,code⟩)]) (fun y=>oneI (y.2.2.2.2.2.2.2.1 == n)) items lo hi hl rfl (fun y _=>ms5_c y ⟨5,n,lo,hi,code⟩)
  exact ⟨_,_,_,_,rfl,bm_key,M⟩
 ·exact ⟨_,_,_,_,rfl,bm_set,sbrk_c lo hi n items hl⟩
 ·exact ⟨_,_,_,_,rfl,bm_inc,ibrk_c items n hl⟩
 ·exact ⟨_,_,_,_,rfl,bm_exc,ebrk_c items n hl⟩
 ·exact ⟨_,_,_,_,rfl,bm_fam,fbrk_c items _ (rep_c items hl)⟩
end Go.Proofs.YtmegoiaijfeilaaGreatDoor
set_option linter.unusedSimpArgs false
set_option linter.unusedVariables false
namespace Go.Proofs.YtmegoiaijfeilaaGreatDoor
open Go.RowKit Lim
def idxs:List Bool→Nat→List Int
 | [],_=>[]
 | b :: l,i=>if b then (i:Int) :: idxs l (i+1) else idxs l (i+1)
def judgeE (wrong conf:Bool) (fs:List Bool):List Int:=(if wrong then [-1] else []) ++ ((if conf then [-2] else []) ++ idxs fs 0)
section
variable {n:Int} {rs:List RuleV} {prs chosen:AV} {f:FuncId} {pre post:List AV} {cs:List (Int × Int)} {ds:List AV} {fs:List Bool}
set_option maxHeartbeats 4000000 in
theorem judge_ff (hl:ds.length≤1000) (hfl:fs.length=ds.length) (h1:∀d∈ds,d.one=true) (h2:∀d∈ds,normA Go.Proofs.YtmegoiaijfeilaaGreatDoor.tab 75 d=d) (CF:AT 46 [prs,chosen] (.sl 2 (cs.map prA))) (hcs:cs.isEmpty=true) (hp:∃k l,prs=.sl k l) (hch:∃k l,chosen=.sl k l) (DM:AT 45 [.agg [i64 n,rulesA rs]] (.sl 1 ds)) (hnl:(AV.fn (.func f) pre post).noLimb=true)
  (hf:∀i (hi:i<ds.length) (hi2:i<fs.length),AT f (pre ++ ds[i] :: post) (boo fs[i])):AT 36 [.agg [i64 n,rulesA rs],prs,chosen,boo false,.fn (.func f) pre post] (.sl 1 ((judgeE false false fs).map fun z=>i64 z)):=by
 obtain ⟨k1,l1,rfl⟩:=hp
 obtain ⟨k2,l2,rfl⟩:=hch
 obtain ⟨R,hR⟩:∃R,R=judgeE false false fs:=⟨_,rfl⟩
 rw [←hR]
 have hR:R=[] ++ idxs fs 0:=hR
 have c0:decide ((0:Int)<(cs.length:Nat))=false:=by cases cs <;> simp at hcs ⊢
 refine ACalls.of ⟨30,[],[]⟩ (fn:=Tryz.f36) Tryz.func36 rfl rfl rfl (by kernel_rfl) (by kernel_rfl) (Nat.le_of_ble_eq_true rfl) ?_
 simp (maxSteps:=1000000) -implicitDefEqProofs only [hnl,go_sem,awp_seq,Nat.reduceBEq,Nat.reduceAdd,Nat.reduceLT]
 refine callA_tt CF ?_
 simp (maxSteps:=1000000) -implicitDefEqProofs only [c0,List.length_map,go_sem,awp_seq,Nat.reduceBEq,Nat.reduceAdd,Nat.reduceLT]
 refine callA_tt DM ?_
 simp (maxSteps:=1000000) -implicitDefEqProofs only [go_sem,awp_seq,Nat.reduceBEq]
 refine loop_mk (α:={x:Nat × List Int × Bool // x.1≤ds.length∧(x.2.2=false→x.2.1=[])∧R=x.2.1 ++ idxs (fs.drop x.1) x.1∧x.2.1.length≤x.1+2}) (fun x=>[(4,some (.av (.fn (.func f) pre post))),(10,some (.av (.lit (.slice none 0 0)))),(11,some (bif x.1.2.2 then .osl 40 1 0 x.1.2.1.length else .av (.lit (.slice none 0 0)))),(27,some (.av (.sl 1 ds))),(28,some (.av (i64 (ds.length:Nat)))),(29,some (.av (i64 (x.1.1:Nat))))]) (fun _=>[]) (fun x=>bif x.1.2.2 then [(40,.row 3 1 (x.1.2.1.map fun z=>i64 z))] else []) (fun x=>ds.length-x.1.1) ⟨(0,[],false),Nat.zero_le _,fun _=>rfl,hR,by decide⟩ ?_ ?_
 ·simp (maxSteps:=1000000) -implicitDefEqProofs only [cond_false,go_sem,awp_seq,Nat.reduceBEq,Int.cast_ofNat_Int]
 clear hR
 rintro ⟨⟨k,acc,fl⟩,hk,h0,hR,hal⟩
 dsimp only at hk h0 hR hal
 by_cases hlt:k<ds.length
 ·have g1:decide (((k:Nat):Int)<(ds.length:Nat))=true:=by simp;omega
  have e1:ds[k]? = some ds[k]:=List.getElem?_eq_getElem hlt
  have w1:IntKind.i64.wrap ((k:Int)+1)=((k+1:Nat):Int):=by rw [IntWalk.i64_in _ (by omega)];omega
  have F:=hf k hlt (by omega)
  have o1:=h1 _ (List.getElem_mem hlt)
  have o4:=AV.cells_one o1
  have o2:=h2 _ (List.getElem_mem hlt)
  rw [List.drop_eq_getElem_cons (show k<fs.length by omega)]at hR
  generalize ds[k]=d at *
  generalize fs[k]'(by omega)=b at *
  unfold idxs at hR
  cases b with
  | false =>
   have hR:R=acc ++ idxs (fs.drop (k+1)) (k+1):=hR
   cases fl with
   | false =>
    simp (maxSteps:=1000000) -implicitDefEqProofs only [g1,e1,o1,o2,o4,cond_false,Int.toNat_natCast,Int.natCast_nonneg,go_sem,awp_seq,Nat.reduceBEq,Nat.reduceLeDiff,Nat.reduceLT]
    refine callA_t F ?_
    simp (maxSteps:=1000000) -implicitDefEqProofs only [w1,go_sem,awp_seq,Nat.reduceBEq,Nat.reduceLeDiff,Nat.reduceLT]
    refine roundK_mk ⟨(k+1,acc,false),by show k+1≤_;omega,h0,hR,by show acc.length≤k+1+2;omega⟩ ?_ (by show ds.length-(k+1)<ds.length-k;omega)
    simp (maxSteps:=1000000) -implicitDefEqProofs only [cond_false,go_sem,awp_seq,Nat.reduceBEq]
   | true =>
    simp (maxSteps:=1000000) -implicitDefEqProofs only [g1,e1,o1,o2,o4,cond_true,Int.toNat_natCast,Int.natCast_nonneg,go_sem,awp_seq,Nat.reduceBEq,Nat.reduceLeDiff,Nat.reduceLT]
    refine callA_t F ?_
    simp (maxSteps:=1000000) -implicitDefEqProofs only [w1,go_sem,awp_seq,Nat.reduceBEq,Nat.reduceLeDiff,Nat.reduceLT]
    refine roundK_mk ⟨(k+1,acc,true),by show k+1≤_;omega,h0,hR,by show acc.length≤k+1+2;omega⟩ ?_ (by show ds.length-(k+1)<ds.length-k;omega)
    simp (maxSteps:=1000000) -implicitDefEqProofs only [cond_true,go_sem,awp_seq,Nat.reduceBEq]
  | true =>
   have hR:R=(acc ++ [(k:Int)]) ++ idxs (fs.drop (k+1)) (k+1):=by rw [List.append_assoc];exact hR
   cases fl with
   | false =>
    obtain rfl:=h0 rfl
    simp (maxSteps:=1000000) -implicitDefEqProofs only [g1,e1,o1,o2,o4,cond_false,Int.toNat_natCast,Int.natCast_nonneg,go_sem,awp_seq,Nat.reduceBEq,Nat.reduceLeDiff,Nat.reduceLT]
    refine callA_t F ?_
    simp (maxSteps:=1000000) -implicitDefEqProofs only [w1,List.length_cons,List.length_nil,List.cons_append,List.nil_append,go_sem,awp_seq,Nat.reduceBEq,Nat.reduceMul,Nat.reduceLeDiff,Nat.reduceLT]
    refine roundK_mk ⟨(k+1,[(k:Int)],true),by show k+1≤_;omega,fun h=>(by cases h),hR,by show 1≤k+1+2;omega⟩ ?_ (by show ds.length-(k+1)<ds.length-k;omega)
    simp (maxSteps:=1000000) -implicitDefEqProofs only [cond_true,List.length_cons,List.length_nil,List.map_cons,List.map_nil,go_sem,awp_seq,Nat.reduceBEq]
   | true =>
    have ml:(acc.map fun z=>i64 z).length=acc.length:=List.length_map _
    simp (maxSteps:=1000000) -implicitDefEqProofs only [g1,e1,o1,o2,o4,cond_true,Int.toNat_natCast,Int.natCast_nonneg,go_sem,awp_seq,Nat.reduceBEq,Nat.reduceLeDiff,Nat.reduceLT]
    refine callA_t F ?_
    simp (maxSteps:=1000000) -implicitDefEqProofs only [w1,ml,go_sem,awp_seq,Nat.reduceBEq,Nat.reduceMul,Nat.reduceLeDiff,Nat.reduceLT]
    refine ⟨by omega,by omega,?_⟩
    refine roundK_mk ⟨(k+1,acc ++ [(k:Int)],true),by show k+1≤_;omega,fun h=>(by cases h),hR,by show (acc ++ [(k:Int)]).length≤k+1+2;simp;omega⟩ ?_ (by show ds.length-(k+1)<ds.length-k;omega)
    simp (maxSteps:=1000000) -implicitDefEqProofs only [cond_true,List.length_append,List.length_cons,List.length_nil,List.map_append,List.map_cons,List.map_nil,go_sem,awp_seq,Nat.reduceBEq]
 ·obtain rfl:k=ds.length:=by omega
  rw [List.drop_of_length_le (by omega)]at hR
  have hR:R=acc:=by rw [hR];simp [idxs]
  subst hR
  have g1:decide (((ds.length:Nat):Int)<(ds.length:Nat))=false:=by simp
  cases fl with
  | false =>
   obtain rfl:=h0 rfl
   simp (maxSteps:=1000000) -implicitDefEqProofs only [g1,cond_false,List.map_cons,List.map_nil,go_sem,awp_seq,Nat.reduceBEq,Nat.reduceLT]
   all_goals rfl
  | true =>
   have tk:(R.map fun z=>i64 z).take R.length=R.map fun z=>i64 z:=List.take_of_length_le (by rw [List.length_map];exact Nat.le_refl _)
   simp (maxSteps:=1000000) -implicitDefEqProofs only [g1,tk,cond_true,go_sem,awp_seq,Nat.reduceBEq,Nat.reduceLT]
   exact Nat.le_of_eq (List.length_map _).symm
set_option maxHeartbeats 4000000 in
theorem judge_ft (hl:ds.length≤1000) (hfl:fs.length=ds.length) (h1:∀d∈ds,d.one=true) (h2:∀d∈ds,normA Go.Proofs.YtmegoiaijfeilaaGreatDoor.tab 75 d=d) (CF:AT 46 [prs,chosen] (.sl 2 (cs.map prA))) (hcs:cs.isEmpty=false) (hp:∃k l,prs=.sl k l) (hch:∃k l,chosen=.sl k l) (DM:AT 45 [.agg [i64 n,rulesA rs]] (.sl 1 ds)) (hnl:(AV.fn (.func f) pre post).noLimb=true)
  (hf:∀i (hi:i<ds.length) (hi2:i<fs.length),AT f (pre ++ ds[i] :: post) (boo fs[i])):AT 36 [.agg [i64 n,rulesA rs],prs,chosen,boo false,.fn (.func f) pre post] (.sl 1 ((judgeE false true fs).map fun z=>i64 z)):=by
 obtain ⟨k1,l1,rfl⟩:=hp
 obtain ⟨k2,l2,rfl⟩:=hch
 obtain ⟨R,hR⟩:∃R,R=judgeE false true fs:=⟨_,rfl⟩
 rw [←hR]
 have hR:R=[-2] ++ idxs fs 0:=hR
 have c0:decide ((0:Int)<(cs.length:Nat))=true:=by cases cs <;> simp at hcs ⊢
 refine ACalls.of ⟨30,[],[]⟩ (fn:=Tryz.f36) Tryz.func36 rfl rfl rfl (by kernel_rfl) (by kernel_rfl) (Nat.le_of_ble_eq_true rfl) ?_
 simp (maxSteps:=1000000) -implicitDefEqProofs only [hnl,go_sem,awp_seq,Nat.reduceBEq,Nat.reduceAdd,Nat.reduceLT]
 refine callA_tt CF ?_
 simp (maxSteps:=1000000) -implicitDefEqProofs only [c0,List.length_map,go_sem,awp_seq,Nat.reduceBEq,Nat.reduceAdd,Nat.reduceMul,Nat.reduceLeDiff,Nat.reduceLT]
 refine callA_tt DM ?_
 simp (maxSteps:=1000000) -implicitDefEqProofs only [go_sem,awp_seq,Nat.reduceBEq]
 refine loop_mk (α:={x:Nat × List Int × Bool // x.1≤ds.length∧(x.2.2=false→x.2.1=[-2])∧R=x.2.1 ++ idxs (fs.drop x.1) x.1∧x.2.1.length≤x.1+2}) (fun x=>[(4,some (.av (.fn (.func f) pre post))),(10,some (.av (.lit (.slice none 0 0)))),(11,some (bif x.1.2.2 then .osl 40 1 0 x.1.2.1.length else .osl 25 1 0 1)),(27,some (.av (.sl 1 ds))),(28,some (.av (i64 (ds.length:Nat)))),(29,some (.av (i64 (x.1.1:Nat))))]) (fun _=>[]) (fun x=>bif x.1.2.2 then [(40,.row 3 1 (x.1.2.1.map fun z=>i64 z))] else [(25,.row 3 1 [i64 (-2)])]) (fun x=>ds.length-x.1.1) ⟨(0,[-2],false),Nat.zero_le _,fun _=>rfl,hR,by decide⟩ ?_ ?_
 ·simp (maxSteps:=1000000) -implicitDefEqProofs only [cond_false,go_sem,awp_seq,Nat.reduceBEq,Int.cast_ofNat_Int]
 clear hR
 rintro ⟨⟨k,acc,fl⟩,hk,h0,hR,hal⟩
 dsimp only at hk h0 hR hal
 by_cases hlt:k<ds.length
 ·have g1:decide (((k:Nat):Int)<(ds.length:Nat))=true:=by simp;omega
  have e1:ds[k]? = some ds[k]:=List.getElem?_eq_getElem hlt
  have w1:IntKind.i64.wrap ((k:Int)+1)=((k+1:Nat):Int):=by rw [IntWalk.i64_in _ (by omega)];omega
  have F:=hf k hlt (by omega)
  have o1:=h1 _ (List.getElem_mem hlt)
  have o4:=AV.cells_one o1
  have o2:=h2 _ (List.getElem_mem hlt)
  rw [List.drop_eq_getElem_cons (show k<fs.length by omega)]at hR
  generalize ds[k]=d at *
  generalize fs[k]'(by omega)=b at *
  unfold idxs at hR
  cases b with
  | false =>
   have hR:R=acc ++ idxs (fs.drop (k+1)) (k+1):=hR
   cases fl with
   | false =>
    simp (maxSteps:=1000000) -implicitDefEqProofs only [g1,e1,o1,o2,o4,cond_false,Int.toNat_natCast,Int.natCast_nonneg,go_sem,awp_seq,Nat.reduceBEq,Nat.reduceLeDiff,Nat.reduceLT]
    refine callA_t F ?_
    simp (maxSteps:=1000000) -implicitDefEqProofs only [w1,go_sem,awp_seq,Nat.reduceBEq,Nat.reduceLeDiff,Nat.reduceLT]
    refine roundK_mk ⟨(k+1,acc,false),by show k+1≤_;omega,h0,hR,by show acc.length≤k+1+2;omega⟩ ?_ (by show ds.length-(k+1)<ds.length-k;omega)
    simp (maxSteps:=1000000) -implicitDefEqProofs only [cond_false,go_sem,awp_seq,Nat.reduceBEq]
   | true =>
    simp (maxSteps:=1000000) -implicitDefEqProofs only [g1,e1,o1,o2,o4,cond_true,Int.toNat_natCast,Int.natCast_nonneg,go_sem,awp_seq,Nat.reduceBEq,Nat.reduceLeDiff,Nat.reduceLT]
    refine callA_t F ?_
    simp (maxSteps:=1000000) -implicitDefEqProofs only [w1,go_sem,awp_seq,Nat.reduceBEq,Nat.reduceLeDiff,Nat.reduceLT]
    refine roundK_mk ⟨(k+1,acc,true),by show k+1≤_;omega,h0,hR,by show acc.length≤k+1+2;omega⟩ ?_ (by show ds.length-(k+1)<ds.length-k;omega)
    simp (maxSteps:=1000000) -implicitDefEqProofs only [cond_true,go_sem,awp_seq,Nat.reduceBEq]
  | true =>
   have hR:R=(acc ++ [(k:Int)]) ++ idxs (fs.drop (k+1)) (k+1):=by rw [List.append_assoc];exact hR
   cases fl with
   | false =>
    obtain rfl:=h0 rfl
    simp (maxSteps:=1000000) -implicitDefEqProofs only [g1,e1,o1,o2,o4,cond_false,Int.toNat_natCast,Int.natCast_nonneg,go_sem,awp_seq,Nat.reduceBEq,Nat.reduceLeDiff,Nat.reduceLT]
    refine callA_t F ?_
    simp (maxSteps:=1000000) -implicitDefEqProofs only [w1,List.length_cons,List.length_nil,List.cons_append,List.nil_append,go_sem,awp_seq,Nat.reduceBEq,Nat.reduceAdd,Nat.reduceMul,Nat.reduceLeDiff,Nat.reduceLT]
    refine roundK_mk ⟨(k+1,[-2,(k:Int)],true),by show k+1≤_;omega,fun h=>(by cases h),hR,by show 2≤k+1+2;omega⟩ ?_ (by show ds.length-(k+1)<ds.length-k;omega)
    simp (maxSteps:=1000000) -implicitDefEqProofs only [cond_true,List.length_cons,List.length_nil,List.map_cons,List.map_nil,go_sem,awp_seq,Nat.reduceBEq,Nat.reduceAdd]
   | true =>
    have ml:(acc.map fun z=>i64 z).length=acc.length:=List.length_map _
    simp (maxSteps:=1000000) -implicitDefEqProofs only [g1,e1,o1,o2,o4,cond_true,Int.toNat_natCast,Int.natCast_nonneg,go_sem,awp_seq,Nat.reduceBEq,Nat.reduceLeDiff,Nat.reduceLT]
    refine callA_t F ?_
    simp (maxSteps:=1000000) -implicitDefEqProofs only [w1,ml,go_sem,awp_seq,Nat.reduceBEq,Nat.reduceMul,Nat.reduceLeDiff,Nat.reduceLT]
    refine ⟨by omega,by omega,?_⟩
    refine roundK_mk ⟨(k+1,acc ++ [(k:Int)],true),by show k+1≤_;omega,fun h=>(by cases h),hR,by show (acc ++ [(k:Int)]).length≤k+1+2;simp;omega⟩ ?_ (by show ds.length-(k+1)<ds.length-k;omega)
    simp (maxSteps:=1000000) -implicitDefEqProofs only [cond_true,List.length_append,List.length_cons,List.length_nil,List.map_append,List.map_cons,List.map_nil,go_sem,awp_seq,Nat.reduceBEq]
 ·obtain rfl:k=ds.length:=by omega
  rw [List.drop_of_length_le (by omega)]at hR
  have hR:R=acc:=by rw [hR];simp [idxs]
  subst hR
  have g1:decide (((ds.length:Nat):Int)<(ds.length:Nat))=false:=by simp
  cases fl with
  | false =>
   obtain rfl:=h0 rfl
   simp (maxSteps:=1000000) -implicitDefEqProofs only [g1,cond_false,List.map_cons,List.map_nil,go_sem,awp_seq,Nat.reduceBEq,Nat.reduceLT]
   all_goals rfl
  | true =>
   have tk:(R.map fun z=>i64 z).take R.length=R.map fun z=>i64 z:=List.take_of_length_le (by rw [List.length_map];exact Nat.le_refl _)
   simp (maxSteps:=1000000) -implicitDefEqProofs only [g1,tk,cond_true,go_sem,awp_seq,Nat.reduceBEq,Nat.reduceLT]
   exact Nat.le_of_eq (List.length_map _).symm
set_option maxHeartbeats 4000000 in
theorem judge_tf (hl:ds.length≤1000) (hfl:fs.length=ds.length) (h1:∀d∈ds,d.one=true) (h2:∀d∈ds,normA Go.Proofs.YtmegoiaijfeilaaGreatDoor.tab 75 d=d) (CF:AT 46 [prs,chosen] (.sl 2 (cs.map prA))) (hcs:cs.isEmpty=true) (hp:∃k l,prs=.sl k l) (hch:∃k l,chosen=.sl k l) (DM:AT 45 [.agg [i64 n,rulesA rs]] (.sl 1 ds)) (hnl:(AV.fn (.func f) pre post).noLimb=true)
  (hf:∀i (hi:i<ds.length) (hi2:i<fs.length),AT f (pre ++ ds[i] :: post) (boo fs[i])):AT 36 [.agg [i64 n,rulesA rs],prs,chosen,boo true,.fn (.func f) pre post] (.sl 1 ((judgeE true false fs).map fun z=>i64 z)):=by
 obtain ⟨k1,l1,rfl⟩:=hp
 obtain ⟨k2,l2,rfl⟩:=hch
 obtain ⟨R,hR⟩:∃R,R=judgeE true false fs:=⟨_,rfl⟩
 rw [←hR]
 have hR:R=[-1] ++ idxs fs 0:=hR
 have c0:decide ((0:Int)<(cs.length:Nat))=false:=by cases cs <;> simp at hcs ⊢
 refine ACalls.of ⟨30,[],[]⟩ (fn:=Tryz.f36) Tryz.func36 rfl rfl rfl (by kernel_rfl) (by kernel_rfl) (Nat.le_of_ble_eq_true rfl) ?_
 simp (maxSteps:=1000000) -implicitDefEqProofs only [hnl,go_sem,awp_seq,Nat.reduceBEq,Nat.reduceAdd,Nat.reduceMul,Nat.reduceLeDiff,Nat.reduceLT]
 refine callA_tt CF ?_
 simp (maxSteps:=1000000) -implicitDefEqProofs only [c0,List.length_map,go_sem,awp_seq,Nat.reduceBEq,Nat.reduceAdd,Nat.reduceLT]
 refine callA_tt DM ?_
 simp (maxSteps:=1000000) -implicitDefEqProofs only [go_sem,awp_seq,Nat.reduceBEq]
 refine loop_mk (α:={x:Nat × List Int × Bool // x.1≤ds.length∧(x.2.2=false→x.2.1=[-1])∧R=x.2.1 ++ idxs (fs.drop x.1) x.1∧x.2.1.length≤x.1+2}) (fun x=>[(4,some (.av (.fn (.func f) pre post))),(10,some (.av (.lit (.slice none 0 0)))),(11,some (bif x.1.2.2 then .osl 40 1 0 x.1.2.1.length else .osl 17 1 0 1)),(27,some (.av (.sl 1 ds))),(28,some (.av (i64 (ds.length:Nat)))),(29,some (.av (i64 (x.1.1:Nat))))]) (fun _=>[]) (fun x=>bif x.1.2.2 then [(40,.row 3 1 (x.1.2.1.map fun z=>i64 z))] else [(17,.row 3 1 [i64 (-1)])]) (fun x=>ds.length-x.1.1) ⟨(0,[-1],false),Nat.zero_le _,fun _=>rfl,hR,by decide⟩ ?_ ?_
 ·simp (maxSteps:=1000000) -implicitDefEqProofs only [cond_false,go_sem,awp_seq,Nat.reduceBEq,Int.cast_ofNat_Int]
 clear hR
 rintro ⟨⟨k,acc,fl⟩,hk,h0,hR,hal⟩
 dsimp only at hk h0 hR hal
 by_cases hlt:k<ds.length
 ·have g1:decide (((k:Nat):Int)<(ds.length:Nat))=true:=by simp;omega
  have e1:ds[k]? = some ds[k]:=List.getElem?_eq_getElem hlt
  have w1:IntKind.i64.wrap ((k:Int)+1)=((k+1:Nat):Int):=by rw [IntWalk.i64_in _ (by omega)];omega
  have F:=hf k hlt (by omega)
  have o1:=h1 _ (List.getElem_mem hlt)
  have o4:=AV.cells_one o1
  have o2:=h2 _ (List.getElem_mem hlt)
  rw [List.drop_eq_getElem_cons (show k<fs.length by omega)]at hR
  generalize ds[k]=d at *
  generalize fs[k]'(by omega)=b at *
  unfold idxs at hR
  cases b with
  | false =>
   have hR:R=acc ++ idxs (fs.drop (k+1)) (k+1):=hR
   cases fl with
   | false =>
    simp (maxSteps:=1000000) -implicitDefEqProofs only [g1,e1,o1,o2,o4,cond_false,Int.toNat_natCast,Int.natCast_nonneg,go_sem,awp_seq,Nat.reduceBEq,Nat.reduceLeDiff,Nat.reduceLT]
    refine callA_t F ?_
    simp (maxSteps:=1000000) -implicitDefEqProofs only [w1,go_sem,awp_seq,Nat.reduceBEq,Nat.reduceLeDiff,Nat.reduceLT]
    refine roundK_mk ⟨(k+1,acc,false),by show k+1≤_;omega,h0,hR,by show acc.length≤k+1+2;omega⟩ ?_ (by show ds.length-(k+1)<ds.length-k;omega)
    simp (maxSteps:=1000000) -implicitDefEqProofs only [cond_false,go_sem,awp_seq,Nat.reduceBEq]
   | true =>
    simp (maxSteps:=1000000) -implicitDefEqProofs only [g1,e1,o1,o2,o4,cond_true,Int.toNat_natCast,Int.natCast_nonneg,go_sem,awp_seq,Nat.reduceBEq,Nat.reduceLeDiff,Nat.reduceLT]
    refine callA_t F ?_
    simp (maxSteps:=1000000) -implicitDefEqProofs only [w1,go_sem,awp_seq,Nat.reduceBEq,Nat.reduceLeDiff,Nat.reduceLT]
    refine roundK_mk ⟨(k+1,acc,true),by show k+1≤_;omega,h0,hR,by show acc.length≤k+1+2;omega⟩ ?_ (by show ds.length-(k+1)<ds.length-k;omega)
    simp (maxSteps:=1000000) -implicitDefEqProofs only [cond_true,go_sem,awp_seq,Nat.reduceBEq]
  | true =>
   have hR:R=(acc ++ [(k:Int)]) ++ idxs (fs.drop (k+1)) (k+1):=by rw [List.append_assoc];exact hR
   cases fl with
   | false =>
    obtain rfl:=h0 rfl
    simp (maxSteps:=1000000) -implicitDefEqProofs only [g1,e1,o1,o2,o4,cond_false,Int.toNat_natCast,Int.natCast_nonneg,go_sem,awp_seq,Nat.reduceBEq,Nat.reduceLeDiff,Nat.reduceLT]
    refine callA_t F ?_
    simp (maxSteps:=1000000) -implicitDefEqProofs only [w1,List.length_cons,List.length_nil,List.cons_append,List.nil_append,go_sem,awp_seq,Nat.reduceBEq,Nat.reduceAdd,Nat.reduceMul,Nat.reduceLeDiff,Nat.reduceLT]
    refine roundK_mk ⟨(k+1,[-1,(k:Int)],true),by show k+1≤_;omega,fun h=>(by cases h),hR,by show 2≤k+1+2;omega⟩ ?_ (by show ds.length-(k+1)<ds.length-k;omega)
    simp (maxSteps:=1000000) -implicitDefEqProofs only [cond_true,List.length_cons,List.length_nil,List.map_cons,List.map_nil,go_sem,awp_seq,Nat.reduceBEq,Nat.reduceAdd]
   | true =>
    have ml:(acc.map fun z=>i64 z).length=acc.length:=List.length_map _
    simp (maxSteps:=1000000) -implicitDefEqProofs only [g1,e1,o1,o2,o4,cond_true,Int.toNat_natCast,Int.natCast_nonneg,go_sem,awp_seq,Nat.reduceBEq,Nat.reduceLeDiff,Nat.reduceLT]
    refine callA_t F ?_
    simp (maxSteps:=1000000) -implicitDefEqProofs only [w1,ml,go_sem,awp_seq,Nat.reduceBEq,Nat.reduceMul,Nat.reduceLeDiff,Nat.reduceLT]
    refine ⟨by omega,by omega,?_⟩
    refine roundK_mk ⟨(k+1,acc ++ [(k:Int)],true),by show k+1≤_;omega,fun h=>(by cases h),hR,by show (acc ++ [(k:Int)]).length≤k+1+2;simp;omega⟩ ?_ (by show ds.length-(k+1)<ds.length-k;omega)
    simp (maxSteps:=1000000) -implicitDefEqProofs only [cond_true,List.length_append,List.length_cons,List.length_nil,List.map_append,List.map_cons,List.map_nil,go_sem,awp_seq,Nat.reduceBEq]
 ·obtain rfl:k=ds.length:=by omega
  rw [List.drop_of_length_le (by omega)]at hR
  have hR:R=acc:=by rw [hR];simp [idxs]
  subst hR
  have g1:decide (((ds.length:Nat):Int)<(ds.length:Nat))=false:=by simp
  cases fl with
  | false =>
   obtain rfl:=h0 rfl
   simp (maxSteps:=1000000) -implicitDefEqProofs only [g1,cond_false,List.map_cons,List.map_nil,go_sem,awp_seq,Nat.reduceBEq,Nat.reduceLT]
   all_goals rfl
  | true =>
   have tk:(R.map fun z=>i64 z).take R.length=R.map fun z=>i64 z:=List.take_of_length_le (by rw [List.length_map];exact Nat.le_refl _)
   simp (maxSteps:=1000000) -implicitDefEqProofs only [g1,tk,cond_true,go_sem,awp_seq,Nat.reduceBEq,Nat.reduceLT]
   exact Nat.le_of_eq (List.length_map _).symm
set_option maxHeartbeats 4000000 in
theorem judge_tt (hl:ds.length≤1000) (hfl:fs.length=ds.length) (h1:∀d∈ds,d.one=true) (h2:∀d∈ds,normA Go.Proofs.YtmegoiaijfeilaaGreatDoor.tab 75 d=d) (CF:AT 46 [prs,chosen] (.sl 2 (cs.map prA))) (hcs:cs.isEmpty=false) (hp:∃k l,prs=.sl k l) (hch:∃k l,chosen=.sl k l) (DM:AT 45 [.agg [i64 n,rulesA rs]] (.sl 1 ds)) (hnl:(AV.fn (.func f) pre post).noLimb=true)
  (hf:∀i (hi:i<ds.length) (hi2:i<fs.length),AT f (pre ++ ds[i] :: post) (boo fs[i])):AT 36 [.agg [i64 n,rulesA rs],prs,chosen,boo true,.fn (.func f) pre post] (.sl 1 ((judgeE true true fs).map fun z=>i64 z)):=by
 obtain ⟨k1,l1,rfl⟩:=hp
 obtain ⟨k2,l2,rfl⟩:=hch
 obtain ⟨R,hR⟩:∃R,R=judgeE true true fs:=⟨_,rfl⟩
 rw [←hR]
 have hR:R=[-1,-2] ++ idxs fs 0:=hR
 have c0:decide ((0:Int)<(cs.length:Nat))=true:=by cases cs <;> simp at hcs ⊢
 refine ACalls.of ⟨30,[],[]⟩ (fn:=Tryz.f36) Tryz.func36 rfl rfl rfl (by kernel_rfl) (by kernel_rfl) (Nat.le_of_ble_eq_true rfl) ?_
 simp (maxSteps:=1000000) -implicitDefEqProofs only [hnl,go_sem,awp_seq,Nat.reduceBEq,Nat.reduceAdd,Nat.reduceMul,Nat.reduceLeDiff,Nat.reduceLT]
 refine callA_tt CF ?_
 simp (maxSteps:=1000000) -implicitDefEqProofs only [c0,List.length_map,go_sem,awp_seq,Nat.reduceBEq,Nat.reduceAdd,Nat.reduceMul,Nat.reduceLeDiff,Nat.reduceLT]
 refine callA_tt DM ?_
 simp (maxSteps:=1000000) -implicitDefEqProofs only [go_sem,awp_seq,Nat.reduceBEq]
 refine loop_mk (α:={x:Nat × List Int × Bool // x.1≤ds.length∧(x.2.2=false→x.2.1=[-1,-2])∧R=x.2.1 ++ idxs (fs.drop x.1) x.1∧x.2.1.length≤x.1+2}) (fun x=>[(4,some (.av (.fn (.func f) pre post))),(10,some (.av (.lit (.slice none 0 0)))),(11,some (bif x.1.2.2 then .osl 40 1 0 x.1.2.1.length else .osl 25 1 0 2)),(27,some (.av (.sl 1 ds))),(28,some (.av (i64 (ds.length:Nat)))),(29,some (.av (i64 (x.1.1:Nat))))]) (fun _=>[]) (fun x=>bif x.1.2.2 then [(40,.row 3 1 (x.1.2.1.map fun z=>i64 z))] else [(25,.row 3 1 [i64 (-1),i64 (-2)])]) (fun x=>ds.length-x.1.1) ⟨(0,[-1,-2],false),Nat.zero_le _,fun _=>rfl,hR,by decide⟩ ?_ ?_
 ·simp (maxSteps:=1000000) -implicitDefEqProofs only [cond_false,go_sem,awp_seq,Nat.reduceBEq,Nat.reduceAdd,Int.cast_ofNat_Int]
 clear hR
 rintro ⟨⟨k,acc,fl⟩,hk,h0,hR,hal⟩
 dsimp only at hk h0 hR hal
 by_cases hlt:k<ds.length
 ·have g1:decide (((k:Nat):Int)<(ds.length:Nat))=true:=by simp;omega
  have e1:ds[k]? = some ds[k]:=List.getElem?_eq_getElem hlt
  have w1:IntKind.i64.wrap ((k:Int)+1)=((k+1:Nat):Int):=by rw [IntWalk.i64_in _ (by omega)];omega
  have F:=hf k hlt (by omega)
  have o1:=h1 _ (List.getElem_mem hlt)
  have o4:=AV.cells_one o1
  have o2:=h2 _ (List.getElem_mem hlt)
  rw [List.drop_eq_getElem_cons (show k<fs.length by omega)]at hR
  generalize ds[k]=d at *
  generalize fs[k]'(by omega)=b at *
  unfold idxs at hR
  cases b with
  | false =>
   have hR:R=acc ++ idxs (fs.drop (k+1)) (k+1):=hR
   cases fl with
   | false =>
    simp (maxSteps:=1000000) -implicitDefEqProofs only [g1,e1,o1,o2,o4,cond_false,Int.toNat_natCast,Int.natCast_nonneg,go_sem,awp_seq,Nat.reduceBEq,Nat.reduceLeDiff,Nat.reduceLT]
    refine callA_t F ?_
    simp (maxSteps:=1000000) -implicitDefEqProofs only [w1,go_sem,awp_seq,Nat.reduceBEq,Nat.reduceLeDiff,Nat.reduceLT]
    refine roundK_mk ⟨(k+1,acc,false),by show k+1≤_;omega,h0,hR,by show acc.length≤k+1+2;omega⟩ ?_ (by show ds.length-(k+1)<ds.length-k;omega)
    simp (maxSteps:=1000000) -implicitDefEqProofs only [cond_false,go_sem,awp_seq,Nat.reduceBEq]
   | true =>
    simp (maxSteps:=1000000) -implicitDefEqProofs only [g1,e1,o1,o2,o4,cond_true,Int.toNat_natCast,Int.natCast_nonneg,go_sem,awp_seq,Nat.reduceBEq,Nat.reduceLeDiff,Nat.reduceLT]
    refine callA_t F ?_
    simp (maxSteps:=1000000) -implicitDefEqProofs only [w1,go_sem,awp_seq,Nat.reduceBEq,Nat.reduceLeDiff,Nat.reduceLT]
    refine roundK_mk ⟨(k+1,acc,true),by show k+1≤_;omega,h0,hR,by show acc.length≤k+1+2;omega⟩ ?_ (by show ds.length-(k+1)<ds.length-k;omega)
    simp (maxSteps:=1000000) -implicitDefEqProofs only [cond_true,go_sem,awp_seq,Nat.reduceBEq]
  | true =>
   have hR:R=(acc ++ [(k:Int)]) ++ idxs (fs.drop (k+1)) (k+1):=by rw [List.append_assoc];exact hR
   cases fl with
   | false =>
    obtain rfl:=h0 rfl
    simp (maxSteps:=1000000) -implicitDefEqProofs only [g1,e1,o1,o2,o4,cond_false,Int.toNat_natCast,Int.natCast_nonneg,go_sem,awp_seq,Nat.reduceBEq,Nat.reduceAdd,Nat.reduceLeDiff,Nat.reduceLT]
    refine callA_t F ?_
    simp (maxSteps:=1000000) -implicitDefEqProofs only [w1,List.length_cons,List.length_nil,List.cons_append,List.nil_append,go_sem,awp_seq,Nat.reduceBEq,Nat.reduceAdd,Nat.reduceMul,Nat.reduceLeDiff,Nat.reduceLT]
    refine roundK_mk ⟨(k+1,[-1,-2,(k:Int)],true),by show k+1≤_;omega,fun h=>(by cases h),hR,by show 3≤k+1+2;omega⟩ ?_ (by show ds.length-(k+1)<ds.length-k;omega)
    simp (maxSteps:=1000000) -implicitDefEqProofs only [cond_true,List.length_cons,List.length_nil,List.map_cons,List.map_nil,go_sem,awp_seq,Nat.reduceBEq,Nat.reduceAdd]
   | true =>
    have ml:(acc.map fun z=>i64 z).length=acc.length:=List.length_map _
    simp (maxSteps:=1000000) -implicitDefEqProofs only [g1,e1,o1,o2,o4,cond_true,Int.toNat_natCast,Int.natCast_nonneg,go_sem,awp_seq,Nat.reduceBEq,Nat.reduceLeDiff,Nat.reduceLT]
    refine callA_t F ?_
    simp (maxSteps:=1000000) -implicitDefEqProofs only [w1,ml,go_sem,awp_seq,Nat.reduceBEq,Nat.reduceMul,Nat.reduceLeDiff,Nat.reduceLT]
    refine ⟨by omega,by omega,?_⟩
    refine roundK_mk ⟨(k+1,acc ++ [(k:Int)],true),by show k+1≤_;omega,fun h=>(by cases h),hR,by show (acc ++ [(k:Int)]).length≤k+1+2;simp;omega⟩ ?_ (by show ds.length-(k+1)<ds.length-k;omega)
    simp (maxSteps:=1000000) -implicitDefEqProofs only [cond_true,List.length_append,List.length_cons,List.length_nil,List.map_append,List.map_cons,List.map_nil,go_sem,awp_seq,Nat.reduceBEq]
 ·obtain rfl:k=ds.length:=by omega
  rw [List.drop_of_length_le (by omega)]at hR
  have hR:R=acc:=by rw [hR];simp [idxs]
  subst hR
  have g1:decide (((ds.length:Nat):Int)<(ds.length:Nat))=false:=by simp
  cases fl with
  | false =>
   obtain rfl:=h0 rfl
   simp (maxSteps:=1000000) -implicitDefEqProofs only [g1,cond_false,List.map_cons,List.map_nil,go_sem,awp_seq,Nat.reduceBEq,Nat.reduceAdd,Nat.reduceLT]
   all_goals rfl
  | true =>
   have tk:(R.map fun z=>i64 z).take R.length=R.map fun z=>i64 z:=List.take_of_length_le (by rw [List.length_map];exact Nat.le_refl _)
   simp (maxSteps:=1000000) -implicitDefEqProofs only [g1,tk,cond_true,go_sem,awp_seq,Nat.reduceBEq,Nat.reduceLT]
   exact Nat.le_of_eq (List.length_map _).symm
end
end Go.Proofs.YtmegoiaijfeilaaGreatDoor
set_option linter.unusedSimpArgs false
set_option linter.unusedVariables false
namespace Go.Proofs.YtmegoiaijfeilaaGreatDoor
open Go.RowKit Lim
set_option maxHeartbeats 4000000 in
theorem modelv_c (rows:List (List Int)) (k:Int):AT 86 [.agg [rowsA rows],i64 k] (i64 (modelE rows k)):=by
 unfold modelE
 by_cases h1:k<1
 ·rw [if_pos h1]
  have g1:=decide_eq_true h1
  refine ACalls.of ⟨49,[],[]⟩ (fn:=Tryz.f86) Tryz.func86 rfl rfl rfl (by kernel_rfl) (by kernel_rfl) (Nat.le_of_ble_eq_true rfl) ?_
  simp (maxSteps:=1000000) -implicitDefEqProofs only [g1,List.length_map,go_sem,awp_seq,Nat.reduceBEq,Nat.reduceAdd,Nat.reduceLT]
 rw [if_neg h1]
 have g1:=decide_eq_false h1
 by_cases h2:21<k
 ·rw [if_pos h2]
  have g2:=decide_eq_true h2
  refine ACalls.of ⟨49,[],[]⟩ (fn:=Tryz.f86) Tryz.func86 rfl rfl rfl (by kernel_rfl) (by kernel_rfl) (Nat.le_of_ble_eq_true rfl) ?_
  simp (maxSteps:=1000000) -implicitDefEqProofs only [g1,g2,List.length_map,go_sem,awp_seq,Nat.reduceBEq,Nat.reduceAdd,Nat.reduceLT]
 rw [if_neg h2]
 have g2:=decide_eq_false h2
 by_cases h3:(rows.length:Int)≠k
 ·rw [if_pos h3]
  have g3:(((rows.length:Nat):Int) != k)=true:=by simpa using h3
  refine ACalls.of ⟨49,[],[]⟩ (fn:=Tryz.f86) Tryz.func86 rfl rfl rfl (by kernel_rfl) (by kernel_rfl) (Nat.le_of_ble_eq_true rfl) ?_
  simp (maxSteps:=1000000) -implicitDefEqProofs only [g1,g2,g3,List.length_map,go_sem,awp_seq,Nat.reduceBNe,Nat.reduceBEq,Nat.reduceAdd,Nat.reduceLT]
 rw [if_neg h3]
 have h3:(rows.length:Int)=k:=Classical.not_not.1 h3
 have g3:(((rows.length:Nat):Int) != k)=false:=by simpa using h3
 cases rows with
 | nil=>exact absurd h3 (by simp only [List.length_nil];omega)
 | cons r rs =>
 dsimp only
 have g4:decide (((r.length:Nat):Int)<2)=decide (r.length<2):=decide_eq_decide.2 (by omega)
 have g5:decide ((6:Int)<((r.length:Nat):Int))=decide (6<r.length):=decide_eq_decide.2 (by omega)
 by_cases h4:r.length<2
 ·rw [if_pos h4]
  rw [decide_eq_true h4]at g4
  simp only [List.length_cons]at g3
  refine ACalls.of ⟨49,[],[]⟩ (fn:=Tryz.f86) Tryz.func86 rfl rfl rfl (by kernel_rfl) (by kernel_rfl) (Nat.le_of_ble_eq_true rfl) ?_
  simp (maxSteps:=1000000) -implicitDefEqProofs only [g1,g2,g3,g4,List.map_cons,List.length_map,List.length_cons,List.getElem?_cons_zero,go_sem,awp_seq,Nat.reduceBNe,Nat.reduceBEq,Nat.reduceAdd,Nat.reduceLT,Int.reduceLE,Int.reduceToNat]
 rw [if_neg h4]
 rw [decide_eq_false h4]at g4
 by_cases h5:6<r.length
 ·rw [if_pos h5]
  rw [decide_eq_true h5]at g5
  simp only [List.length_cons]at g3
  refine ACalls.of ⟨49,[],[]⟩ (fn:=Tryz.f86) Tryz.func86 rfl rfl rfl (by kernel_rfl) (by kernel_rfl) (Nat.le_of_ble_eq_true rfl) ?_
  simp (maxSteps:=1000000) -implicitDefEqProofs only [g1,g2,g3,g4,g5,List.map_cons,List.length_map,List.length_cons,List.getElem?_cons_zero,go_sem,awp_seq,Nat.reduceBNe,Nat.reduceBEq,Nat.reduceAdd,Nat.reduceLT,Int.reduceLE,Int.reduceToNat]
 rw [if_neg h5]
 rw [decide_eq_false h5]at g5
 have e0:(List.map (fun r=>AV.sl 1 (List.map (fun z=>i64 z) r)) (r :: rs))[0]? = some (.sl 1 (r.map fun z=>i64 z)):=rfl
 obtain ⟨c,hc⟩:∃c,c=r.length:=⟨_,rfl⟩
 rw [←hc]at g4 g5 h4 h5 ⊢
 obtain ⟨R,hR⟩:∃R,R=r :: rs:=⟨_,rfl⟩
 rw [←hR]at e0 h3 g3 ⊢
 clear hR
 have hR21:R.length≤21:=by omega
 obtain ⟨E,hE⟩:∃E,E=rowsE c R:=⟨_,rfl⟩
 rw [←hE]
 refine ACalls.of ⟨49,[],[]⟩ (fn:=Tryz.f86) Tryz.func86 rfl rfl rfl (by kernel_rfl) (by kernel_rfl) (Nat.le_of_ble_eq_true rfl) ?_
 simp (maxSteps:=1000000) -implicitDefEqProofs only [g1,g2,g3,e0,←hc,g4,g5,List.length_map,go_sem,awp_seq,Nat.reduceBNe,Nat.reduceBEq,Nat.reduceAdd,Nat.reduceLT,Int.reduceLE,Int.reduceToNat]
 refine loop_mk (α:={j:Nat // j≤R.length∧E=rowsE c (R.drop j)}) (fun j=>[(1,some (.av (i64 k))),(2,some (.ref 2 0)),(4,some (.av (i64 0))),(5,some (.av (i64 (c:Nat)))),(36,some (.av (rowsA R))),(37,some (.av (i64 (R.length:Nat)))),(38,some (.av (i64 (j.1:Nat))))]) (fun _=>[(2,[rowsA R])]) (fun _=>[]) (fun j=>R.length-j.1) ⟨0,Nat.zero_le _,hE⟩ ?_ ?_
 ·simp (maxSteps:=1000000) -implicitDefEqProofs only [go_sem,awp_seq,Nat.reduceBEq,Int.cast_ofNat_Int]
 clear hE
 rintro ⟨j,hj,hE⟩
 by_cases hlt:j<R.length
 case neg =>
  have q1:decide (((j:Nat):Int)<(R.length:Nat))=false:=by simp;omega
  rw [List.drop_of_length_le (by omega)]at hE
  have hE:E=0:=hE
  subst hE
  simp (maxSteps:=1000000) -implicitDefEqProofs only [q1,go_sem,awp_seq,Nat.reduceBEq,Nat.reduceLT]
 have q1:decide (((j:Nat):Int)<(R.length:Nat))=true:=by simp;omega
 have e1:=map_get (fun r:List Int=>AV.sl 1 (r.map fun z=>i64 z)) R hlt
 have w1:IntKind.i64.wrap ((j:Int)+1)=((j+1:Nat):Int):=by rw [IntWalk.i64_in _ (by omega)];omega
 rw [List.drop_eq_getElem_cons hlt]at hE
 generalize R[j]=l at *
 unfold rowsE at hE
 by_cases h6:l.length≠c
 ·rw [if_pos h6]at hE
  subst hE
  have q2:(((l.length:Nat):Int) != (c:Nat))=true:=by simp;omega
  simp (maxSteps:=1000000) -implicitDefEqProofs only [q1,e1,q2,List.length_map,Int.toNat_natCast,Int.natCast_nonneg,go_sem,awp_seq,Nat.reduceBEq,Nat.reduceLT]
 rw [if_neg h6]at hE
 have q2:(((l.length:Nat):Int) != (c:Nat))=false:=by simp;omega
 have hl6:l.length≤6:=by omega
 obtain ⟨Q,hQ⟩:∃Q,Q=rowE l 0:=⟨_,rfl⟩
 rw [←hQ]at hE
 simp (maxSteps:=1000000) -implicitDefEqProofs only [q1,e1,q2,List.length_map,Int.toNat_natCast,Int.natCast_nonneg,go_sem,awp_seq,Nat.reduceBEq,Nat.reduceLT]
 refine loop_mk (α:={x:Nat × Int // x.1≤l.length∧Q=rowE (l.drop x.1) x.2∧0≤x.2∧x.2≤1000*(x.1:Nat)}) (fun x=>[(1,some (.av (i64 k))),(2,some (.ref 2 0)),(4,some (.av (i64 0))),(5,some (.av (i64 (c:Nat)))),(7,some (.av (.sl 1 (l.map fun z=>i64 z)))),(8,some (.av (i64 x.1.2))),(36,some (.av (rowsA R))),(37,some (.av (i64 (R.length:Nat)))),(38,some (.av (i64 (j:Nat)))),(46,some (.av (.sl 1 (l.map fun z=>i64 z)))),(47,some (.av (i64 (l.length:Nat)))),(48,some (.av (i64 (x.1.1:Nat))))]) (fun _=>[(2,[rowsA R])]) (fun _=>[]) (fun x=>l.length-x.1.1) ⟨(0,0),Nat.zero_le _,hQ,Int.le_refl _,Int.le_refl _⟩ ?_ ?_
 ·simp (maxSteps:=1000000) -implicitDefEqProofs only [go_sem,awp_seq,Nat.reduceBEq,Int.cast_ofNat_Int]
 clear hQ
 rintro ⟨⟨i,m⟩,hi,hm,hm0,hm1⟩
 dsimp only at hi hm hm0 hm1
 by_cases hlt2:i<l.length
 ·have p1:decide (((i:Nat):Int)<(l.length:Nat))=true:=by simp;omega
  have e2:=map_get (fun z=>i64 z) l hlt2
  have w2:IntKind.i64.wrap ((i:Int)+1)=((i+1:Nat):Int):=by rw [IntWalk.i64_in _ (by omega)];omega
  rw [List.drop_eq_getElem_cons hlt2]at hm
  generalize l[i]=y at *
  unfold rowE at hm
  by_cases h7:y<1
  ·rw [if_pos h7]at hm
   rw [hm,if_pos (by decide)]at hE
   subst hE
   have p2:=decide_eq_true h7
   simp (maxSteps:=1000000) -implicitDefEqProofs only [p1,p2,e2,Int.toNat_natCast,Int.natCast_nonneg,go_sem,awp_seq,Nat.reduceBEq,Nat.reduceLeDiff,Nat.reduceLT]
  rw [if_neg h7]at hm
  have p2:=decide_eq_false h7
  by_cases h8:1000<y
  ·rw [if_pos h8]at hm
   rw [hm,if_pos (by decide)]at hE
   subst hE
   have p3:=decide_eq_true h8
   simp (maxSteps:=1000000) -implicitDefEqProofs only [p1,p2,p3,e2,Int.toNat_natCast,Int.natCast_nonneg,go_sem,awp_seq,Nat.reduceBEq,Nat.reduceLeDiff,Nat.reduceLT]
  rw [if_neg h8]at hm
  have p3:=decide_eq_false h8
  have w3:IntKind.i64.wrap (m+y)=m+y:=IntWalk.i64_in _ (by omega)
  simp (maxSteps:=1000000) -implicitDefEqProofs only [p1,p2,p3,w2,w3,e2,Int.toNat_natCast,Int.natCast_nonneg,go_sem,awp_seq,Nat.reduceBEq,Nat.reduceLeDiff,Nat.reduceLT]
  refine roundK_mk ⟨(i+1,m+y),by omega,hm,by dsimp only;omega,by dsimp only;omega⟩ ?_ (by show l.length-(i+1)<l.length-i;omega)
  simp (maxSteps:=1000000) -implicitDefEqProofs only [go_sem,awp_seq,Nat.reduceBEq]
 ·have p1:decide (((i:Nat):Int)<(l.length:Nat))=false:=by simp;omega
  rw [List.drop_of_length_le (by omega)]at hm
  unfold rowE at hm
  by_cases h7:m=1000
  ·rw [if_pos h7]at hm
   rw [hm,if_neg (by decide)]at hE
   have p2:(m != 1000)=false:=by simpa using h7
   simp (maxSteps:=1000000) -implicitDefEqProofs only [p1,p2,w1,go_sem,awp_seq,Nat.reduceBEq,Nat.reduceLeDiff,Nat.reduceLT]
   refine roundK_mk ⟨j+1,by omega,hE⟩ ?_ (by show R.length-(j+1)<R.length-j;omega)
   simp (maxSteps:=1000000) -implicitDefEqProofs only [go_sem,awp_seq,Nat.reduceBEq]
  ·rw [if_neg h7]at hm
   rw [hm,if_pos (by decide)]at hE
   subst hE
   have p2:(m != 1000)=true:=by simpa using h7
   simp (maxSteps:=1000000) -implicitDefEqProofs only [p1,p2,go_sem,awp_seq,Nat.reduceBEq,Nat.reduceLeDiff,Nat.reduceLT]
end Go.Proofs.YtmegoiaijfeilaaGreatDoor
set_option linter.unusedSimpArgs false
set_option linter.unusedVariables false
namespace Go.Proofs.YtmegoiaijfeilaaGreatDoor
open Go.RowKit Lim
set_option maxHeartbeats 4000000 in
theorem item_c (y:PI) (k:Int):AT 65 [itA y,i64 k] (i64 (itE y k)):=by
 obtain ⟨id,s1,n0,n1,n2,n3,n4,n5,rows⟩:=y
 have C:=cvalid_c s1
 have M:=modelv_c rows k
 show AT 65 [.agg [i64 id,str s1,i64 n0,i64 n1,i64 n2,i64 n3,i64 n4,i64 n5,rowsA rows],i64 k] (i64 (itE (id,s1,n0,n1,n2,n3,n4,n5,rows) k))
 unfold itE
 dsimp only
 generalize modelE rows k=e at *
 generalize (rows.map fun r=>AV.sl 1 (r.map fun z=>i64 z))=R at *
 generalize contentB s1=cb at *
 cases cb with
 | false =>
  refine ACalls.of ⟨10,[],[]⟩ (fn:=Tryz.f65) Tryz.func65 rfl rfl rfl (by kernel_rfl) (by kernel_rfl) (Nat.le_of_ble_eq_true rfl) ?_
  simp (maxSteps:=1000000) -implicitDefEqProofs only [go_sem,awp_seq,Nat.reduceBEq,Nat.reduceAdd,Nat.reduceLT]
  refine callA_tt C ?_
  simp (maxSteps:=1000000) -implicitDefEqProofs only [Bool.not_false,go_sem,awp_seq,Nat.reduceBNe,Nat.reduceBEq,Nat.reduceLT]
 | true =>
 by_cases h0:n0<0
 ·have c0:=decide_eq_true h0
  simp only [c0,Bool.not_true,cond_false,cond_true]
  refine ACalls.of ⟨10,[],[]⟩ (fn:=Tryz.f65) Tryz.func65 rfl rfl rfl (by kernel_rfl) (by kernel_rfl) (Nat.le_of_ble_eq_true rfl) ?_
  simp (maxSteps:=1000000) -implicitDefEqProofs only [go_sem,awp_seq,Nat.reduceBEq,Nat.reduceAdd,Nat.reduceLT]
  refine callA_tt C ?_
  simp (maxSteps:=1000000) -implicitDefEqProofs only [Bool.not_true,c0,go_sem,awp_seq,Nat.reduceBNe,Nat.reduceBEq,Nat.reduceLeDiff,Nat.reduceLT]
 have c0:=decide_eq_false h0
 by_cases h1:9999999<n0
 ·have c1:=decide_eq_true h1
  simp only [c0,c1,Bool.not_true,cond_false,cond_true]
  refine ACalls.of ⟨10,[],[]⟩ (fn:=Tryz.f65) Tryz.func65 rfl rfl rfl (by kernel_rfl) (by kernel_rfl) (Nat.le_of_ble_eq_true rfl) ?_
  simp (maxSteps:=1000000) -implicitDefEqProofs only [go_sem,awp_seq,Nat.reduceBEq,Nat.reduceAdd,Nat.reduceLT]
  refine callA_tt C ?_
  simp (maxSteps:=1000000) -implicitDefEqProofs only [Bool.not_true,c0,c1,go_sem,awp_seq,Nat.reduceBNe,Nat.reduceBEq,Nat.reduceLeDiff,Nat.reduceLT]
 have c1:=decide_eq_false h1
 by_cases h2:n1<0
 ·have c2:=decide_eq_true h2
  simp only [c0,c1,c2,Bool.not_true,cond_false,cond_true]
  refine ACalls.of ⟨10,[],[]⟩ (fn:=Tryz.f65) Tryz.func65 rfl rfl rfl (by kernel_rfl) (by kernel_rfl) (Nat.le_of_ble_eq_true rfl) ?_
  simp (maxSteps:=1000000) -implicitDefEqProofs only [go_sem,awp_seq,Nat.reduceBEq,Nat.reduceAdd,Nat.reduceLT]
  refine callA_tt C ?_
  simp (maxSteps:=1000000) -implicitDefEqProofs only [Bool.not_true,c0,c1,c2,go_sem,awp_seq,Nat.reduceBNe,Nat.reduceBEq,Nat.reduceLeDiff,Nat.reduceLT]
 have c2:=decide_eq_false h2
 by_cases h3:9999999<n1
 ·have c3:=decide_eq_true h3
  simp only [c0,c1,c2,c3,Bool.not_true,cond_false,cond_true]
  refine ACalls.of ⟨10,[],[]⟩ (fn:=Tryz.f65) Tryz.func65 rfl rfl rfl (by kernel_rfl) (by kernel_rfl) (Nat.le_of_ble_eq_true rfl) ?_
  simp (maxSteps:=1000000) -implicitDefEqProofs only [go_sem,awp_seq,Nat.reduceBEq,Nat.reduceAdd,Nat.reduceLT]
  refine callA_tt C ?_
  simp (maxSteps:=1000000) -implicitDefEqProofs only [Bool.not_true,c0,c1,c2,c3,go_sem,awp_seq,Nat.reduceBNe,Nat.reduceBEq,Nat.reduceLeDiff,Nat.reduceLT]
 have c3:=decide_eq_false h3
 by_cases h4:n2<0
 ·have c4:=decide_eq_true h4
  simp only [c0,c1,c2,c3,c4,Bool.not_true,cond_false,cond_true]
  refine ACalls.of ⟨10,[],[]⟩ (fn:=Tryz.f65) Tryz.func65 rfl rfl rfl (by kernel_rfl) (by kernel_rfl) (Nat.le_of_ble_eq_true rfl) ?_
  simp (maxSteps:=1000000) -implicitDefEqProofs only [go_sem,awp_seq,Nat.reduceBEq,Nat.reduceAdd,Nat.reduceLT]
  refine callA_tt C ?_
  simp (maxSteps:=1000000) -implicitDefEqProofs only [Bool.not_true,c0,c1,c2,c3,c4,go_sem,awp_seq,Nat.reduceBNe,Nat.reduceBEq,Nat.reduceLeDiff,Nat.reduceLT]
 have c4:=decide_eq_false h4
 by_cases h5:2000<n2
 ·have c5:=decide_eq_true h5
  simp only [c0,c1,c2,c3,c4,c5,Bool.not_true,cond_false,cond_true]
  refine ACalls.of ⟨10,[],[]⟩ (fn:=Tryz.f65) Tryz.func65 rfl rfl rfl (by kernel_rfl) (by kernel_rfl) (Nat.le_of_ble_eq_true rfl) ?_
  simp (maxSteps:=1000000) -implicitDefEqProofs only [go_sem,awp_seq,Nat.reduceBEq,Nat.reduceAdd,Nat.reduceLT]
  refine callA_tt C ?_
  simp (maxSteps:=1000000) -implicitDefEqProofs only [Bool.not_true,c0,c1,c2,c3,c4,c5,go_sem,awp_seq,Nat.reduceBNe,Nat.reduceBEq,Nat.reduceLeDiff,Nat.reduceLT]
 have c5:=decide_eq_false h5
 by_cases h6:n3<1
 ·have c6:=decide_eq_true h6
  simp only [c0,c1,c2,c3,c4,c5,c6,Bool.not_true,cond_false,cond_true]
  refine ACalls.of ⟨10,[],[]⟩ (fn:=Tryz.f65) Tryz.func65 rfl rfl rfl (by kernel_rfl) (by kernel_rfl) (Nat.le_of_ble_eq_true rfl) ?_
  simp (maxSteps:=1000000) -implicitDefEqProofs only [go_sem,awp_seq,Nat.reduceBEq,Nat.reduceAdd,Nat.reduceLT]
  refine callA_tt C ?_
  simp (maxSteps:=1000000) -implicitDefEqProofs only [Bool.not_true,c0,c1,c2,c3,c4,c5,c6,go_sem,awp_seq,Nat.reduceBNe,Nat.reduceBEq,Nat.reduceLeDiff,Nat.reduceLT]
 have c6:=decide_eq_false h6
 by_cases h7:2000<n3
 ·have c7:=decide_eq_true h7
  simp only [c0,c1,c2,c3,c4,c5,c6,c7,Bool.not_true,cond_false,cond_true]
  refine ACalls.of ⟨10,[],[]⟩ (fn:=Tryz.f65) Tryz.func65 rfl rfl rfl (by kernel_rfl) (by kernel_rfl) (Nat.le_of_ble_eq_true rfl) ?_
  simp (maxSteps:=1000000) -implicitDefEqProofs only [go_sem,awp_seq,Nat.reduceBEq,Nat.reduceAdd,Nat.reduceLT]
  refine callA_tt C ?_
  simp (maxSteps:=1000000) -implicitDefEqProofs only [Bool.not_true,c0,c1,c2,c3,c4,c5,c6,c7,go_sem,awp_seq,Nat.reduceBNe,Nat.reduceBEq,Nat.reduceLeDiff,Nat.reduceLT]
 have c7:=decide_eq_false h7
 by_cases h8:n4<1
 ·have c8:=decide_eq_true h8
  simp only [c0,c1,c2,c3,c4,c5,c6,c7,c8,Bool.not_true,cond_false,cond_true]
  refine ACalls.of ⟨10,[],[]⟩ (fn:=Tryz.f65) Tryz.func65 rfl rfl rfl (by kernel_rfl) (by kernel_rfl) (Nat.le_of_ble_eq_true rfl) ?_
  simp (maxSteps:=1000000) -implicitDefEqProofs only [go_sem,awp_seq,Nat.reduceBEq,Nat.reduceAdd,Nat.reduceLT]
  refine callA_tt C ?_
  simp (maxSteps:=1000000) -implicitDefEqProofs only [Bool.not_true,c0,c1,c2,c3,c4,c5,c6,c7,c8,go_sem,awp_seq,Nat.reduceBNe,Nat.reduceBEq,Nat.reduceLeDiff,Nat.reduceLT]
 have c8:=decide_eq_false h8
 by_cases h9:5<n4
 ·have c9:=decide_eq_true h9
  simp only [c0,c1,c2,c3,c4,c5,c6,c7,c8,c9,Bool.not_true,cond_false,cond_true]
  refine ACalls.of ⟨10,[],[]⟩ (fn:=Tryz.f65) Tryz.func65 rfl rfl rfl (by kernel_rfl) (by kernel_rfl) (Nat.le_of_ble_eq_true rfl) ?_
  simp (maxSteps:=1000000) -implicitDefEqProofs only [go_sem,awp_seq,Nat.reduceBEq,Nat.reduceAdd,Nat.reduceLT]
  refine callA_tt C ?_
  simp (maxSteps:=1000000) -implicitDefEqProofs only [Bool.not_true,c0,c1,c2,c3,c4,c5,c6,c7,c8,c9,go_sem,awp_seq,Nat.reduceBNe,Nat.reduceBEq,Nat.reduceLeDiff,Nat.reduceLT]
 have c9:=decide_eq_false h9
 by_cases h10:n5<0
 ·have c10:=decide_eq_true h10
  simp only [c0,c1,c2,c3,c4,c5,c6,c7,c8,c9,c10,Bool.not_true,cond_false,cond_true]
  refine ACalls.of ⟨10,[],[]⟩ (fn:=Tryz.f65) Tryz.func65 rfl rfl rfl (by kernel_rfl) (by kernel_rfl) (Nat.le_of_ble_eq_true rfl) ?_
  simp (maxSteps:=1000000) -implicitDefEqProofs only [go_sem,awp_seq,Nat.reduceBEq,Nat.reduceAdd,Nat.reduceLT]
  refine callA_tt C ?_
  simp (maxSteps:=1000000) -implicitDefEqProofs only [Bool.not_true,c0,c1,c2,c3,c4,c5,c6,c7,c8,c9,c10,go_sem,awp_seq,Nat.reduceBNe,Nat.reduceBEq,Nat.reduceLeDiff,Nat.reduceLT]
 have c10:=decide_eq_false h10
 by_cases h11:10<n5
 ·have c11:=decide_eq_true h11
  simp only [c0,c1,c2,c3,c4,c5,c6,c7,c8,c9,c10,c11,Bool.not_true,cond_false,cond_true]
  refine ACalls.of ⟨10,[],[]⟩ (fn:=Tryz.f65) Tryz.func65 rfl rfl rfl (by kernel_rfl) (by kernel_rfl) (Nat.le_of_ble_eq_true rfl) ?_
  simp (maxSteps:=1000000) -implicitDefEqProofs only [go_sem,awp_seq,Nat.reduceBEq,Nat.reduceAdd,Nat.reduceLT]
  refine callA_tt C ?_
  simp (maxSteps:=1000000) -implicitDefEqProofs only [Bool.not_true,c0,c1,c2,c3,c4,c5,c6,c7,c8,c9,c10,c11,go_sem,awp_seq,Nat.reduceBNe,Nat.reduceBEq,Nat.reduceLeDiff,Nat.reduceLT]
 have c11:=decide_eq_false h11
 simp only [c0,c1,c2,c3,c4,c5,c6,c7,c8,c9,c10,c11,Bool.not_true,cond_false]
 refine ACalls.of ⟨10,[],[]⟩ (fn:=Tryz.f65) Tryz.func65 rfl rfl rfl (by kernel_rfl) (by kernel_rfl) (Nat.le_of_ble_eq_true rfl) ?_
 simp (maxSteps:=1000000) -implicitDefEqProofs only [go_sem,awp_seq,Nat.reduceBEq,Nat.reduceAdd,Nat.reduceLT]
 refine callA_tt C ?_
 simp (maxSteps:=1000000) -implicitDefEqProofs only [Bool.not_true,c0,c1,c2,c3,c4,c5,c6,c7,c8,c9,c10,c11,go_sem,awp_seq,Nat.reduceBNe,Nat.reduceBEq,Nat.reduceLeDiff,Nat.reduceLT]
 refine callA_tt M ?_
 simp (maxSteps:=1000000) -implicitDefEqProofs only [go_sem,awp_seq,Nat.reduceBEq]
end Go.Proofs.YtmegoiaijfeilaaGreatDoor
set_option linter.unusedSimpArgs false
set_option linter.unusedVariables false
namespace Go.Proofs.YtmegoiaijfeilaaGreatDoor
open Go.RowKit Lim
def AtId (pool:List PI) (B:Bool) (x:Nat × Int):Prop:=x.1≤pool.length∧B=idsE (pool.drop x.1) x.2∧(x.1=0∧x.2=0∨0<x.1∧∃y,pool[x.1-1]? = some y∧x.2=y.1)
set_option maxHeartbeats 4000000 in
theorem check_w (pool:List PI) (k:Int):AT 33 [.sl 9 (pool.map itA),i64 k] (i64 (poolE pool k)):=by
 unfold poolE
 have g0:decide ((18:Int)<(pool.length:Nat))=decide (18<pool.length):=decide_eq_decide.2 (by omega)
 by_cases h0:18<pool.length
 ·rw [if_pos h0]
  rw [decide_eq_true h0]at g0
  refine ACalls.of ⟨43,[],[]⟩ (fn:=Tryz.f33) Tryz.func33 rfl rfl rfl (by kernel_rfl) (by kernel_rfl) (Nat.le_of_ble_eq_true rfl) ?_
  simp (maxSteps:=1000000) -implicitDefEqProofs only [g0,List.length_map,go_sem,awp_seq,Nat.reduceBEq,Nat.reduceAdd,Nat.reduceLT]
 rw [if_neg h0]
 rw [decide_eq_false h0]at g0
 obtain ⟨B,hB⟩:∃B,B=idsE pool 0:=⟨_,rfl⟩
 obtain ⟨E,hE⟩:∃E,E=itsE k pool:=⟨_,rfl⟩
 rw [←hB,←hE]
 refine ACalls.of ⟨43,[],[]⟩ (fn:=Tryz.f33) Tryz.func33 rfl rfl rfl (by kernel_rfl) (by kernel_rfl) (Nat.le_of_ble_eq_true rfl) ?_
 simp (maxSteps:=1000000) -implicitDefEqProofs only [g0,List.length_map,go_sem,awp_seq,Nat.reduceBEq,Nat.reduceAdd,Nat.reduceLT]
 refine loop_mk (α:={x:Nat × Int // AtId pool B x}) (fun x=>[(0,some (.av (.sl 9 (pool.map itA)))),(1,some (.av (i64 k))),(4,some (.av (i64 0))),(13,some (.av (.sl 9 (pool.map itA)))),(14,some (.av (i64 (pool.length:Nat)))),(15,some (.av (i64 (x.1.1:Nat))))]) (fun _=>[]) (fun _=>[]) (fun x=>pool.length-x.1.1) ⟨(0,0),Nat.zero_le _,hB,.inl ⟨rfl,rfl⟩⟩ ?_ ?_
 ·simp (maxSteps:=1000000) -implicitDefEqProofs only [go_sem,awp_seq,Nat.reduceBEq,Int.cast_ofNat_Int]
 clear hB
 rintro ⟨⟨j,a⟩,hj,hB,hp⟩
 dsimp only at hj hB hp
 by_cases hlt:j<pool.length
 ·have q1:decide (((j:Nat):Int)<(pool.length:Nat))=true:=by simp;omega
  have e1:=map_get itA pool hlt
  have w1:IntKind.i64.wrap ((j:Int)+1)=((j+1:Nat):Int):=by rw [IntWalk.i64_in _ (by omega)];omega
  have e3:pool[j]? = some pool[j]:=List.getElem?_eq_getElem hlt
  rw [List.drop_eq_getElem_cons hlt]at hB
  generalize pool[j]=y at *
  have N:=numbered_c y.1
  unfold idsE at hB
  cases hn:numB y.1 with
  | false =>
   rw [hn,if_pos rfl]at hB
   subst hB
   rw [hn]at N
   simp (maxSteps:=1000000) -implicitDefEqProofs only [q1,e1,Int.toNat_natCast,Int.natCast_nonneg,go_sem,awp_seq,Nat.reduceBEq,Nat.reduceAdd,Nat.reduceLT]
   refine callA_tt N ?_
   simp (maxSteps:=1000000) -implicitDefEqProofs only [Bool.not_false,go_sem,awp_seq,Nat.reduceBNe,Nat.reduceBEq,Nat.reduceLT]
  | true =>
   rw [hn,if_neg (by simp)]at hB
   rw [hn]at N
   rcases hp with ⟨h00,rfl⟩|⟨hp0,y',hy,rfl⟩
   ·have hy1:¬y.1≤0:=by
     unfold numB at hn
     have:=(Bool.and_eq_true_iff.1 hn).1
     simp at this
     omega
    rw [if_neg hy1]at hB
    have q2:decide ((0:Int)<((j:Nat):Int))=false:=by simp;omega
    simp (maxSteps:=1000000) -implicitDefEqProofs only [q1,e1,Int.toNat_natCast,Int.natCast_nonneg,go_sem,awp_seq,Nat.reduceBEq,Nat.reduceAdd,Nat.reduceLT]
    refine callA_tt N ?_
    simp (maxSteps:=1000000) -implicitDefEqProofs only [Bool.not_true,q2,w1,go_sem,awp_seq,Nat.reduceBNe,Nat.reduceBEq,Nat.reduceLT]
    refine roundK_mk ⟨(j+1,y.1),hlt,hB,.inr ⟨Nat.succ_pos _,y,e3,rfl⟩⟩ ?_ (by show pool.length-(j+1)<pool.length-j;omega)
    simp (maxSteps:=1000000) -implicitDefEqProofs only [go_sem,awp_seq,Nat.reduceBEq]
   ·have q2:decide ((0:Int)<((j:Nat):Int))=true:=by simp;omega
    have w2:IntKind.i64.wrap ((j:Int)-1)=((j-1:Nat):Int):=by rw [IntWalk.i64_in _ (by omega)];omega
    have e2:(pool.map itA)[j-1]? = some (itA y'):=by rw [List.getElem?_map,hy];rfl
    by_cases hle:y.1≤y'.1
    ·rw [if_pos hle]at hB
     subst hB
     have q3:=decide_eq_true hle
     simp (maxSteps:=1000000) -implicitDefEqProofs only [q1,e1,Int.toNat_natCast,Int.natCast_nonneg,go_sem,awp_seq,Nat.reduceBEq,Nat.reduceAdd,Nat.reduceLT]
     refine callA_tt N ?_
     simp (maxSteps:=1000000) -implicitDefEqProofs only [Bool.not_true,q2,q3,w2,e2,Int.toNat_natCast,Int.natCast_nonneg,go_sem,awp_seq,Nat.reduceBNe,Nat.reduceBEq,Nat.reduceLT]
    ·rw [if_neg hle]at hB
     have q3:=decide_eq_false hle
     simp (maxSteps:=1000000) -implicitDefEqProofs only [q1,e1,Int.toNat_natCast,Int.natCast_nonneg,go_sem,awp_seq,Nat.reduceBEq,Nat.reduceAdd,Nat.reduceLT]
     refine callA_tt N ?_
     simp (maxSteps:=1000000) -implicitDefEqProofs only [Bool.not_true,q2,q3,w1,w2,e2,Int.toNat_natCast,Int.natCast_nonneg,go_sem,awp_seq,Nat.reduceBNe,Nat.reduceBEq,Nat.reduceLT]
     refine roundK_mk ⟨(j+1,y.1),by show j+1≤_;omega,hB,.inr ⟨Nat.succ_pos _,y,e3,rfl⟩⟩ ?_ (by show pool.length-(j+1)<pool.length-j;omega)
     simp (maxSteps:=1000000) -implicitDefEqProofs only [go_sem,awp_seq,Nat.reduceBEq]
 have q1:decide (((j:Nat):Int)<(pool.length:Nat))=false:=by simp;omega
 rw [List.drop_of_length_le (by omega)]at hB
 have hB:B=true:=hB
 subst hB
 simp (maxSteps:=1000000) -implicitDefEqProofs only [q1,List.length_map,go_sem,awp_seq,Nat.reduceBEq,Nat.reduceLT]
 refine loop_mk (α:={i:Nat // i≤pool.length∧E=itsE k (pool.drop i)}) (fun i=>[(0,some (.av (.sl 9 (pool.map itA)))),(1,some (.av (i64 k))),(4,some (.av (i64 0))),(40,some (.av (.sl 9 (pool.map itA)))),(41,some (.av (i64 (pool.length:Nat)))),(42,some (.av (i64 (i.1:Nat))))]) (fun _=>[]) (fun _=>[]) (fun i=>pool.length-i.1) ⟨0,Nat.zero_le _,hE⟩ ?_ ?_
 ·simp (maxSteps:=1000000) -implicitDefEqProofs only [go_sem,awp_seq,Nat.reduceBEq,Int.cast_ofNat_Int]
 clear hE hp q1
 rintro ⟨i,hi,hE⟩
 by_cases hlt:i<pool.length
 ·have q1:decide (((i:Nat):Int)<(pool.length:Nat))=true:=by simp;omega
  have e1:=map_get itA pool hlt
  have w1:IntKind.i64.wrap ((i:Int)+1)=((i+1:Nat):Int):=by rw [IntWalk.i64_in _ (by omega)];omega
  rw [List.drop_eq_getElem_cons hlt]at hE
  generalize pool[i]=y at *
  have C:=item_c y k
  unfold itsE at hE
  by_cases he:itE y k≠0
  ·rw [if_pos he]at hE
   rw [←hE]at C he
   have q2:(E != 0)=true:=by simpa using he
   simp (maxSteps:=1000000) -implicitDefEqProofs only [q1,e1,Int.toNat_natCast,Int.natCast_nonneg,go_sem,awp_seq,Nat.reduceBEq,Nat.reduceAdd,Nat.reduceLeDiff,Nat.reduceLT]
   refine callA_tt C ?_
   simp (maxSteps:=1000000) -implicitDefEqProofs only [q2,go_sem,awp_seq,Nat.reduceBEq,Nat.reduceLeDiff,Nat.reduceLT]
   rfl
  ·rw [if_neg he]at hE
   rw [Classical.not_not.1 he]at C
   simp (maxSteps:=1000000) -implicitDefEqProofs only [q1,e1,Int.toNat_natCast,Int.natCast_nonneg,go_sem,awp_seq,Nat.reduceBEq,Nat.reduceAdd,Nat.reduceLeDiff,Nat.reduceLT]
   refine callA_tt C ?_
   simp (maxSteps:=1000000) -implicitDefEqProofs only [w1,go_sem,awp_seq,Nat.reduceBEq,Nat.reduceLeDiff,Nat.reduceLT]
   refine roundK_mk ⟨i+1,hlt,hE⟩ ?_ (by show pool.length-(i+1)<pool.length-i;omega)
   simp (maxSteps:=1000000) -implicitDefEqProofs only [go_sem,awp_seq,Nat.reduceBEq]
 ·have q1:decide (((i:Nat):Int)<(pool.length:Nat))=false:=by simp;omega
  rw [List.drop_of_length_le (by omega)]at hE
  have hE:E=0:=hE
  subst hE
  simp (maxSteps:=1000000) -implicitDefEqProofs only [q1,go_sem,awp_seq,Nat.reduceBEq,Nat.reduceLT]
  rfl
end Go.Proofs.YtmegoiaijfeilaaGreatDoor
set_option linter.unusedSimpArgs false
set_option linter.unusedVariables false
namespace Go.Proofs.YtmegoiaijfeilaaGreatDoor
open Go.RowKit Lim
theorem check_c (pool:List PI) (k:Int):AC 33 [.sl 9 (pool.map itA),i64 k] (i64 (poolE pool k)):=(check_w pool k).ofT
def rowsN:List PI→Int
 | []=>0
 | y :: _=>(y.2.2.2.2.2.2.2.2.length:Nat)
def taskE (n:Int) (rs:List RuleV) (pool:List PI) (l:List (Int × Int)):Int :=
 if specE n rs≠0 then specE n rs else if poolE pool (rowsN pool)≠0 then poolE pool (rowsN pool) else if 400<l.length then 5 else 0
set_option maxHeartbeats 2000000 in
theorem task_c (n:Int) (rs:List RuleV) (pool:List PI) (l:List (Int × Int)) (hl:pool.length≤1048576):AC 18 [.agg [i64 n,rulesA rs],.sl 9 (pool.map itA),.sl 2 (l.map prA)] (i64 (taskE n rs pool l)):=by
 have V:=bvalid_c n rs
 have C:=check_c pool (rowsN pool)
 unfold taskE
 by_cases h1:specE n rs=0
 case neg =>
  have g1:(specE n rs != 0)=true:=by simpa using h1
  rw [if_pos h1]
  generalize specE n rs=e at *
  refine ACalls.of ⟨10,[],[]⟩ (fn:=Tryz.f18) Tryz.func18 rfl rfl rfl (by kernel_rfl) (by kernel_rfl) (Nat.le_of_ble_eq_true rfl) ?_
  simp (maxSteps:=1000000) -implicitDefEqProofs only [go_sem,awp_seq,Nat.reduceBEq,Nat.reduceAdd,Nat.reduceLT]
  refine callA_t V ?_
  simp (maxSteps:=1000000) -implicitDefEqProofs only [g1,go_sem,awp_seq,Nat.reduceBEq,Nat.reduceLeDiff,Nat.reduceLT]
 rw [if_neg (by rw [h1];simp)]
 rw [h1]at V
 have z0:((0:Int) != 0)=false:=rfl
 generalize hp:poolE pool (rowsN pool)=e at *
 have g5:decide ((400:Int)<(l.length:Nat))=decide (400<l.length):=decide_eq_decide.2 (by omega)
 cases pool with
 | nil =>
  have C:AC 33 [.sl 9 [],i64 0] (i64 e):=C
  by_cases h2:e=0
  ·subst h2
   rw [if_neg (by simp)]
   by_cases h3:400<l.length
   ·rw [if_pos h3]
    rw [decide_eq_true h3]at g5
    refine ACalls.of ⟨10,[],[]⟩ (fn:=Tryz.f18) Tryz.func18 rfl rfl rfl (by kernel_rfl) (by kernel_rfl) (Nat.le_of_ble_eq_true rfl) ?_
    simp (maxSteps:=1000000) -implicitDefEqProofs only [go_sem,awp_seq,Nat.reduceBEq,Nat.reduceAdd,Nat.reduceLT]
    refine callA_t V ?_
    simp (maxSteps:=1000000) -implicitDefEqProofs only [z0,List.map_nil,List.length_nil,go_sem,awp_seq,Nat.reduceBEq,Nat.reduceLeDiff,Nat.reduceLT,Int.reduceLT,Int.cast_ofNat_Int]
    refine callA_mk (q:=[]) C ?_
    simp (maxSteps:=1000000) -implicitDefEqProofs only [z0,g5,List.length_map,go_sem,awp_seq,Nat.reduceBEq,Nat.reduceLeDiff,Nat.reduceLT]
   ·rw [if_neg h3]
    rw [decide_eq_false h3]at g5
    refine ACalls.of ⟨10,[],[]⟩ (fn:=Tryz.f18) Tryz.func18 rfl rfl rfl (by kernel_rfl) (by kernel_rfl) (Nat.le_of_ble_eq_true rfl) ?_
    simp (maxSteps:=1000000) -implicitDefEqProofs only [go_sem,awp_seq,Nat.reduceBEq,Nat.reduceAdd,Nat.reduceLT]
    refine callA_t V ?_
    simp (maxSteps:=1000000) -implicitDefEqProofs only [z0,List.map_nil,List.length_nil,go_sem,awp_seq,Nat.reduceBEq,Nat.reduceLeDiff,Nat.reduceLT,Int.reduceLT,Int.cast_ofNat_Int]
    refine callA_mk (q:=[]) C ?_
    simp (maxSteps:=1000000) -implicitDefEqProofs only [z0,g5,List.length_map,go_sem,awp_seq,Nat.reduceBEq,Nat.reduceLeDiff,Nat.reduceLT]
  ·have g2:(e != 0)=true:=by simpa using h2
   rw [if_pos h2]
   refine ACalls.of ⟨10,[],[]⟩ (fn:=Tryz.f18) Tryz.func18 rfl rfl rfl (by kernel_rfl) (by kernel_rfl) (Nat.le_of_ble_eq_true rfl) ?_
   simp (maxSteps:=1000000) -implicitDefEqProofs only [go_sem,awp_seq,Nat.reduceBEq,Nat.reduceAdd,Nat.reduceLT]
   refine callA_t V ?_
   simp (maxSteps:=1000000) -implicitDefEqProofs only [z0,List.map_nil,List.length_nil,go_sem,awp_seq,Nat.reduceBEq,Nat.reduceLeDiff,Nat.reduceLT,Int.reduceLT,Int.cast_ofNat_Int]
   refine callA_mk (q:=[]) C ?_
   simp (maxSteps:=1000000) -implicitDefEqProofs only [g2,go_sem,awp_seq,Nat.reduceBEq,Nat.reduceLeDiff,Nat.reduceLT]
 | cons y ys =>
  have C:AC 33 [.sl 9 (itA y :: ys.map itA),i64 (y.2.2.2.2.2.2.2.2.length:Nat)] (i64 e):=C
  have gl:decide ((0:Int)<((ys.length:Nat):Int)+1)=true:=decide_eq_true (by omega)
  have gl2:decide ((0:Int)<((ys.length+1:Nat):Int))=true:=decide_eq_true (by omega)
  by_cases h2:e=0
  ·subst h2
   rw [if_neg (by simp)]
   by_cases h3:400<l.length
   ·rw [if_pos h3]
    rw [decide_eq_true h3]at g5
    refine ACalls.of ⟨10,[],[]⟩ (fn:=Tryz.f18) Tryz.func18 rfl rfl rfl (by kernel_rfl) (by kernel_rfl) (Nat.le_of_ble_eq_true rfl) ?_
    simp (maxSteps:=1000000) -implicitDefEqProofs only [go_sem,awp_seq,Nat.reduceBEq,Nat.reduceAdd,Nat.reduceLT]
    refine callA_t V ?_
    simp (maxSteps:=1000000) -implicitDefEqProofs only [z0,gl,gl2,List.map_cons,List.length_cons,List.length_map,go_sem,awp_seq,Nat.reduceBEq,Nat.reduceLeDiff,Nat.reduceLT,Int.reduceLE,Int.reduceToNat]
    refine callA_mk (q:=[]) C ?_
    simp (maxSteps:=1000000) -implicitDefEqProofs only [z0,g5,List.length_map,go_sem,awp_seq,Nat.reduceBEq,Nat.reduceLeDiff,Nat.reduceLT]
   ·rw [if_neg h3]
    rw [decide_eq_false h3]at g5
    refine ACalls.of ⟨10,[],[]⟩ (fn:=Tryz.f18) Tryz.func18 rfl rfl rfl (by kernel_rfl) (by kernel_rfl) (Nat.le_of_ble_eq_true rfl) ?_
    simp (maxSteps:=1000000) -implicitDefEqProofs only [go_sem,awp_seq,Nat.reduceBEq,Nat.reduceAdd,Nat.reduceLT]
    refine callA_t V ?_
    simp (maxSteps:=1000000) -implicitDefEqProofs only [z0,gl,gl2,List.map_cons,List.length_cons,List.length_map,go_sem,awp_seq,Nat.reduceBEq,Nat.reduceLeDiff,Nat.reduceLT,Int.reduceLE,Int.reduceToNat]
    refine callA_mk (q:=[]) C ?_
    simp (maxSteps:=1000000) -implicitDefEqProofs only [z0,g5,List.length_map,go_sem,awp_seq,Nat.reduceBEq,Nat.reduceLeDiff,Nat.reduceLT]
  ·have g2:(e != 0)=true:=by simpa using h2
   rw [if_pos h2]
   refine ACalls.of ⟨10,[],[]⟩ (fn:=Tryz.f18) Tryz.func18 rfl rfl rfl (by kernel_rfl) (by kernel_rfl) (Nat.le_of_ble_eq_true rfl) ?_
   simp (maxSteps:=1000000) -implicitDefEqProofs only [go_sem,awp_seq,Nat.reduceBEq,Nat.reduceAdd,Nat.reduceLT]
   refine callA_t V ?_
   simp (maxSteps:=1000000) -implicitDefEqProofs only [z0,gl,gl2,List.map_cons,List.length_cons,List.length_map,go_sem,awp_seq,Nat.reduceBEq,Nat.reduceLeDiff,Nat.reduceLT,Int.reduceLE,Int.reduceToNat]
   refine callA_mk (q:=[]) C ?_
   simp (maxSteps:=1000000) -implicitDefEqProofs only [g2,go_sem,awp_seq,Nat.reduceBEq,Nat.reduceLeDiff,Nat.reduceLT]
theorem demV_one (r:RuleV):(demV r).one=true:=by
 unfold demV
 repeat' split
 all_goals rfl
theorem demV_norm (r:RuleV):normA Go.Proofs.YtmegoiaijfeilaaGreatDoor.tab 75 (demV r)=demV r:=by
 unfold demV
 repeat' split
 all_goals rfl
theorem judge_c {n:Int} {rs:List RuleV} {l:List (Int × Int)} {ch:List Int} {f:FuncId} {pre post:List AV} (wr:Bool) (hll:l.length≤1048576) (hcl:ch.length≤1048576) (h20:rs.length≤20) (hok:∀r∈rs,demOk r=true) (F:RuleV→Bool) (hnl:(AV.fn (.func f) pre post).noLimb=true) (hf:∀r∈rs,AT f (pre ++ demV r :: post) (boo (F r))) :
  AT 36 [.agg [i64 n,rulesA rs],.sl 2 (l.map prA),.sl 1 (ch.map fun z=>i64 z),boo wr,.fn (.func f) pre post] (.sl 1 ((judgeE wr (!(conflE l ch).isEmpty) (rs.map F)).map fun z=>i64 z)):=by
 have CF:=confl_c l ch hll hcl
 have DM:=demands_c n rs h20 hok
 have a1:(rs.map demV).length≤1000:=by rw [List.length_map];omega
 have a2:(rs.map F).length=(rs.map demV).length:=by simp
 have a3:∀d∈rs.map demV,d.one=true:=fun d hd=>by
  obtain ⟨r,_,rfl⟩:=List.mem_map.1 hd
  exact demV_one r
 have a4:∀d∈rs.map demV,normA Go.Proofs.YtmegoiaijfeilaaGreatDoor.tab 75 d=d:=fun d hd=>by
  obtain ⟨r,_,rfl⟩:=List.mem_map.1 hd
  exact demV_norm r
 have a5:∀i (hi:i<(rs.map demV).length) (hi2:i<(rs.map F).length),AT f (pre ++ (rs.map demV)[i] :: post) (boo (rs.map F)[i]):=fun i hi hi2=>by
  rw [List.getElem_map,List.getElem_map]
  exact hf _ (List.getElem_mem _)
 cases hc:(conflE l ch).isEmpty <;> cases wr
 ·exact judge_ft a1 a2 a3 a4 CF hc ⟨_,_,rfl⟩ ⟨_,_,rfl⟩ DM hnl a5
 ·exact judge_tt a1 a2 a3 a4 CF hc ⟨_,_,rfl⟩ ⟨_,_,rfl⟩ DM hnl a5
 ·exact judge_ff a1 a2 a3 a4 CF hc ⟨_,_,rfl⟩ ⟨_,_,rfl⟩ DM hnl a5
 ·exact judge_tf a1 a2 a3 a4 CF hc ⟨_,_,rfl⟩ ⟨_,_,rfl⟩ DM hnl a5
theorem pool_le {pool:List PI} {k:Int} (h:poolE pool k=0):pool.length≤18:=by
 unfold poolE at h
 split at h
 ·exact absurd h (by decide)
 ·omega
theorem task_ok {n:Int} {rs:List RuleV} {pool:List PI} {l:List (Int × Int)} (h:taskE n rs pool l=0):specE n rs=0∧pool.length≤18∧l.length≤400:=by
 unfold taskE at h
 by_cases h1:specE n rs=0
 ·rw [if_neg (by rw [h1];simp)]at h
  by_cases h2:poolE pool (rowsN pool)=0
  ·rw [if_neg (by rw [h2];simp)]at h
   by_cases h3:400<l.length
   ·rw [if_pos h3]at h;exact absurd h (by decide)
   ·exact ⟨h1,pool_le h2,by omega⟩
  ·rw [if_pos h2]at h;exact absurd h h2
 ·rw [if_pos h1]at h;exact absurd h h1
theorem pickE_len (pool:List PI):∀(ch:List Int) (acc:List PI),(pickE pool ch acc).1.length≤acc.length+ch.length
 | [],acc=>by simp [pickE]
 | id :: ch,acc=>by
  unfold pickE
  split
  ·simp
  ·rename_i y _
   have:=pickE_len pool ch (acc ++ [y])
   simp at this ⊢
   omega
theorem selE_len (pool:List PI) (ch:List Int):(selE pool ch).1.length≤ch.length:=by
 unfold selE
 split
 ·have:=pickE_len pool ch []
  simpa using this
 ·simp
theorem bro1_c (r:RuleV) (items:List PI) (hl:items.length≤1048576) (hr:RIn r) (hk:demOk r=true):AT 35 [demV r,.ptr [.sl 9 (items.map itA)]] (boo (brkE r items)):=by
 obtain ⟨t,a,f,a',hd,hm,hc⟩:=brkR_c r items hl hr hk
 generalize brkE r items=b at *
 generalize items.map itA=es at *
 rw [hd]
 refine ACalls.of ⟨4,[],[]⟩ (fn:=Tryz.f35) Tryz.func35 rfl rfl rfl (by kernel_rfl) (by kernel_rfl) (Nat.le_of_ble_eq_true rfl) ?_
 simp (maxSteps:=1000000) -implicitDefEqProofs only [go_sem,awp_seq,Nat.reduceBEq,Nat.reduceAdd,Nat.reduceLT]
 refine invA_mk hm ?_
 refine callA_tt hc ?_
 simp (maxSteps:=1000000) -implicitDefEqProofs only [go_sem,awp_seq,Nat.reduceBEq]
def broE (n:Int) (rs:List RuleV) (pool:List PI) (l:List (Int × Int)) (ch:List Int):List Int × Int :=
 if taskE n rs pool l≠0 then ([],taskE n rs pool l) else if (selE pool ch).2≠0 then ([],(selE pool ch).2) else
 (judgeE ((((selE pool ch).1.length:Nat):Int) != n) (!(conflE l ch).isEmpty) (rs.map fun r=>brkE r (selE pool ch).1),0)
set_option maxHeartbeats 4000000 in
theorem bro_c (n:Int) (rs:List RuleV) (pool:List PI) (l:List (Int × Int)) (ch:List Int) (hr:∀r∈rs,RIn r) (hl:pool.length≤1048576) (hll:l.length≤1048576) (hcl:ch.length≤1048576):AC 10 [.agg [i64 n,rulesA rs],.sl 9 (pool.map itA),.sl 2 (l.map prA),.sl 1 (ch.map fun z=>i64 z)] (.tup [.sl 1 ((broE n rs pool l ch).1.map fun z=>i64 z),i64 (broE n rs pool l ch).2]):=by
 have T:=task_c n rs pool l hl
 unfold broE
 by_cases h1:taskE n rs pool l=0
 case neg =>
  have g1:(taskE n rs pool l != 0)=true:=by simpa using h1
  rw [if_pos h1]
  generalize taskE n rs pool l=e at *
  refine ACalls.of ⟨14,[],[]⟩ (fn:=Tryz.f10) Tryz.func10 rfl rfl rfl (by kernel_rfl) (by kernel_rfl) (Nat.le_of_ble_eq_true rfl) ?_
  simp (maxSteps:=1000000) -implicitDefEqProofs only [go_sem,awp_seq,Nat.reduceBEq,Nat.reduceAdd,Nat.reduceLT]
  refine callA_mk (q:=[]) T ?_
  simp (maxSteps:=1000000) -implicitDefEqProofs only [g1,go_sem,awp_seq,Nat.reduceBEq,Nat.reduceLeDiff,Nat.reduceLT]
  all_goals rfl
 rw [if_neg (by rw [h1];simp)]
 rw [h1]at T
 obtain ⟨hs,hp,hpl⟩:=task_ok h1
 obtain ⟨hs1,hs2⟩:=spec_ok hs
 have S:=selected_c pool ch (by omega) hcl
 have hsl:=selE_len pool ch
 generalize selE pool ch=se at *
 obtain ⟨items,e2⟩:=se
 dsimp only at S hsl ⊢
 have z0:((0:Int) != 0)=false:=rfl
 by_cases h2:e2=0
 case neg =>
  have g2:(e2 != 0)=true:=by simpa using h2
  rw [if_pos h2]
  refine ACalls.of ⟨14,[],[]⟩ (fn:=Tryz.f10) Tryz.func10 rfl rfl rfl (by kernel_rfl) (by kernel_rfl) (Nat.le_of_ble_eq_true rfl) ?_
  simp (maxSteps:=1000000) -implicitDefEqProofs only [go_sem,awp_seq,Nat.reduceBEq,Nat.reduceAdd,Nat.reduceLT]
  refine callA_mk (q:=[]) T ?_
  simp (maxSteps:=1000000) -implicitDefEqProofs only [z0,go_sem,awp_seq,Nat.reduceBEq,Nat.reduceLeDiff,Nat.reduceLT]
  refine callA_t S ?_
  simp (maxSteps:=1000000) -implicitDefEqProofs only [g2,go_sem,awp_seq,Nat.reduceBEq,Nat.reduceLeDiff,Nat.reduceLT,Nat.reduceEqDiff]
  all_goals rfl
 subst h2
 rw [if_neg (by simp)]
 have hil:items.length≤1048576:=Nat.le_trans hsl hcl
 have J:=judge_c (n:=n) (rs:=rs) (l:=l) (ch:=ch) (f:=35) (pre:=[]) (post:=[.ptr [.sl 9 (items.map itA)]]) (((items.length:Nat):Int) != n) hll hcl hs1 hs2 (fun r=>brkE r items) rfl (fun r hr'=>bro1_c r items hil (hr r hr') (hs2 r hr'))
 generalize judgeE (((items.length:Nat):Int) != n) (!(conflE l ch).isEmpty) (rs.map fun r=>brkE r items)=R at *
 have gw:((((items.length:Nat):Int) != n))=(((items.length:Nat):Int) != n):=rfl
 generalize hw:(((items.length:Nat):Int) != n)=wr at *
 refine ACalls.of ⟨14,[(7,11)],[]⟩ (fn:=Tryz.f10) Tryz.func10 rfl rfl rfl (by kernel_rfl) (by kernel_rfl) (Nat.le_of_ble_eq_true rfl) ?_
 simp (maxSteps:=1000000) -implicitDefEqProofs only [go_sem,awp_seq,Nat.reduceBEq,Nat.reduceAdd,Nat.reduceLT]
 refine callA_mk (q:=[]) T ?_
 simp (maxSteps:=1000000) -implicitDefEqProofs only [z0,go_sem,awp_seq,Nat.reduceBEq,Nat.reduceLeDiff,Nat.reduceLT]
 refine callA_t S ?_
 simp (maxSteps:=1000000) -implicitDefEqProofs only [z0,List.length_map,gw,hw,go_sem,awp_seq,Nat.reduceBEq,Nat.reduceAdd,Nat.reduceLeDiff,Nat.reduceLT,Nat.reduceEqDiff]
 refine callA_t J ?_
 simp (maxSteps:=1000000) -implicitDefEqProofs only [go_sem,awp_seq,Nat.reduceBEq]
def exdE (n:Int) (rs:List RuleV) (pool:List PI) (l:List (Int × Int)) (ch:List Int):List Int × Int :=
 if taskE n rs pool l≠0 then ([],taskE n rs pool l) else if (selE pool ch).2≠0 then ([],(selE pool ch).2) else
 (judgeE (decide (n<(((selE pool ch).1.length:Nat):Int))) (!(conflE l ch).isEmpty) (rs.map fun r=>excE r (selE pool ch).1),0)
end Go.Proofs.YtmegoiaijfeilaaGreatDoor
set_option linter.unusedSimpArgs false
set_option linter.unusedVariables false
namespace Go.Proofs.YtmegoiaijfeilaaGreatDoor
open Go.RowKit Lim
noncomputable section
def isConstQ:Operand→Bool
 | .const _=>true
 | _=>false
def ifEqQ (ox oy:Operand) (a b:AV):Option Bool:=match a,b with
 | .lit .nilIface,.lit .nilIface=>bif isConstQ ox || isConstQ oy then some true else none
 | .ifc _ _,.lit .nilIface=>some false
 | .lit .nilIface,.ifc _ _=>some false
 | _,_=>none
def flipQ (op:BinOp) (r:Bool):Option Bool:=match op with
 | .eql=>some r
 | .neq=>some (!r)
 | _=>none
def litEq (k:TK) (a b:AV):Option Bool:=match k,a,b with
 | .int q,.lit (.int q1 x),.lit (.int q2 y)=>bif decide (q=q1) && decide (q=q2) then some (x == y) else none
 | .bool,.lit (.bool x),.lit (.bool y)=>some (x == y)
 | .str,.lit (.string x),.lit (.string y)=>some (x.data.toList == y.data.toList)
 | _,_,_=>none
def fieldsEq (T:TyTab) (xs ys:List AV):List (Nat × Nat × TypeId)→Option Bool
 | []=>some true
 | (o,_,t) :: l=>(T t).bind fun i=>(takeA i (xs.drop o)).bind fun a=>(takeA i (ys.drop o)).bind fun b=>(litEq i.kind a b).bind fun r=>match r with
  | true=>fieldsEq T xs ys l
  | false=>some false
def strEqQ (T:TyTab) (ty:TypeId) (a b:AV):Option Bool:=match T ty,a,b with
 | some ⟨.strct fs,_,_⟩,.agg xs,.agg ys=>fieldsEq T xs ys fs
 | _,_,_=>none
section
variable {P:Program} {T:TyTab} {w:World} {Z:Zone}
theorem eqIn_nil_held (d:Nat) (t u:TypeId) (x:Value) (h:P.underlying t=some (.interface (P.methodsAt t))):(Op.equalIn (d+1) t .nilIface (.iface u x)).run P w=.ok false w:=by
 simp [Op.equalIn,run_underlying h]
theorem eq_nil_held (t u:TypeId) (x:Value) (h:P.underlying t=some (.interface (P.methodsAt t))):(Op.equal t .nilIface (.iface u x)).run P w=.ok false w:=eqIn_nil_held 9999 t u x h
theorem eql_nil_held (t u:TypeId) (x:Value) (h:P.underlying t=some (.interface (P.methodsAt t))):(binOp .eql t .nilIface (.iface u x)).run P w=.ok (.bool false) w:=by
 simp only [binOp]
 simp [eq_nil_held t u x h]
theorem neq_nil_held (t u:TypeId) (x:Value) (h:P.underlying t=some (.interface (P.methodsAt t))):(binOp .neq t .nilIface (.iface u x)).run P w=.ok (.bool true) w:=by
 simp only [binOp]
 simp [eq_nil_held t u x h]
theorem ifEq_ok {ty:TypeId} (h:P.underlying ty=some (.interface (P.methodsAt ty))) {op:BinOp} {ox oy:Operand} {a b:AV} {r r':Bool} (h1:ifEqQ ox oy a b=some r) (h2:flipQ op r=some r'):EqV P op ty ox oy a b r':=by
 intro w Z va vb ha hb
 unfold ifEqQ at h1
 split at h1
 ·obtain ⟨h3,h4⟩:=kif h1
  cases h4
  rw [ha.lit_eq,hb.lit_eq]
  have hg:eqGuard op ty ox oy .nilIface .nilIface=pure ():=by
   cases ox <;> first|(simp only [eqGuard_nil_constL];done)|skip
   all_goals (cases oy <;> first|(simp only [eqGuard_nil_constR];done)|cases h3)
  rw [hg]
  cases op <;> first|cases h2|skip
  ·simp [run_eql_nil_nil w ty h]
  ·simp [run_neq_nil_nil w ty h]
 ·cases h1
  cases ha with
  | ifc hr =>
   rw [hb.lit_eq]
   have hg:∀t u,eqGuard op ty ox oy (.iface t u) .nilIface=pure ():=fun t u=>by simp only [eqGuard_at_iface]
   rw [hg]
   cases op <;> first|cases h2|skip
   ·simp [run_eql_held_nil w ty _ _ h]
   ·simp [run_neq_held_nil w ty _ _ h]
 ·cases h1
  cases hb with
  | ifc hr =>
   rw [ha.lit_eq,eqGuard_nil_iface]
   cases op <;> first|cases h2|skip
   ·simp [eql_nil_held _ _ _ h]
   ·simp [neq_nil_held _ _ _ h]
 ·cases h1
theorem litEq_ok {ty:TypeId} {i:TI} (h:TIOK P ty i) {a b:AV} {r:Bool} (h1:litEq i.kind a b=some r) {va vb:Value} (ha:Rep w Z a va) (hb:Rep w Z b vb) (d:Nat):(Op.equalIn (d+1) ty va vb).run P w=.ok r w:=by
 have hu:=h.und
 unfold litEq at h1
 split at h1
 ·rename_i hk
  rw [hk]at hu
  obtain ⟨h2,h3⟩:=kif h1
  obtain ⟨h4,h5⟩:=kand h2
  have h4:=of_decide_eq_true h4
  have h5:=of_decide_eq_true h5
  subst h4
  subst h5
  cases h3
  rw [ha.lit_eq,hb.lit_eq]
  exact run_equalIn_int w d ty _ _ _ _ hu
 ·rename_i hk
  rw [hk]at hu
  cases h1
  rw [ha.lit_eq,hb.lit_eq]
  exact run_equalIn_bool' w d ty _ _ hu
 ·rename_i hk
  rw [hk]at hu
  cases h1
  rw [ha.lit_eq,hb.lit_eq,←toList_ba,←toList_ba]
  exact run_equalIn_string w d ty _ _ hu
 ·cases h1
theorem fields_ok {C : Ctx} {xs ys : List AV} {vx vy : Array Value} (hx : Rep w Z (.agg xs) (.agg vx)) (hy : Rep w Z (.agg ys) (.agg vy)) (d : Nat) : ∀ (fs : List (Nat × Nat × TypeId)) (fds : List Field) {r : Bool}, fs.length = fds.length → (∀ (j : Nat) (o n : Nat) (t : TypeId), fs[j]? = some (o, n, t) → ∃ fd : Field, fds[j]? = some fd ∧ fd.offset = o ∧ fd.type = t) → (fds.all fun f => f.name != "_") = true → fieldsEq C.T xs ys fs = some r → (Op.eqFields (d + 1) vx vy fds).run C.P w = .ok r w
 | [],[],r,_,_,_,h=>by cases h;simp [Op.eqFields]
 | [],_ :: _,_,hl,_,_,_=>by simp at hl
 | _ :: _,[],_,hl,_,_,_=>by simp at hl
 | (o,n,t) :: fs,fd :: fds,r,hl,hf,hn,h=>by
  obtain ⟨fd',q1,q2,q3⟩:=hf 0 o n t rfl
  cases q1
  obtain ⟨i,h1,h⟩:=kbind h
  obtain ⟨a,h2,h⟩:=kbind h
  obtain ⟨b,h3,h⟩:=kbind h
  obtain ⟨rr,h4,h⟩:=kbind h
  simp only [List.all_cons,Bool.and_eq_true,bne_iff_ne]at hn
  have hi:=C.hT _ _ h1
  obtain ⟨u,g1,g2⟩:=takeA_part (C:=C) (w:=w) (Z:=Z) hi hx (o:=o) h2
  obtain ⟨v,g3,g4⟩:=takeA_part (C:=C) (w:=w) (Z:=Z) hi hy (o:=o) h3
  have g5:=litEq_ok hi h4 g2 g4 d
  unfold Op.eqFields
  rw [if_pos hn.1,q2,q3]
  simp only [Sem.run_bind,g1,Result.andThen_ok,g3,g5]
  cases rr with
  | false=>cases h;simp
  | true =>
   simp only [Bool.not_true,Bool.false_eq_true,if_false]
   exact fields_ok hx hy d fs fds (by simpa using hl) (fun j o n t hj=>hf (j+1) o n t hj) hn.2 h
def eqTyB (P:Program) (ty:TypeId):Bool:=(match P.underlying ty with
 | some (.struct fds) => fds.toList.all (fun f => f.name != "_")
 | _=>false) && (!P.stoodInHeld ty && !P.eqGuardType P.depth ty)
def ifTyB (P:Program) (ty:TypeId):Bool:=match P.underlying ty with
 | some (.interface _)=>true
 | _=>false
theorem strEq_ok {C:Ctx} {ty:TypeId} (h:eqTyB C.P ty=true) {op:BinOp} {ox oy:Operand} {a b:AV} {r r':Bool} (h1:strEqQ C.T ty a b=some r) (h2:flipQ op r=some r'):EqV C.P op ty ox oy a b r':=by
 intro w Z va vb ha hb
 unfold strEqQ at h1
 split at h1
 ·rename_i fs z b xs ys h3
  obtain ⟨vx,rfl,hx⟩:∃vs,va=.agg vs∧Rep w Z (.agg xs) (.agg vs):=by cases ha with|agg hl hr=>exact ⟨_,rfl,.agg hl hr⟩
  obtain ⟨vy,rfl,hy⟩:∃vs,vb=.agg vs∧Rep w Z (.agg ys) (.agg vs):=by cases hb with|agg hl hr=>exact ⟨_,rfl,.agg hl hr⟩
  obtain ⟨k1,k2⟩:=kand h
  obtain ⟨k2,k3⟩:=kand k2
  obtain ⟨fds,u1,u2,u3⟩:=(C.hT _ _ h3).und
  have hfo:C.P.fieldsOf ty=fds:=by unfold Program.fieldsOf;rw [u1]
  rw [u1]at k1
  have hf:=fields_ok hx hy 9998 fs fds.toList (by simp [u2]) (fun j o n t hj=>by
   obtain ⟨fd,g1,g2,g3,_⟩:=u3 j o n t hj
   exact ⟨fd,by simpa using g1,g2,g3⟩) k1 h1
  have he:(Op.equalIn 10000 ty (.agg vx) (.agg vy)).run C.P w=.ok r w:=by
   rw [run_equalIn_struct w 9999 ty vx vy (by rw [hfo];exact u1) (by simpa using k2),hfo]
   exact hf
  have hg:=run_eqGuard_agg (P:=C.P) w op ty ox oy vx vy (by simpa using k3)
  rw [Sem.run_bind,hg,Result.andThen_ok]
  cases op <;> first|cases h2|skip
  ·rw [run_eql_struct,he];rfl
  ·rw [run_neq_struct,he];rfl
 ·cases h1
end
def eqTab (T:TyTab) (ifs sts:List Nat) (op:BinOp) (ty:TypeId) (ox oy:Operand) (a b:AV):Option Bool :=
 bif memQ ty ifs then (ifEqQ ox oy a b).bind (flipQ op) else bif memQ ty sts then (strEqQ T ty a b).bind (flipQ op) else none
theorem memQ_all {p:Nat→Bool}:∀{l:List Nat} {x:Nat},l.all p=true→memQ x l=true→p x=true
 | [],_,_,h=>by cases h
 | y :: l,x,ha,h=>by
  simp only [List.all_cons,Bool.and_eq_true]at ha
  have h:(Nat.beq x y || memQ x l)=true:=h
  cases hb:Nat.beq x y with
  | true=>rw [kbeq hb];exact ha.1
  | false=>rw [hb,Bool.false_or]at h;exact memQ_all ha.2 h
theorem eqTab_ok {C:Ctx} {ifs sts:List Nat} (h1:ifs.all (ifTyB C.P)=true) (h2:sts.all (eqTyB C.P)=true) {op:BinOp} {ty:TypeId} {ox oy:Operand} {a b:AV} {r:Bool} (h:eqTab C.T ifs sts op ty ox oy a b=some r):EqV C.P op ty ox oy a b r:=by
 unfold eqTab at h
 cases hi:memQ ty ifs with
 | true =>
  rw [hi]at h
  obtain ⟨r0,h3,h4⟩:=kbind h
  have:=memQ_all h1 hi
  unfold ifTyB at this
  split at this
  ·rename_i ms hu
   have hm:C.P.methodsAt ty=ms:=by unfold Program.methodsAt;rw [hu]
   exact ifEq_ok (by rw [hm];exact hu) h3 h4
  ·cases this
 | false =>
  rw [hi]at h
  obtain ⟨h3,h⟩:=kif h
  obtain ⟨r0,h4,h5⟩:=kbind h
  exact strEq_ok (memQ_all h2 h3) h4 h5
end
end Go.Proofs.YtmegoiaijfeilaaGreatDoor
set_option linter.unusedSimpArgs false
set_option linter.unusedVariables false
namespace Go.Proofs.YtmegoiaijfeilaaGreatDoor
open Go.RowKit Lim
structure MeRow where
 t:TypeId
 name:String
 f:FuncId
 p:Option (Nat × Nat × Nat)
def partA (n o m:Nat):AV→Option AV
 | .agg cs=>bif Nat.beq cs.length n then some (.agg ((cs.drop o).take m)) else none
 | _=>none
def recvA:Option (Nat × Nat × Nat)→AV→Option AV
 | none,a=>some a
 | some (n,o,m),a=>partA n o m a
def MeE (P:Program) (e:MeRow):Prop:=∀a a',recvA e.p a=some a'→Meth P e.t e.name a e.f a'
def meth:List MeRow→TypeId→String→Option (FuncId × (AV→Option AV))
 | [],_,_=>none
 | e :: l,t,s=>bif Nat.beq e.t t && e.name == s then some (e.f,recvA e.p) else meth l t s
theorem meth_some {P:Program}:∀{l:List MeRow} {t:TypeId} {s:String} {f:FuncId} {r:AV→Option AV},(∀p∈l,MeE P p)→meth l t s=some (f,r)→∀a a',r a=some a'→Meth P t s a f a'
 | [],_,_,_,_,_,h=>by cases h
 | e :: l,t,s,f,r,hl,h=>by
  unfold meth at h
  cases hc:(Nat.beq e.t t && e.name == s)with
  | true =>
   rw [hc]at h
   cases h
   simp only [Bool.and_eq_true,beq_iff_eq]at hc
   have h1:=kbeq hc.1
   have h2:=hc.2
   subst h1
   subst h2
   exact hl e List.mem_cons_self
  | false =>
   rw [hc]at h
   exact meth_some (fun p hp=>hl p (List.mem_cons_of_mem _ hp)) h
theorem meW {P:Program} {t:TypeId} {s:String} {f:FuncId} (h:∀(w:World) (v:Value) (_:Unit),(method (P.types.size+Made.depth) t v s).run P w=.ok (f,v) w):MeE P ⟨t,s,f,none⟩ :=
 fun a a' ha w Z v hr=>by cases ha;exact ⟨v,h w v (),hr⟩
theorem rep_part {w:World} {Z:Zone} {cs:List AV} {vs:Array Value} (h:Rep w Z (.agg cs) (.agg vs)) (o m:Nat):Rep w Z (.agg ((cs.drop o).take m)) (.agg ((vs.toList.drop o).take m).toArray):=by
 obtain ⟨h1,h2⟩:=Rep.agg_iff.1 h
 refine Rep.agg_iff.2 ⟨by simp [h1],fun j x u hx hu=>?_⟩
 have hx':cs[o+j]? = some x:=by
  rw [List.getElem?_take]at hx
  split at hx
  ·rwa [List.getElem?_drop]at hx
  ·cases hx
 have hu':vs[o+j]? = some u:=by
  rw [List.getElem?_toArray,List.getElem?_take]at hu
  split at hu
  ·rw [List.getElem?_drop,Array.getElem?_toList]at hu;exact hu
  ·cases hu
 exact h2 _ _ _ hx' hu'
theorem arr_3 {vs:Array Value} (h:vs.size=3):∃a b c,vs=#[a,b,c]:=⟨vs[0],vs[1],vs[2],Array.ext (by simp [h]) fun i h1 h2=>by
 match i,h2 with
 | 0,_=>rfl
 | 1,_=>rfl
 | 2,_=>rfl⟩
theorem arr_4 {vs:Array Value} (h:vs.size=4):∃a b c d,vs=#[a,b,c,d]:=⟨vs[0],vs[1],vs[2],vs[3],Array.ext (by simp [h]) fun i h1 h2=>by
 match i,h2 with
 | 0,_=>rfl
 | 1,_=>rfl
 | 2,_=>rfl
 | 3,_=>rfl⟩
theorem partA_some {n o m:Nat} {a a':AV} (h:partA n o m a=some a'):∃cs,a=.agg cs∧cs.length=n∧a'=.agg ((cs.drop o).take m):=by
 unfold partA at h
 split at h
 ·rename_i cs
  obtain ⟨h1,h⟩:=kif h
  cases h
  exact ⟨cs,rfl,kbeq h1,rfl⟩
 ·cases h
theorem rep_aggV {w:World} {Z:Zone} {cs:List AV} {v:Value} (h:Rep w Z (.agg cs) v):∃vs,v=.agg vs∧vs.size=cs.length:=by
 cases h with
 | agg hl hr=>exact ⟨_,rfl,hl⟩
section
variable {P:Program} {t:TypeId} {s:String} {f:FuncId} {o m:Nat}
theorem meP3 (h:∀(w:World) (x0 x1 x2:Value),(method (P.types.size+Made.depth) t (.agg #[x0,x1,x2]) s).run P w=.ok (f,.agg (([x0,x1,x2].drop o).take m).toArray) w):MeE P ⟨t,s,f,some (3,o,m)⟩:=fun a a' ha w Z v hr=>by
 obtain ⟨cs,rfl,hn,rfl⟩:=partA_some ha
 obtain ⟨vs,rfl,hs⟩:=rep_aggV hr
 obtain ⟨x0,x1,x2,rfl⟩:=arr_3 (hs.trans hn)
 exact ⟨_,h w x0 x1 x2,rep_part hr o m⟩
theorem meP4 (h:∀(w:World) (x0 x1 x2 x3:Value),(method (P.types.size+Made.depth) t (.agg #[x0,x1,x2,x3]) s).run P w=.ok (f,.agg (([x0,x1,x2,x3].drop o).take m).toArray) w):MeE P ⟨t,s,f,some (4,o,m)⟩:=fun a a' ha w Z v hr=>by
 obtain ⟨cs,rfl,hn,rfl⟩:=partA_some ha
 obtain ⟨vs,rfl,hs⟩:=rep_aggV hr
 obtain ⟨x0,x1,x2,x3,rfl⟩:=arr_4 (hs.trans hn)
 exact ⟨_,h w x0 x1 x2 x3,rep_part hr o m⟩
end
end Go.Proofs.YtmegoiaijfeilaaGreatDoor
namespace Go.Proofs.YtmegoiaijfeilaaGreatDoor
open Go.RowKit Lim
def tabKT:KTree TI:=.node (.node (.node (.node (.node (.node (.node (.node .nil 1 ⟨.scal,[.lit .nilFunc],8⟩ .nil) 2 ⟨.int .i64,[.lit (.int .i64 0)],8⟩ (.node .nil 3 ⟨.int .i64,[.lit (.int .i64 0)],8⟩ .nil)) 4 ⟨.bool,[.lit (.bool false)],1⟩ (.node (.node .nil 5 ⟨.int .u8,[.lit (.int .u8 0)],1⟩ .nil) 6 ⟨.int .u8,[.lit (.int .u8 0)],1⟩ (.node .nil 7 ⟨.strct [(0,1,2),(1,1,3),(2,1,4),(3,1,6)],[.lit (.int .i64 0),.lit (.int .i64 0),.lit (.bool false),.lit (.int .u8 0)],24⟩ .nil))) 8 ⟨.strct [(0,1,2),(1,1,3),(2,1,4),(3,1,6)],[.lit (.int .i64 0),.lit (.int .i64 0),.lit (.bool false),.lit (.int .u8 0)],24⟩ (.node (.node (.node .nil 9 ⟨.str,[.lit (.string ⟨#[]⟩)],16⟩ .nil) 10 ⟨.str,[.lit (.string ⟨#[]⟩)],16⟩ (.node .nil 11 ⟨.str,[.lit (.string ⟨#[]⟩)],16⟩ .nil)) 12 ⟨.int .u64,[.lit (.int .u64 0)],8⟩ (.node (.node .nil 13 ⟨.strct [(0,1,9),(1,1,12)],[.lit (.string ⟨#[]⟩),.lit (.int .u64 0)],24⟩ .nil) 14 ⟨.strct [(0,1,9),(1,1,12)],[.lit (.string ⟨#[]⟩),.lit (.int .u64 0)],24⟩ (.node .nil 15 ⟨.scal,[.lit (.pointer none)],8⟩ .nil)))) 16 ⟨.scal,[.lit (.pointer none)],8⟩ (.node (.node (.node (.node .nil 17 ⟨.scal,[.lit (.pointer none)],8⟩ .nil) 18 ⟨.strct [(0,1,17)],[.lit (.pointer none)],8⟩ (.node .nil 19 ⟨.strct [(0,1,17)],[.lit (.pointer none)],8⟩ .nil)) 20 ⟨.scal,[.lit .nilIface],16⟩ (.node (.node .nil 21 ⟨.int .i32,[.lit (.int .i32 0)],4⟩ .nil) 22 ⟨.slc 47 5 false,[.lit (.slice none 0 0)],24⟩ (.node .nil 23 ⟨.strct [(0,1,3),(1,1,22)],[.lit (.int .i64 0),.lit (.slice none 0 0)],32⟩ .nil))) 24 ⟨.strct [(0,1,3),(1,1,22)],[.lit (.int .i64 0),.lit (.slice none 0 0)],32⟩ (.node (.node (.node .nil 25 ⟨.slc 54 9 false,[.lit (.slice none 0 0)],24⟩ .nil) 26 ⟨.slc 64 2 false,[.lit (.slice none 0 0)],24⟩ (.node .nil 27 ⟨.slc 3 1 false,[.lit (.slice none 0 0)],24⟩ .nil)) 28 ⟨.slc 59 3 false,[.lit (.slice none 0 0)],24⟩ (.node (.node .nil 29 ⟨.strct [(0,1,27),(1,1,28),(2,1,27)],[.lit (.slice none 0 0),.lit (.slice none 0 0),.lit (.slice none 0 0)],72⟩ .nil) 30 ⟨.strct [(0,1,27),(1,1,28),(2,1,27)],[.lit (.slice none 0 0),.lit (.slice none 0 0),.lit (.slice none 0 0)],72⟩ .nil)))) 31 ⟨.int .i64,[.lit (.int .i64 0)],8⟩ (.node (.node (.node (.node (.node .nil 33 ⟨.scal,[.lit .nilFunc],8⟩ .nil) 34 ⟨.scal,[.lit .nilFunc],8⟩ (.node .nil 35 ⟨.scal,[.lit .nilFunc],8⟩ .nil)) 36 ⟨.scal,[.lit .nilFunc],8⟩ (.node (.node .nil 38 ⟨.scal,[.lit .nilFunc],8⟩ .nil) 39 ⟨.scal,[.lit .nilFunc],8⟩ (.node .nil 40 ⟨.scal,[.lit .nilFunc],8⟩ .nil))) 41 ⟨.scal,[.lit .nilFunc],8⟩ (.node (.node (.node .nil 42 ⟨.scal,[.lit .nilFunc],8⟩ .nil) 43 ⟨.scal,[.lit .nilFunc],8⟩ (.node .nil 44 ⟨.strct [(0,2,24),(2,1,25),(3,1,3),(4,1,3)],[.lit (.int .i64 0),.lit (.slice none 0 0),.lit (.slice none 0 0),.lit (.int .i64 0),.lit (.int .i64 0)],72⟩ .nil)) 45 ⟨.strct [(0,2,24),(2,1,25),(3,1,3),(4,1,3)],[.lit (.int .i64 0),.lit (.slice none 0 0),.lit (.slice none 0 0),.lit (.int .i64 0),.lit (.int .i64 0)],72⟩ (.node (.node .nil 46 ⟨.strct [(0,1,3),(1,1,3),(2,1,3),(3,1,3),(4,1,9)],[.lit (.int .i64 0),.lit (.int .i64 0),.lit (.int .i64 0),.lit (.int .i64 0),.lit (.string ⟨#[]⟩)],48⟩ .nil) 47 ⟨.strct [(0,1,3),(1,1,3),(2,1,3),(3,1,3),(4,1,9)],[.lit (.int .i64 0),.lit (.int .i64 0),.lit (.int .i64 0),.lit (.int .i64 0),.lit (.string ⟨#[]⟩)],48⟩ .nil))) 48 ⟨.scal,[.lit .nilFunc],8⟩ (.node (.node (.node (.node .nil 49 ⟨.scal,[.lit .nilFunc],8⟩ .nil) 50 ⟨.slc 27 1 false,[.lit (.slice none 0 0)],24⟩ (.node .nil 51 ⟨.strct [(0,1,50)],[.lit (.slice none 0 0)],24⟩ .nil)) 52 ⟨.strct [(0,1,50)],[.lit (.slice none 0 0)],24⟩ (.node (.node .nil 53 ⟨.strct [(0,1,3),(1,1,9),(2,1,3),(3,1,3),(4,1,3),(5,1,3),(6,1,3),(7,1,3),(8,1,52)],[.lit (.int .i64 0),.lit (.string ⟨#[]⟩),.lit (.int .i64 0),.lit (.int .i64 0),.lit (.int .i64 0),.lit (.int .i64 0),.lit (.int .i64 0),.lit (.int .i64 0),.lit (.slice none 0 0)],96⟩ .nil) 54 ⟨.strct [(0,1,3),(1,1,9),(2,1,3),(3,1,3),(4,1,3),(5,1,3),(6,1,3),(7,1,3),(8,1,52)],[.lit (.int .i64 0),.lit (.string ⟨#[]⟩),.lit (.int .i64 0),.lit (.int .i64 0),.lit (.int .i64 0),.lit (.int .i64 0),.lit (.int .i64 0),.lit (.int .i64 0),.lit (.slice none 0 0)],96⟩ (.node .nil 55 ⟨.scal,[.lit .nilFunc],8⟩ .nil))) 56 ⟨.scal,[.lit .nilFunc],8⟩ (.node (.node (.node .nil 57 ⟨.scal,[.lit .nilFunc],8⟩ .nil) 58 ⟨.strct [(0,1,27),(1,1,3),(2,1,3)],[.lit (.slice none 0 0),.lit (.int .i64 0),.lit (.int .i64 0)],40⟩ (.node .nil 59 ⟨.strct [(0,1,27),(1,1,3),(2,1,3)],[.lit (.slice none 0 0),.lit (.int .i64 0),.lit (.int .i64 0)],40⟩ .nil)) 60 ⟨.scal,[.lit .nilFunc],8⟩ (.node (.node .nil 61 ⟨.scal,[.lit .nilFunc],8⟩ .nil) 62 ⟨.scal,[.lit .nilFunc],8⟩ .nil))))) 63 ⟨.strct [(0,1,3),(1,1,3)],[.lit (.int .i64 0),.lit (.int .i64 0)],16⟩ (.node (.node (.node (.node (.node (.node .nil 64 ⟨.strct [(0,1,3),(1,1,3)],[.lit (.int .i64 0),.lit (.int .i64 0)],16⟩ .nil) 66 ⟨.scal,[.lit .nilFunc],8⟩ (.node .nil 68 ⟨.scal,[.lit .nilFunc],8⟩ .nil)) 69 ⟨.scal,[.lit .nilFunc],8⟩ (.node (.node .nil 70 ⟨.scal,[.lit .nilFunc],8⟩ .nil) 71 ⟨.scal,[.lit .nilFunc],8⟩ (.node .nil 73 ⟨.scal,[.lit .nilFunc],8⟩ .nil))) 74 ⟨.scal,[.lit .nilIface],16⟩ (.node (.node (.node .nil 75 ⟨.scal,[.lit .nilIface],16⟩ .nil) 76 ⟨.scal,[.lit .nilFunc],8⟩ (.node .nil 77 ⟨.scal,[.lit .nilFunc],8⟩ .nil)) 78 ⟨.scal,[.lit .nilFunc],8⟩ (.node (.node .nil 79 ⟨.scal,[.lit .nilFunc],8⟩ .nil) 80 ⟨.scal,[.lit .nilFunc],8⟩ .nil))) 81 ⟨.scal,[.lit .nilFunc],8⟩ (.node (.node (.node (.node .nil 82 ⟨.scal,[.lit .nilFunc],8⟩ .nil) 83 ⟨.scal,[.lit .nilFunc],8⟩ (.node .nil 84 ⟨.scal,[.lit .nilFunc],8⟩ .nil)) 85 ⟨.slc 75 1 false,[.lit (.slice none 0 0)],24⟩ (.node (.node .nil 86 ⟨.scal,[.lit .nilFunc],8⟩ .nil) 87 ⟨.scal,[.lit .nilFunc],8⟩ (.node .nil 88 ⟨.scal,[.lit .nilFunc],8⟩ .nil))) 89 ⟨.scal,[.lit .nilFunc],8⟩ (.node (.node (.node .nil 90 ⟨.scal,[.lit .nilFunc],8⟩ .nil) 91 ⟨.scal,[.lit .nilFunc],8⟩ (.node .nil 92 ⟨.scal,[.lit .nilFunc],8⟩ .nil)) 93 ⟨.scal,[.lit .nilFunc],8⟩ (.node (.node .nil 94 ⟨.scal,[.lit (.pointer none)],8⟩ .nil) 95 ⟨.slc 5 1 false,[.lit (.slice none 0 0)],24⟩ .nil)))) 96 ⟨.strct [(0,1,94),(1,1,95)],[.lit (.pointer none),.lit (.slice none 0 0)],32⟩ (.node (.node (.node (.node (.node .nil 97 ⟨.strct [(0,1,94),(1,1,95)],[.lit (.pointer none),.lit (.slice none 0 0)],32⟩ .nil) 98 ⟨.scal,[.lit .nilIface],16⟩ (.node .nil 99 ⟨.scal,[.lit .nilIface],16⟩ .nil)) 101 ⟨.scal,[.lit .nilFunc],8⟩ (.node (.node .nil 102 ⟨.scal,[.lit .nilFunc],8⟩ .nil) 103 ⟨.scal,[.lit .nilFunc],8⟩ (.node .nil 105 ⟨.scal,[.lit .nilFunc],8⟩ .nil))) 107 ⟨.scal,[.lit .nilFunc],8⟩ (.node (.node (.node .nil 109 ⟨.scal,[.lit .nilFunc],8⟩ .nil) 110 ⟨.scal,[.lit .nilFunc],8⟩ (.node .nil 111 ⟨.scal,[.lit .nilFunc],8⟩ .nil)) 112 ⟨.scal,[.lit .nilFunc],8⟩ (.node (.node .nil 113 ⟨.scal,[.lit .nilFunc],8⟩ .nil) 114 ⟨.scal,[.lit .nilFunc],8⟩ .nil))) 115 ⟨.scal,[.lit .nilFunc],8⟩ (.node (.node (.node (.node .nil 117 ⟨.scal,[.lit .nilFunc],8⟩ .nil) 118 ⟨.scal,[.lit .nilFunc],8⟩ (.node .nil 119 ⟨.map 3 4,[.lit (.map none)],8⟩ .nil)) 120 ⟨.scal,[.lit .nilFunc],8⟩ (.node (.node .nil 121 ⟨.scal,[.lit .nilFunc],8⟩ .nil) 122 ⟨.scal,[.lit .nilFunc],8⟩ (.node .nil 123 ⟨.scal,[.lit .nilFunc],8⟩ .nil))) 124 ⟨.scal,[.lit .nilFunc],8⟩ (.node (.node (.node .nil 125 ⟨.slc 9 1 false,[.lit (.slice none 0 0)],24⟩ .nil) 126 ⟨.scal,[.lit .nilFunc],8⟩ (.node .nil 127 ⟨.scal,[.lit .nilFunc],8⟩ .nil)) 128 ⟨.scal,[.lit (.pointer none)],8⟩ (.node (.node .nil 129 ⟨.scal,[.lit .nilFunc],8⟩ .nil) 130 ⟨.scal,[.lit .nilFunc],8⟩ .nil)))))) 132 ⟨.scal,[.lit .nilFunc],8⟩ (.node (.node (.node (.node (.node (.node (.node .nil 133 ⟨.scal,[.lit .nilFunc],8⟩ .nil) 134 ⟨.scal,[.lit .nilFunc],8⟩ (.node .nil 135 ⟨.strct [(0,1,3),(1,1,3)],[.lit (.int .i64 0),.lit (.int .i64 0)],16⟩ .nil)) 136 ⟨.strct [(0,1,3),(1,1,3)],[.lit (.int .i64 0),.lit (.int .i64 0)],16⟩ (.node (.node .nil 137 ⟨.scal,[.lit .nilFunc],8⟩ .nil) 138 ⟨.strct [(0,2,136),(2,1,83)],[.lit (.int .i64 0),.lit (.int .i64 0),.lit .nilFunc],24⟩ (.node .nil 139 ⟨.strct [(0,2,136),(2,1,83)],[.lit (.int .i64 0),.lit (.int .i64 0),.lit .nilFunc],24⟩ .nil))) 140 ⟨.strct [(0,3,139),(3,1,9)],[.lit (.int .i64 0),.lit (.int .i64 0),.lit .nilFunc,.lit (.string ⟨#[]⟩)],40⟩ (.node (.node (.node .nil 141 ⟨.strct [(0,3,139),(3,1,9)],[.lit (.int .i64 0),.lit (.int .i64 0),.lit .nilFunc,.lit (.string ⟨#[]⟩)],40⟩ .nil) 142 ⟨.strct [(0,3,139)],[.lit (.int .i64 0),.lit (.int .i64 0),.lit .nilFunc],24⟩ (.node .nil 143 ⟨.strct [(0,3,139)],[.lit (.int .i64 0),.lit (.int .i64 0),.lit .nilFunc],24⟩ .nil)) 144 ⟨.strct [(0,3,139)],[.lit (.int .i64 0),.lit (.int .i64 0),.lit .nilFunc],24⟩ (.node (.node .nil 145 ⟨.strct [(0,3,139)],[.lit (.int .i64 0),.lit (.int .i64 0),.lit .nilFunc],24⟩ .nil) 146 ⟨.strct [(0,3,139),(3,1,3)],[.lit (.int .i64 0),.lit (.int .i64 0),.lit .nilFunc,.lit (.int .i64 0)],32⟩ .nil))) 147 ⟨.strct [(0,3,139),(3,1,3)],[.lit (.int .i64 0),.lit (.int .i64 0),.lit .nilFunc,.lit (.int .i64 0)],32⟩ (.node (.node (.node (.node .nil 148 ⟨.strct [(0,2,136),(2,1,3)],[.lit (.int .i64 0),.lit (.int .i64 0),.lit (.int .i64 0)],24⟩ .nil) 149 ⟨.strct [(0,2,136),(2,1,3)],[.lit (.int .i64 0),.lit (.int .i64 0),.lit (.int .i64 0)],24⟩ (.node .nil 150 ⟨.strct [(0,1,3)],[.lit (.int .i64 0)],8⟩ .nil)) 151 ⟨.strct [(0,1,3)],[.lit (.int .i64 0)],8⟩ (.node (.node .nil 152 ⟨.strct [(0,1,3)],[.lit (.int .i64 0)],8⟩ .nil) 153 ⟨.strct [],[],0⟩ (.node .nil 154 ⟨.strct [],[],0⟩ .nil))) 155 ⟨.scal,[.lit .nilFunc],8⟩ (.node (.node (.node .nil 156 ⟨.scal,[.lit .nilFunc],8⟩ .nil) 157 ⟨.scal,[.lit .nilFunc],8⟩ (.node .nil 158 ⟨.scal,[.lit .nilFunc],8⟩ .nil)) 160 ⟨.scal,[.lit .nilFunc],8⟩ (.node (.node .nil 161 ⟨.scal,[.lit .nilFunc],8⟩ .nil) 163 ⟨.scal,[.lit .nilFunc],8⟩ .nil)))) 164 ⟨.scal,[.lit .nilFunc],8⟩ (.node (.node (.node (.node (.node .nil 165 ⟨.scal,[.lit .nilFunc],8⟩ .nil) 166 ⟨.scal,[.lit .nilFunc],8⟩ (.node .nil 167 ⟨.slc 195 1 true,[.lit (.slice none 0 0)],24⟩ .nil)) 168 ⟨.slc 195 1 true,[.lit (.slice none 0 0)],24⟩ (.node (.node .nil 170 ⟨.scal,[.lit .nilFunc],8⟩ .nil) 171 ⟨.arr 5 9 1,[.lit (.string ⟨#[]⟩),.lit (.string ⟨#[]⟩),.lit (.string ⟨#[]⟩),.lit (.string ⟨#[]⟩),.lit (.string ⟨#[]⟩)],80⟩ (.node .nil 173 ⟨.scal,[.lit .nilFunc],8⟩ .nil))) 174 ⟨.scal,[.lit .nilFunc],8⟩ (.node (.node (.node .nil 175 ⟨.scal,[.lit .nilFunc],8⟩ .nil) 176 ⟨.int .u64,[.lit (.int .u64 0)],8⟩ (.node .nil 177 ⟨.scal,[.lit .nilFunc],8⟩ .nil)) 178 ⟨.scal,[.lit .nilFunc],8⟩ (.node (.node .nil 179 ⟨.scal,[.lit .nilFunc],8⟩ .nil) 180 ⟨.scal,[.lit .nilFunc],8⟩ .nil))) 181 ⟨.scal,[.lit .nilFunc],8⟩ (.node (.node (.node (.node .nil 182 ⟨.scal,[.lit .nilFunc],8⟩ .nil) 183 ⟨.int .u64,[.lit (.int .u64 0)],8⟩ (.node .nil 184 ⟨.scal,[.lit .nilFunc],8⟩ .nil)) 185 ⟨.scal,[.lit .nilFunc],8⟩ (.node (.node .nil 186 ⟨.scal,[.lit .nilFunc],8⟩ .nil) 187 ⟨.int .i64,[.lit (.int .i64 0)],8⟩ (.node .nil 189 ⟨.scal,[.lit .nilFunc],8⟩ .nil))) 190 ⟨.scal,[.lit .nilFunc],8⟩ (.node (.node (.node .nil 191 ⟨.scal,[.lit .nilFunc],8⟩ .nil) 193 ⟨.scal,[.lit .nilFunc],8⟩ (.node .nil 194 ⟨.scal,[.lit .nilFunc],8⟩ .nil)) 195 ⟨.int .u32,[.lit (.int .u32 0)],4⟩ (.node (.node .nil 196 ⟨.scal,[.lit .nilFunc],8⟩ .nil) 197 ⟨.arr 24 5 1,[.lit (.int .u8 0),.lit (.int .u8 0),.lit (.int .u8 0),.lit (.int .u8 0),.lit (.int .u8 0),.lit (.int .u8 0),.lit (.int .u8 0),.lit (.int .u8 0),.lit (.int .u8 0),.lit (.int .u8 0),.lit (.int .u8 0),.lit (.int .u8 0),.lit (.int .u8 0),.lit (.int .u8 0),.lit (.int .u8 0),.lit (.int .u8 0),.lit (.int .u8 0),.lit (.int .u8 0),.lit (.int .u8 0),.lit (.int .u8 0),.lit (.int .u8 0),.lit (.int .u8 0),.lit (.int .u8 0),.lit (.int .u8 0)],24⟩ .nil))))) 198 ⟨.scal,[.lit .nilFunc],8⟩ (.node (.node (.node (.node (.node (.node .nil 200 ⟨.scal,[.lit .nilFunc],8⟩ .nil) 201 ⟨.scal,[.lit .nilFunc],8⟩ (.node .nil 203 ⟨.scal,[.lit .nilFunc],8⟩ .nil)) 204 ⟨.scal,[.lit .nilFunc],8⟩ (.node (.node .nil 206 ⟨.scal,[.lit .nilFunc],8⟩ .nil) 207 ⟨.scal,[.lit .nilFunc],8⟩ (.node .nil 208 ⟨.int .i64,[.lit (.int .i64 0)],8⟩ .nil))) 210 ⟨.scal,[.lit .nilFunc],8⟩ (.node (.node (.node .nil 211 ⟨.scal,[.lit (.pointer none)],8⟩ .nil) 212 ⟨.scal,[.lit .nilFunc],8⟩ (.node .nil 213 ⟨.scal,[.lit .nilFunc],8⟩ .nil)) 214 ⟨.int .u64,[.lit (.int .u64 0)],8⟩ (.node (.node .nil 215 ⟨.scal,[.lit .nilFunc],8⟩ .nil) 216 ⟨.scal,[.lit .nilFunc],8⟩ .nil))) 217 ⟨.scal,[.lit .nilFunc],8⟩ (.node (.node (.node (.node .nil 218 ⟨.scal,[.lit (.pointer none)],8⟩ .nil) 219 ⟨.scal,[.lit .nilFunc],8⟩ (.node .nil 220 ⟨.arr 20 183 1,[.lit (.int .u64 0),.lit (.int .u64 0),.lit (.int .u64 0),.lit (.int .u64 0),.lit (.int .u64 0),.lit (.int .u64 0),.lit (.int .u64 0),.lit (.int .u64 0),.lit (.int .u64 0),.lit (.int .u64 0),.lit (.int .u64 0),.lit (.int .u64 0),.lit (.int .u64 0),.lit (.int .u64 0),.lit (.int .u64 0),.lit (.int .u64 0),.lit (.int .u64 0),.lit (.int .u64 0),.lit (.int .u64 0),.lit (.int .u64 0)],160⟩ .nil)) 223 ⟨.scal,[.lit .nilFunc],8⟩ (.node (.node .nil 224 ⟨.scal,[.lit .nilFunc],8⟩ .nil) 225 ⟨.strct [(0,1,9),(1,1,9),(2,1,99)],[.lit (.string ⟨#[]⟩),.lit (.string ⟨#[]⟩),.lit .nilIface],48⟩ (.node .nil 226 ⟨.strct [(0,1,9),(1,1,9),(2,1,99)],[.lit (.string ⟨#[]⟩),.lit (.string ⟨#[]⟩),.lit .nilIface],48⟩ .nil))) 227 ⟨.scal,[.lit .nilFunc],8⟩ (.node (.node (.node .nil 228 ⟨.scal,[.lit (.pointer none)],8⟩ .nil) 229 ⟨.scal,[.lit .nilFunc],8⟩ (.node .nil 231 ⟨.strct [(0,1,5),(1,1,5)],[.lit (.int .u8 0),.lit (.int .u8 0)],2⟩ .nil)) 232 ⟨.strct [(0,1,5),(1,1,5)],[.lit (.int .u8 0),.lit (.int .u8 0)],2⟩ (.node (.node .nil 233 ⟨.arr 16 232 2,[.lit (.int .u8 0),.lit (.int .u8 0),.lit (.int .u8 0),.lit (.int .u8 0),.lit (.int .u8 0),.lit (.int .u8 0),.lit (.int .u8 0),.lit (.int .u8 0),.lit (.int .u8 0),.lit (.int .u8 0),.lit (.int .u8 0),.lit (.int .u8 0),.lit (.int .u8 0),.lit (.int .u8 0),.lit (.int .u8 0),.lit (.int .u8 0),.lit (.int .u8 0),.lit (.int .u8 0),.lit (.int .u8 0),.lit (.int .u8 0),.lit (.int .u8 0),.lit (.int .u8 0),.lit (.int .u8 0),.lit (.int .u8 0),.lit (.int .u8 0),.lit (.int .u8 0),.lit (.int .u8 0),.lit (.int .u8 0),.lit (.int .u8 0),.lit (.int .u8 0),.lit (.int .u8 0),.lit (.int .u8 0)],32⟩ .nil) 234 ⟨.scal,[.lit .nilFunc],8⟩ .nil)))) 235 ⟨.scal,[.lit (.pointer none)],8⟩ (.node (.node (.node (.node (.node .nil 236 ⟨.strct [(0,1,9)],[.lit (.string ⟨#[]⟩)],16⟩ .nil) 237 ⟨.strct [(0,1,9)],[.lit (.string ⟨#[]⟩)],16⟩ (.node .nil 238 ⟨.arr 32 5 1,[.lit (.int .u8 0),.lit (.int .u8 0),.lit (.int .u8 0),.lit (.int .u8 0),.lit (.int .u8 0),.lit (.int .u8 0),.lit (.int .u8 0),.lit (.int .u8 0),.lit (.int .u8 0),.lit (.int .u8 0),.lit (.int .u8 0),.lit (.int .u8 0),.lit (.int .u8 0),.lit (.int .u8 0),.lit (.int .u8 0),.lit (.int .u8 0),.lit (.int .u8 0),.lit (.int .u8 0),.lit (.int .u8 0),.lit (.int .u8 0),.lit (.int .u8 0),.lit (.int .u8 0),.lit (.int .u8 0),.lit (.int .u8 0),.lit (.int .u8 0),.lit (.int .u8 0),.lit (.int .u8 0),.lit (.int .u8 0),.lit (.int .u8 0),.lit (.int .u8 0),.lit (.int .u8 0),.lit (.int .u8 0)],32⟩ .nil)) 239 ⟨.arr 64 5 1,[.lit (.int .u8 0),.lit (.int .u8 0),.lit (.int .u8 0),.lit (.int .u8 0),.lit (.int .u8 0),.lit (.int .u8 0),.lit (.int .u8 0),.lit (.int .u8 0),.lit (.int .u8 0),.lit (.int .u8 0),.lit (.int .u8 0),.lit (.int .u8 0),.lit (.int .u8 0),.lit (.int .u8 0),.lit (.int .u8 0),.lit (.int .u8 0),.lit (.int .u8 0),.lit (.int .u8 0),.lit (.int .u8 0),.lit (.int .u8 0),.lit (.int .u8 0),.lit (.int .u8 0),.lit (.int .u8 0),.lit (.int .u8 0),.lit (.int .u8 0),.lit (.int .u8 0),.lit (.int .u8 0),.lit (.int .u8 0),.lit (.int .u8 0),.lit (.int .u8 0),.lit (.int .u8 0),.lit (.int .u8 0),.lit (.int .u8 0),.lit (.int .u8 0),.lit (.int .u8 0),.lit (.int .u8 0),.lit (.int .u8 0),.lit (.int .u8 0),.lit (.int .u8 0),.lit (.int .u8 0),.lit (.int .u8 0),.lit (.int .u8 0),.lit (.int .u8 0),.lit (.int .u8 0),.lit (.int .u8 0),.lit (.int .u8 0),.lit (.int .u8 0),.lit (.int .u8 0),.lit (.int .u8 0),.lit (.int .u8 0),.lit (.int .u8 0),.lit (.int .u8 0),.lit (.int .u8 0),.lit (.int .u8 0),.lit (.int .u8 0),.lit (.int .u8 0),.lit (.int .u8 0),.lit (.int .u8 0),.lit (.int .u8 0),.lit (.int .u8 0),.lit (.int .u8 0),.lit (.int .u8 0),.lit (.int .u8 0),.lit (.int .u8 0)],64⟩ (.node (.node .nil 240 ⟨.strct [(0,1,17),(1,1,17),(2,1,17),(3,1,9)],[.lit (.pointer none),.lit (.pointer none),.lit (.pointer none),.lit (.string ⟨#[]⟩)],40⟩ .nil) 241 ⟨.strct [(0,1,17),(1,1,17),(2,1,17),(3,1,9)],[.lit (.pointer none),.lit (.pointer none),.lit (.pointer none),.lit (.string ⟨#[]⟩)],40⟩ (.node .nil 242 ⟨.arr 0 16 1,[],0⟩ .nil))) 245 ⟨.scal,[.lit .nilFunc],8⟩ (.node (.node (.node .nil 246 ⟨.int .u8,[.lit (.int .u8 0)],1⟩ .nil) 247 ⟨.int .u8,[.lit (.int .u8 0)],1⟩ (.node .nil 248 ⟨.scal,[.lit .nilFunc],8⟩ .nil)) 249 ⟨.int .i32,[.lit (.int .i32 0)],4⟩ (.node (.node .nil 250 ⟨.int .i32,[.lit (.int .i32 0)],4⟩ .nil) 251 ⟨.strct [(0,1,12),(1,1,12),(2,1,195),(3,1,246),(4,1,5),(5,1,5),(6,1,247),(7,1,248),(8,1,128),(9,1,249),(10,1,250)],[.lit (.int .u64 0),.lit (.int .u64 0),.lit (.int .u32 0),.lit (.int .u8 0),.lit (.int .u8 0),.lit (.int .u8 0),.lit (.int .u8 0),.lit .nilFunc,.lit (.pointer none),.lit (.int .i32 0),.lit (.int .i32 0)],48⟩ .nil))) 252 ⟨.strct [(0,1,12),(1,1,12),(2,1,195),(3,1,246),(4,1,5),(5,1,5),(6,1,247),(7,1,248),(8,1,128),(9,1,249),(10,1,250)],[.lit (.int .u64 0),.lit (.int .u64 0),.lit (.int .u32 0),.lit (.int .u8 0),.lit (.int .u8 0),.lit (.int .u8 0),.lit (.int .u8 0),.lit .nilFunc,.lit (.pointer none),.lit (.int .i32 0),.lit (.int .i32 0)],48⟩ (.node (.node (.node (.node .nil 253 ⟨.scal,[.lit .nilFunc],8⟩ .nil) 254 ⟨.scal,[.lit .nilFunc],8⟩ (.node .nil 255 ⟨.scal,[.lit .nilFunc],8⟩ .nil)) 256 ⟨.map 3 3,[.lit (.map none)],8⟩ (.node (.node .nil 257 ⟨.scal,[.lit .nilFunc],8⟩ .nil) 258 ⟨.scal,[.lit .nilFunc],8⟩ (.node .nil 259 ⟨.scal,[.lit .nilFunc],8⟩ .nil))) 260 ⟨.scal,[.lit .nilFunc],8⟩ (.node (.node (.node .nil 261 ⟨.scal,[.lit .nilFunc],8⟩ .nil) 262 ⟨.scal,[.lit .nilFunc],8⟩ (.node .nil 263 ⟨.scal,[.lit .nilFunc],8⟩ .nil)) 264 ⟨.scal,[.lit .nilFunc],8⟩ (.node (.node .nil 265 ⟨.scal,[.lit .nilFunc],8⟩ .nil) 266 ⟨.scal,[.lit .nilFunc],8⟩ .nil))))))
theorem tabKT_ok:tabKT.all (tiB Tryz.prog)=true:=by kernel_rfl
def howKT:KTree KHow:=.node (.node (.node (.node (.node (.node (.node (.node .nil 2 ⟨0,[]⟩ .nil) 3 ⟨13,[]⟩ (.node .nil 4 ⟨62,[1]⟩ .nil)) 5 ⟨17,[]⟩ (.node (.node .nil 6 ⟨122,[18]⟩ .nil) 7 ⟨183,[14]⟩ (.node .nil 8 ⟨79,[]⟩ .nil))) 9 ⟨101,[]⟩ (.node (.node (.node .nil 10 ⟨29,[]⟩ .nil) 11 ⟨59,[]⟩ (.node .nil 12 ⟨62,[]⟩ .nil)) 13 ⟨65,[]⟩ (.node (.node .nil 14 ⟨56,[]⟩ .nil) 15 ⟨29,[]⟩ .nil))) 16 ⟨56,[]⟩ (.node (.node (.node (.node .nil 17 ⟨25,[]⟩ .nil) 18 ⟨33,[]⟩ (.node .nil 19 ⟨4,[]⟩ .nil)) 20 ⟨72,[]⟩ (.node (.node .nil 21 ⟨7,[]⟩ .nil) 22 ⟨33,[]⟩ .nil)) 23 ⟨7,[]⟩ (.node (.node (.node .nil 24 ⟨19,[]⟩ .nil) 25 ⟨11,[]⟩ (.node .nil 26 ⟨53,[]⟩ .nil)) 27 ⟨33,[]⟩ (.node (.node .nil 28 ⟨10,[]⟩ .nil) 29 ⟨24,[]⟩ .nil)))) 30 ⟨68,[]⟩ (.node (.node (.node (.node (.node .nil 31 ⟨3,[]⟩ .nil) 32 ⟨37,[6]⟩ (.node .nil 33 ⟨51,[]⟩ .nil)) 34 ⟨38,[]⟩ (.node (.node .nil 35 ⟨4,[]⟩ .nil) 36 ⟨37,[]⟩ .nil)) 37 ⟨16,[]⟩ (.node (.node (.node .nil 38 ⟨39,[]⟩ .nil) 39 ⟨24,[]⟩ (.node .nil 40 ⟨4,[]⟩ .nil)) 41 ⟨19,[]⟩ (.node (.node .nil 42 ⟨38,[]⟩ .nil) 43 ⟨3,[]⟩ .nil))) 44 ⟨20,[]⟩ (.node (.node (.node (.node .nil 45 ⟨25,[]⟩ .nil) 46 ⟨38,[]⟩ (.node .nil 47 ⟨4,[]⟩ .nil)) 48 ⟨5,[]⟩ (.node (.node .nil 49 ⟨5,[]⟩ .nil) 50 ⟨25,[]⟩ .nil)) 51 ⟨51,[]⟩ (.node (.node (.node .nil 52 ⟨26,[]⟩ .nil) 53 ⟨16,[]⟩ (.node .nil 54 ⟨23,[]⟩ .nil)) 55 ⟨70,[]⟩ (.node (.node .nil 56 ⟨10,[]⟩ .nil) 57 ⟨18,[]⟩ .nil))))) 58 ⟨6,[]⟩ (.node (.node (.node (.node (.node (.node .nil 59 ⟨14,[]⟩ .nil) 60 ⟨3,[]⟩ (.node .nil 61 ⟨7,[]⟩ .nil)) 62 ⟨26,[]⟩ (.node (.node .nil 63 ⟨89,[]⟩ .nil) 64 ⟨3,[]⟩ (.node .nil 65 ⟨10,[]⟩ .nil))) 66 ⟨17,[]⟩ (.node (.node (.node .nil 67 ⟨4,[]⟩ .nil) 68 ⟨20,[]⟩ (.node .nil 69 ⟨50,[]⟩ .nil)) 70 ⟨129,[]⟩ (.node (.node .nil 71 ⟨17,[]⟩ .nil) 72 ⟨17,[]⟩ .nil))) 73 ⟨97,[]⟩ (.node (.node (.node (.node .nil 74 ⟨43,[]⟩ .nil) 75 ⟨50,[]⟩ (.node .nil 76 ⟨49,[6]⟩ .nil)) 77 ⟨5,[]⟩ (.node (.node .nil 79 ⟨3,[]⟩ .nil) 80 ⟨67,[]⟩ .nil)) 81 ⟨13,[]⟩ (.node (.node (.node .nil 82 ⟨5,[]⟩ .nil) 83 ⟨38,[]⟩ (.node .nil 84 ⟨22,[]⟩ .nil)) 85 ⟨29,[]⟩ (.node (.node .nil 86 ⟨64,[]⟩ .nil) 87 ⟨4,[]⟩ .nil)))) 88 ⟨5,[]⟩ (.node (.node (.node (.node (.node .nil 89 ⟨3,[]⟩ .nil) 90 ⟨3,[]⟩ (.node .nil 91 ⟨3,[]⟩ .nil)) 92 ⟨4,[]⟩ (.node (.node .nil 93 ⟨5,[]⟩ .nil) 94 ⟨5,[]⟩ .nil)) 95 ⟨5,[]⟩ (.node (.node (.node .nil 96 ⟨15,[]⟩ .nil) 97 ⟨20,[]⟩ (.node .nil 98 ⟨45,[6,11]⟩ .nil)) 99 ⟨18,[]⟩ (.node (.node .nil 100 ⟨43,[]⟩ .nil) 101 ⟨46,[]⟩ .nil))) 102 ⟨12,[]⟩ (.node (.node (.node (.node .nil 103 ⟨5,[]⟩ .nil) 105 ⟨3,[]⟩ (.node .nil 106 ⟨22,[]⟩ .nil)) 107 ⟨140,[]⟩ (.node (.node .nil 108 ⟨42,[]⟩ .nil) 109 ⟨44,[]⟩ .nil)) 110 ⟨13,[]⟩ (.node (.node (.node .nil 111 ⟨24,[]⟩ .nil) 112 ⟨32,[]⟩ (.node .nil 113 ⟨5,[]⟩ .nil)) 114 ⟨126,[]⟩ (.node (.node .nil 115 ⟨3,[]⟩ .nil) 116 ⟨3,[]⟩ .nil)))))) 117 ⟨37,[]⟩ (.node (.node (.node (.node (.node (.node (.node .nil 118 ⟨35,[]⟩ .nil) 119 ⟨5,[]⟩ (.node .nil 120 ⟨5,[]⟩ .nil)) 122 ⟨3,[]⟩ (.node (.node .nil 123 ⟨78,[]⟩ .nil) 124 ⟨44,[]⟩ (.node .nil 125 ⟨25,[]⟩ .nil))) 126 ⟨5,[]⟩ (.node (.node (.node .nil 127 ⟨3,[]⟩ .nil) 128 ⟨40,[]⟩ (.node .nil 129 ⟨33,[]⟩ .nil)) 130 ⟨67,[]⟩ (.node (.node .nil 131 ⟨35,[]⟩ .nil) 132 ⟨5,[]⟩ .nil))) 133 ⟨35,[6]⟩ (.node (.node (.node (.node .nil 134 ⟨34,[10]⟩ .nil) 135 ⟨46,[10]⟩ (.node .nil 136 ⟨61,[]⟩ .nil)) 137 ⟨16,[3]⟩ (.node (.node .nil 138 ⟨125,[11,17,23]⟩ .nil) 139 ⟨71,[1,8]⟩ .nil)) 140 ⟨145,[1,8,10,18,21]⟩ (.node (.node (.node .nil 141 ⟨9,[]⟩ .nil) 142 ⟨15,[]⟩ (.node .nil 143 ⟨5,[]⟩ .nil)) 144 ⟨4,[]⟩ (.node (.node .nil 145 ⟨162,[7,8,9,10,17,18,23]⟩ .nil) 146 ⟨95,[]⟩ .nil)))) 149 ⟨31,[]⟩ (.node (.node (.node (.node (.node .nil 150 ⟨7,[]⟩ .nil) 151 ⟨11,[]⟩ (.node .nil 153 ⟨15,[]⟩ .nil)) 154 ⟨70,[]⟩ (.node (.node .nil 155 ⟨5,[1]⟩ .nil) 156 ⟨5,[1]⟩ .nil)) 157 ⟨7,[]⟩ (.node (.node (.node .nil 158 ⟨7,[]⟩ .nil) 159 ⟨59,[6]⟩ (.node .nil 160 ⟨3,[]⟩ .nil)) 161 ⟨3,[]⟩ (.node (.node .nil 162 ⟨9,[]⟩ .nil) 163 ⟨13,[]⟩ .nil))) 164 ⟨3,[]⟩ (.node (.node (.node (.node .nil 165 ⟨4,[]⟩ .nil) 166 ⟨3,[]⟩ (.node .nil 167 ⟨3,[]⟩ .nil)) 168 ⟨99,[]⟩ (.node (.node .nil 169 ⟨170,[]⟩ .nil) 170 ⟨7,[]⟩ .nil)) 171 ⟨3,[]⟩ (.node (.node (.node .nil 172 ⟨23,[]⟩ .nil) 173 ⟨5,[]⟩ (.node .nil 174 ⟨5,[]⟩ .nil)) 175 ⟨3,[]⟩ (.node (.node .nil 176 ⟨92,[]⟩ .nil) 192 ⟨5,[]⟩ .nil))))) 194 ⟨5,[]⟩ (.node (.node (.node (.node (.node (.node .nil 195 ⟨26,[]⟩ .nil) 196 ⟨5,[]⟩ (.node .nil 197 ⟨5,[]⟩ .nil)) 198 ⟨5,[]⟩ (.node (.node .nil 199 ⟨5,[]⟩ .nil) 200 ⟨12,[]⟩ (.node .nil 201 ⟨7,[]⟩ .nil))) 202 ⟨3,[]⟩ (.node (.node (.node .nil 203 ⟨3,[]⟩ .nil) 204 ⟨3,[]⟩ (.node .nil 205 ⟨3,[]⟩ .nil)) 206 ⟨11,[]⟩ (.node (.node .nil 207 ⟨3,[]⟩ .nil) 208 ⟨6,[]⟩ .nil))) 209 ⟨13,[]⟩ (.node (.node (.node (.node .nil 210 ⟨5,[]⟩ .nil) 211 ⟨3,[]⟩ (.node .nil 212 ⟨7,[]⟩ .nil)) 213 ⟨5,[]⟩ (.node (.node .nil 214 ⟨5,[]⟩ .nil) 215 ⟨7,[]⟩ .nil)) 216 ⟨5,[]⟩ (.node (.node (.node .nil 217 ⟨3,[]⟩ .nil) 218 ⟨10,[]⟩ (.node .nil 219 ⟨5,[]⟩ .nil)) 220 ⟨3,[]⟩ (.node (.node .nil 221 ⟨5,[]⟩ .nil) 222 ⟨4,[]⟩ .nil)))) 223 ⟨5,[]⟩ (.node (.node (.node (.node (.node .nil 224 ⟨7,[]⟩ .nil) 225 ⟨5,[]⟩ (.node .nil 226 ⟨3,[]⟩ .nil)) 227 ⟨18,[]⟩ (.node (.node .nil 228 ⟨4,[]⟩ .nil) 229 ⟨5,[]⟩ .nil)) 230 ⟨3,[]⟩ (.node (.node (.node .nil 231 ⟨5,[]⟩ .nil) 232 ⟨3,[]⟩ (.node .nil 233 ⟨16,[]⟩ .nil)) 234 ⟨29,[]⟩ (.node (.node .nil 235 ⟨4,[]⟩ .nil) 236 ⟨3,[]⟩ .nil))) 237 ⟨114,[]⟩ (.node (.node (.node (.node .nil 238 ⟨31,[6]⟩ .nil) 239 ⟨31,[10]⟩ (.node .nil 240 ⟨44,[10]⟩ .nil)) 241 ⟨55,[]⟩ (.node (.node .nil 242 ⟨14,[3]⟩ .nil) 243 ⟨117,[11,17,23]⟩ .nil)) 244 ⟨5,[]⟩ (.node (.node (.node .nil 246 ⟨135,[1,8,10,18,21]⟩ .nil) 247 ⟨53,[3,6]⟩ (.node .nil 248 ⟨7,[]⟩ .nil)) 249 ⟨11,[]⟩ (.node (.node .nil 250 ⟨19,[]⟩ .nil) 264 ⟨0,[]⟩ .nil))))))
theorem howKT_ok:howKT.all (fnX Tryz.prog)=true:=by kernel_rfl
def methKL : List MeRow := [⟨141, "examboard/blueprint.broken", 196, some (4, 0, 3)⟩, ⟨141, "examboard/blueprint.check", 201, none⟩, ⟨141, "examboard/blueprint.exceeded", 197, some (4, 0, 3)⟩, ⟨141, "examboard/blueprint.line", 202, none⟩, ⟨141, "examboard/blueprint.rows", 198, some (4, 0, 3)⟩, ⟨143, "examboard/blueprint.broken", 196, some (3, 0, 3)⟩, ⟨143, "examboard/blueprint.check", 195, some (3, 0, 2)⟩, ⟨143, "examboard/blueprint.exceeded", 197, some (3, 0, 3)⟩, ⟨143, "examboard/blueprint.line", 203, none⟩, ⟨143, "examboard/blueprint.rows", 198, some (3, 0, 3)⟩, ⟨144, "examboard/blueprint.broken", 196, some (3, 0, 3)⟩, ⟨144, "examboard/blueprint.check", 195, some (3, 0, 2)⟩, ⟨144, "examboard/blueprint.exceeded", 197, some (3, 0, 3)⟩, ⟨144, "examboard/blueprint.line", 204, none⟩, ⟨144, "examboard/blueprint.rows", 198, some (3, 0, 3)⟩, ⟨145, "examboard/blueprint.broken", 196, some (3, 0, 3)⟩, ⟨145, "examboard/blueprint.check", 195, some (3, 0, 2)⟩, ⟨145, "examboard/blueprint.exceeded", 197, some (3, 0, 3)⟩, ⟨145, "examboard/blueprint.line", 205, none⟩, ⟨145, "examboard/blueprint.rows", 198, some (3, 0, 3)⟩, ⟨147, "examboard/blueprint.broken", 196, some (4, 0, 3)⟩, ⟨147, "examboard/blueprint.check", 206, none⟩, ⟨147, "examboard/blueprint.exceeded", 197, some (4, 0, 3)⟩, ⟨147, "examboard/blueprint.line", 207, none⟩, ⟨147, "examboard/blueprint.rows", 198, some (4, 0, 3)⟩, ⟨149, "examboard/blueprint.broken", 208, none⟩, ⟨149, "examboard/blueprint.check", 209, none⟩, ⟨149, "examboard/blueprint.exceeded", 210, none⟩, ⟨149, "examboard/blueprint.line", 211, none⟩, ⟨149, "examboard/blueprint.rows", 212, none⟩, ⟨151, "examboard/blueprint.broken", 214, none⟩, ⟨151, "examboard/blueprint.check", 215, none⟩, ⟨151, "examboard/blueprint.exceeded", 216, none⟩, ⟨151, "examboard/blueprint.line", 217, none⟩, ⟨151, "examboard/blueprint.rows", 218, none⟩, ⟨152, "examboard/blueprint.broken", 223, none⟩, ⟨152, "examboard/blueprint.check", 224, none⟩, ⟨152, "examboard/blueprint.exceeded", 225, none⟩, ⟨152, "examboard/blueprint.line", 226, none⟩, ⟨152, "examboard/blueprint.rows", 227, none⟩, ⟨154, "examboard/blueprint.broken", 229, none⟩, ⟨154, "examboard/blueprint.check", 230, none⟩, ⟨154, "examboard/blueprint.exceeded", 231, none⟩, ⟨154, "examboard/blueprint.line", 232, none⟩, ⟨154, "examboard/blueprint.rows", 233, none⟩]
theorem methKL_ok:∀p∈methKL,MeE Tryz.prog p:=List.forall_mem_cons.2 ⟨meP4 (fun _ _ _ _ _=>by kernel_rfl),List.forall_mem_cons.2 ⟨meW (fun _ _ _=>by kernel_rfl),List.forall_mem_cons.2 ⟨meP4 (fun _ _ _ _ _=>by kernel_rfl),List.forall_mem_cons.2 ⟨meW (fun _ _ _=>by kernel_rfl),List.forall_mem_cons.2 ⟨meP4 (fun _ _ _ _ _=>by kernel_rfl),List.forall_mem_cons.2 ⟨meP3 (fun _ _ _ _=>by kernel_rfl),List.forall_mem_cons.2 ⟨meP3 (fun _ _ _ _=>by kernel_rfl),List.forall_mem_cons.2 ⟨meP3 (fun _ _ _ _=>by kernel_rfl),List.forall_mem_cons.2 ⟨meW (fun _ _ _=>by kernel_rfl),List.forall_mem_cons.2 ⟨meP3 (fun _ _ _ _=>by kernel_rfl),List.forall_mem_cons.2 ⟨meP3 (fun _ _ _ _=>by kernel_rfl),List.forall_mem_cons.2 ⟨meP3 (fun _ _ _ _=>by kernel_rfl),List.forall_mem_cons.2 ⟨meP3 (fun _ _ _ _=>by kernel_rfl),List.forall_mem_cons.2 ⟨meW (fun _ _ _=>by kernel_rfl),List.forall_mem_cons.2 ⟨meP3 (fun _ _ _ _=>by kernel_rfl),List.forall_mem_cons.2 ⟨meP3 (fun _ _ _ _=>by kernel_rfl),List.forall_mem_cons.2 ⟨meP3 (fun _ _ _ _=>by kernel_rfl),List.forall_mem_cons.2 ⟨meP3 (fun _ _ _ _=>by kernel_rfl),List.forall_mem_cons.2 ⟨meW (fun _ _ _=>by kernel_rfl),List.forall_mem_cons.2 ⟨meP3 (fun _ _ _ _=>by kernel_rfl),List.forall_mem_cons.2 ⟨meP4 (fun _ _ _ _ _=>by kernel_rfl),List.forall_mem_cons.2 ⟨meW (fun _ _ _=>by kernel_rfl),List.forall_mem_cons.2 ⟨meP4 (fun _ _ _ _ _=>by kernel_rfl),List.forall_mem_cons.2 ⟨meW (fun _ _ _=>by kernel_rfl),List.forall_mem_cons.2 ⟨meP4 (fun _ _ _ _ _=>by kernel_rfl),List.forall_mem_cons.2 ⟨meW (fun _ _ _=>by kernel_rfl),List.forall_mem_cons.2 ⟨meW (fun _ _ _=>by kernel_rfl),List.forall_mem_cons.2 ⟨meW (fun _ _ _=>by kernel_rfl),List.forall_mem_cons.2 ⟨meW (fun _ _ _=>by kernel_rfl),List.forall_mem_cons.2 ⟨meW (fun _ _ _=>by kernel_rfl),List.forall_mem_cons.2 ⟨meW (fun _ _ _=>by kernel_rfl),List.forall_mem_cons.2 ⟨meW (fun _ _ _=>by kernel_rfl),List.forall_mem_cons.2 ⟨meW (fun _ _ _=>by kernel_rfl),List.forall_mem_cons.2 ⟨meW (fun _ _ _=>by kernel_rfl),List.forall_mem_cons.2 ⟨meW (fun _ _ _=>by kernel_rfl),List.forall_mem_cons.2 ⟨meW (fun _ _ _=>by kernel_rfl),List.forall_mem_cons.2 ⟨meW (fun _ _ _=>by kernel_rfl),List.forall_mem_cons.2 ⟨meW (fun _ _ _=>by kernel_rfl),List.forall_mem_cons.2 ⟨meW (fun _ _ _=>by kernel_rfl),List.forall_mem_cons.2 ⟨meW (fun _ _ _=>by kernel_rfl),List.forall_mem_cons.2 ⟨meW (fun _ _ _=>by kernel_rfl),List.forall_mem_cons.2 ⟨meW (fun _ _ _=>by kernel_rfl),List.forall_mem_cons.2 ⟨meW (fun _ _ _=>by kernel_rfl),List.forall_mem_cons.2 ⟨meW (fun _ _ _=>by kernel_rfl),List.forall_mem_cons.2 ⟨meW (fun _ _ _=>by kernel_rfl),fun _ h=>absurd h List.not_mem_nil⟩⟩⟩⟩⟩⟩⟩⟩⟩⟩⟩⟩⟩⟩⟩⟩⟩⟩⟩⟩⟩⟩⟩⟩⟩⟩⟩⟩⟩⟩⟩⟩⟩⟩⟩⟩⟩⟩⟩⟩⟩⟩⟩⟩⟩
def ifKL:List Nat:=[20,74,75,98,99]
theorem ifKL_ok:ifKL.all (ifTyB Tryz.prog)=true:=by kernel_rfl
def stKL:List Nat:=[7,8,46,47,63,64,135,136,150,151,152,231,232,236,237]
theorem stKL_ok:stKL.all (eqTyB Tryz.prog)=true:=by kernel_rfl
end Go.Proofs.YtmegoiaijfeilaaGreatDoor
set_option linter.unusedSimpArgs false
set_option linter.unusedVariables false
namespace Go.Proofs.YtmegoiaijfeilaaGreatDoor
open Go.RowKit Lim
noncomputable section
noncomputable def ctxK:Ctx:=⟨Tryz.prog,tabKT.get,Env,EBl,true,fun _ _ h=>tiB_sound (KTree.all_get tabKT_ok h),ctx.hE,ctx.hEB,ctx.hG,ctx.hm⟩
def meQ (t:TypeId) (name:String) (a:AV):Option (FuncId × AV):=(meth methKL t name).bind fun p=>(p.2 a).map fun a'=>(p.1,a')
abbrev PrimK:=List AV→Option AV
def primKL:List (Nat × PrimK):=[(61,kCut),(82,kSplit),(79,kItoa),(80,kJoin)]
theorem primKL_ok:∀p∈primKL,∀args r,p.2 args=some r→AT p.1 args r :=
 List.forall_mem_cons.2 ⟨fun _ _=>kCut_ok,List.forall_mem_cons.2 ⟨fun _ _=>kSplit_ok,List.forall_mem_cons.2 ⟨fun _ _=>kItoa_ok,List.forall_mem_cons.2 ⟨fun _ _=>kJoin_ok,fun _ h=>absurd h List.not_mem_nil⟩⟩⟩⟩
def lkP:List (Nat × PrimK)→Nat→Option PrimK
 | [],_=>none
 | p :: l,x=>bif Nat.beq x p.1 then some p.2 else lkP l x
theorem lkP_mem:∀{l:List (Nat × PrimK)} {x:Nat} {p:PrimK},lkP l x=some p→(x,p)∈l
 | [],_,_,h=>by cases h
 | (k,q) :: l,x,p,h=>by
  unfold lkP at h
  cases hb:Nat.beq x k with
  | true=>rw [hb]at h;cases h;rw [kbeq hb];exact List.mem_cons_self
  | false=>rw [hb]at h;exact List.mem_cons_of_mem _ (lkP_mem h)
noncomputable def kw (F:Nat):KW:=⟨tabKT.get,Tryz.prog.funcs,howKT.get,meQ,eqTab tabKT.get ifKL stKL,lkP primKL,F⟩
theorem kw_ok {F:Nat}:KWOK ctxK (kw F) :=
 ⟨rfl,rfl,fun t name a f a' h=>by
  obtain ⟨p,h1,h2⟩:=kbind h
  obtain ⟨b,h3,h4⟩:=Option.map_eq_some_iff.1 h2
  cases h4
  exact meth_some methKL_ok h1 a _ h3,
 fun _ _ _ _ _ _ _ h=>eqTab_ok (C:=ctxK) ifKL_ok stKL_ok h,
 fun f h fn c h1 h2 h3=>fnX_of (KTree.all_get howKT_ok h1) h2 h3,
 fun f p args r h1 h2=>primKL_ok _ (lkP_mem h1) args r h2⟩
noncomputable abbrev KR (n:Nat):FuncId→List AV→Option AV:=kask (kw 1000000) n
theorem KR_calls {n:Nat} {f:FuncId} {args:List AV} {r:AV} (h:KR n f args=some r):AT f args r:=kask_sound (C:=ctxK) kw_ok n f args r h
end
end Go.Proofs.YtmegoiaijfeilaaGreatDoor
set_option linter.unusedSimpArgs false
set_option linter.unusedVariables false
namespace Go.Proofs.YtmegoiaijfeilaaGreatDoor
open Go.RowKit Lim
noncomputable section
def kstr1:AV→Option (List UInt8)
 | .lit (.string s)=>some s.data.toList
 | _=>none
theorem kstr1_some:∀{a:AV} {l:List UInt8},kstr1 a=some l→a=str l
 | .lit (.string s),l,h=>by cases h;rw [str,bs_data]
def kzero:AV→Bool
 | .lit (.int .i64 z)=>z == 0
 | _=>false
theorem kzero_of {a:AV} (h:kzero a=true):a=i64 0:=by
 unfold kzero at h
 split at h
 ·rw [eq_of_beq h]
 ·cases h
def kLines (n:Nat):List AV→Option (List (List UInt8))
 | []=>some []
 | .ifc ty a :: ds => (meQ ty "examboard/blueprint.line" a).bind fun p => (KR n p.1 [p.2]).bind fun r => (kstr1 r).bind fun l => (kLines n ds).map fun ls => l :: ls
 | _=>none
theorem kLines_ok {n : Nat} : ∀ {ds : List AV} {ls : List (List UInt8)}, kLines n ds = some ls → ls.length = ds.length ∧ (∀ d ∈ ds, d.one = true) ∧ ∀ i (hi : i < ds.length), ∃ ty a a' f l, ds[i]'hi = .ifc ty a ∧ ls[i]? = some l ∧ Meth Tryz.prog ty "examboard/blueprint.line" a f a' ∧ AT f [a'] (str l) := by
 intro ds
 induction ds with
 | nil=>intro ls h;cases h;exact ⟨rfl,fun d hd=>absurd hd List.not_mem_nil,fun i hi=>absurd hi (Nat.not_lt_zero _)⟩
 | cons d ds ih =>
  intro ls h
  unfold kLines at h
  split at h
  ·rename_i e1;cases e1
  ·rename_i ty a ds' e1
   cases e1
   obtain ⟨p,h1,h⟩:=kbind h
   obtain ⟨r,h2,h⟩:=kbind h
   obtain ⟨l,h3,h⟩:=kbind h
   obtain ⟨ls',h4,rfl⟩:=Option.map_eq_some_iff.1 h
   obtain ⟨q1,q2,q3⟩:=ih h4
   have hat:=KR_calls h2
   rw [kstr1_some h3]at hat
   refine ⟨by rw [List.length_cons,List.length_cons,q1],fun d hd=>?_,fun i hi=>?_⟩
   ·rcases List.mem_cons.1 hd with rfl|hd
    ·rfl
    ·exact q2 d hd
   ·match i with
    | 0=>exact ⟨ty,a,p.2,p.1,l,rfl,rfl,(kw_ok (F:=0)).me ty _ a p.1 p.2 h1,hat⟩
    | i+1 =>
     obtain ⟨ty,a,a',f,l,g⟩:=q3 i (Nat.lt_of_succ_lt_succ hi)
     exact ⟨ty,a,a',f,l,g⟩
  ·cases h
def kPrint (n:Nat):List AV→Option AV
 | [.agg [.lit (.int .i64 L),.sl k rs]] =>
  (KR n 42 [.agg [.lit (.int .i64 L),.sl k rs]]).bind fun v =>
   bif kzero v then
    (KR n 59 [str [108,101,110,103,116,104],.sl 1 [i64 L]]).bind fun t=>(kstr1 t).bind fun t0 =>
     (KR n 45 [.agg [.lit (.int .i64 L),.sl k rs]]).bind fun d=>match d with
      | .sl 1 ds=>(kLines n ds).bind fun ls=>bif Nat.ble ds.length 1048576 && Nat.ble (wrt t0 ls).length 140737488355328 then some (.tup [str (wrt t0 ls),i64 0]) else none
      | _=>none
   else none
 | _=>none
theorem kPrint_ok {n:Nat} {args:List AV} {r:AV} (h:kPrint n args=some r):AT 29 args r:=by
 unfold kPrint at h
 split at h
 ·rename_i L k rs
  obtain ⟨v,h1,h⟩:=kbind h
  obtain ⟨h2,h⟩:=kif h
  obtain ⟨t,h3,h⟩:=kbind h
  obtain ⟨t0,h4,h⟩:=kbind h
  obtain ⟨d,h5,h⟩:=kbind h
  split at h
  ·rename_i ds
   obtain ⟨ls,h6,h⟩:=kbind h
   obtain ⟨h7,h⟩:=kif h
   obtain ⟨h7,h8⟩:=kand h7
   cases h
   have c1:=KR_calls h1
   have c2:=KR_calls h3
   rw [kzero_of h2]at c1
   rw [kstr1_some h4]at c2
   obtain ⟨q1,q2,q3⟩:=kLines_ok h6
   exact print_c c1 c2 (KR_calls h5) q2 q3 q1 (Nat.le_of_ble_eq_true h7) (Nat.le_of_ble_eq_true h8)
  ·cases h
 ·cases h
end
end Go.Proofs.YtmegoiaijfeilaaGreatDoor
set_option linter.unusedSimpArgs false
set_option linter.unusedVariables false
namespace Go.Proofs.YtmegoiaijfeilaaGreatDoor
open Go.RowKit Lim
noncomputable section
def eqL:Value→Value→Bool
 | .int .i64 m,.int .i64 n=>m == n
 | .bool a,.bool b=>a == b
 | .string s,.string t=>s.data.toList == t.data.toList
 | _,_=>false
theorem eqL_of {a b:Value} (h:eqL a b=true):a=b:=by
 unfold eqL at h
 split at h
 ·rw [eq_of_beq h]
 ·rw [eq_of_beq h]
 ·rename_i s t
  have e:=eq_of_beq h
  rw [←bs_data s,←bs_data t,e]
 ·cases h
def eqAs (e:AV→AV→Bool):List AV→List AV→Bool
 | [],[]=>true
 | a :: l,b :: m=>e a b && eqAs e l m
 | _,_=>false
theorem eqAs_of {e:AV→AV→Bool} (he:∀a b,e a b=true→a=b):∀l m,eqAs e l m=true→l=m
 | [],[],_=>rfl
 | [],_ :: _,h=>by cases h
 | _ :: _,[],h=>by cases h
 | a :: l,b :: m,h=>by
  obtain ⟨h1,h2⟩:=kand h
  rw [he a b h1,eqAs_of he l m h2]
def eqA:Nat→AV→AV→Bool
 | n+1,.lit a,.lit b=>eqL a b
 | n+1,.sl k es,.sl k' fs=>k == k' && eqAs (eqA n) es fs
 | n+1,.agg es,.agg fs=>eqAs (eqA n) es fs
 | n+1,.tup es,.tup fs=>eqAs (eqA n) es fs
 | _,_,_=>false
theorem eqA_of:∀n a b,eqA n a b=true→a=b:=by
 intro n
 induction n with
 | zero=>intro a b h;cases a <;> cases h
 | succ n ih =>
  intro a b h
  cases a <;> cases b <;> first
   | exact absurd h Bool.false_ne_true
   | exact congrArg AV.lit (eqL_of h)
   | exact congrArg AV.agg (eqAs_of ih _ _ h)
   | exact congrArg AV.tup (eqAs_of ih _ _ h)
   | skip
  obtain ⟨h1,h2⟩:=kand h
  rw [eq_of_beq h1,eqAs_of ih _ _ h2]
def kMemo (as':List AV) (x:AV) (args:List AV):Option AV:=bif eqAs (eqA 9) args as' then some x else none
theorem kMemo_ok {f:FuncId} {as':List AV} {x:AV} (h:AT f as' x) {args:List AV} {r:AV} (hm:kMemo as' x args=some r):AT f args r:=by
 obtain ⟨h1,h2⟩:=kif hm
 cases h2
 rw [eqAs_of (eqA_of 9) _ _ h1]
 exact h
noncomputable def kwp (ps:List (Nat × PrimK)) (F:Nat):KW:={ kw F with pr:=lkP ps }
theorem kwp_ok {ps:List (Nat × PrimK)} (hp:∀p∈ps,∀args r,p.2 args=some r→AT p.1 args r) {F:Nat}:KWOK ctxK (kwp ps F):=by
 have h:=kw_ok (F:=F)
 exact ⟨h.1,h.2,h.3,h.4,h.5,fun f p args r h1 h2=>hp _ (lkP_mem h1) args r h2⟩
noncomputable abbrev KRp (ps:List (Nat × PrimK)) (n:Nat):FuncId→List AV→Option AV:=kask (kwp ps 1000000) n
theorem KRp_calls {ps:List (Nat × PrimK)} (hp:∀p∈ps,∀args r,p.2 args=some r→AT p.1 args r) {n:Nat} {f:FuncId} {args:List AV} {r:AV} (h:KRp ps n f args=some r):AT f args r:=kask_sound (C:=ctxK) (kwp_ok hp) n f args r h
def sampleK (n:Int):AV:=.agg [.lit (.int .i64 n),.lit (.string ⟨#[77,65,84,72,46,65,76,71]⟩),.lit (.int .i64 0),.lit (.int .i64 0),.lit (.int .i64 6),.lit (.int .i64 10),.lit (.int .i64 1),.lit (.int .i64 0),.sl 1 [.sl 1 [.lit (.int .i64 500),.lit (.int .i64 500)]]]
def probA:List AV:=[.agg [.lit (.int .i64 1),.sl 5 [.agg [.lit (.int .i64 8),.lit (.int .i64 5),.lit (.int .i64 0),.lit (.int .i64 0),.lit (.string ⟨#[]⟩)]]],.sl 9 [sampleK 2,sampleK 5],.sl 2 [],.sl 1 [.lit (.int .i64 7),.lit (.int .i64 9)]]
def probR:AV:=.tup [.agg [.sl 1 [.lit (.int .i64 7),.lit (.int .i64 9)],.sl 3 [.agg [.sl 1 [.lit (.int .i64 1),.lit (.int .i64 1)],.lit (.int .i64 1),.lit (.int .i64 1)]],.sl 1 [.lit (.int .i64 (-1)),.lit (.int .i64 0)]],.lit (.int .i64 0)]
end
end Go.Proofs.YtmegoiaijfeilaaGreatDoor
