import Derived.Test.YtmekiphpjpblpaaGreatC4
import Derived.Test.YtmekiphpjpblpaaGreatC5
import Derived.StillTailTactics
import Derived.MakeChecks
import Derived.Deep.DeepWitnessRowRef
import Derived.Deep.AppendLies
import Derived.Deep.RegionHeld3
/- Texts merged: Sv Sw Sx Sx1 Sy SyW SKa SLa WzB SLb SLc YOrderR SLd SLe YStabR SLf SLg YCompR SMa SMb SMc SMd SMe YNeverR. -/
set_option linter.unusedSimpArgs false
set_option linter.unusedVariables false
set_option maxHeartbeats 40000000
set_option maxRecDepth 100000
namespace Go.Proofs.YtmekiphpjpblpaaGreat
open Go.RowKit Lim
theorem fixG_cons (pool:List PI) (id:Int) (g f:List Int):fixG pool (id :: g) f=if at0 f (posI pool id).toNat=0 then none else fixG pool g (f.set (posI pool id).toNat 1):=rfl
theorem pick_take {pool:List PI}:∀{x:List Int} {k:Nat} (hk:k<pool.length) (hx:k<x.length),pickI (pool.take (k+1)) x=pickI (pool.take k) x ++ if x[k]=1 then [pool[k].1] else []:=by
 induction pool with
 | nil=>intro x k hk;exact absurd hk (Nat.not_lt_zero k)
 | cons y pool ih =>
  intro x k hk hx
  cases x with
  | nil=>exact absurd hx (Nat.not_lt_zero k)
  | cons a x =>
   cases k with
   | zero =>
    simp only [List.take_succ_cons,List.take_zero,pickI,List.getElem_cons_zero]
    split <;> rfl
   | succ k =>
    have h:=@ih x k (by simpa using hk) (by simpa using hx)
    simp only [List.take_succ_cons,pickI,List.getElem_cons_succ]
    rw [h]
    split <;> rfl
theorem pick_len (pool:List PI):∀x:List Int,(pickI pool x).length≤pool.length:=by
 induction pool with
 | nil=>intro x;cases x <;> simp [pickI]
 | cons y pool ih =>
  intro x
  cases x with
  | nil=>simp [pickI]
  | cons a x =>
   have:=ih x
   simp only [pickI]
   split <;> simp <;> omega
theorem Ex1.call {g:Nat} {W W' W2:World} (he:Ex1 g W W') (hb:Below W'.heap.size W' W2):Ex1 g W W2:=he.upTo (hb.mono he.size)
theorem Ex1.below {g:Nat} {W0 W W':World} (h0:Below W0.heap.size W0 W) (he:Ex1 g W W') (hg:W0.heap.size≤g):Below W0.heap.size W0 W' :=
 ⟨he.os.trans h0.os,he.tape.trans h0.tape,he.output.trans h0.output,Nat.le_trans h0.size he.size,fun q hq=>(he.block q (Nat.lt_of_lt_of_le hq h0.size) (by omega)).trans (h0.block q hq)⟩
theorem SlI.of_ints {w:World} {G m:Nat} {f:List Int} (h:w.heap[G]? = some (.cells (ints f) 3 (0,0))) (hf:f.length=m):SlI w (fun b=>b<w.heap.size) (.slice (some ⟨G,0,none⟩) m m) f:=by
 subst hf
 refine ⟨_,_,rfl,Nat.le_refl _,fun i hi=>⟨G,0,rfl,blk_lt h,?_⟩⟩
 rw [Lib.cell_of_heap h]
 simp [ints,hi]
theorem ssolve_w {w w0:World} (hE:Env w0) {Z:Zone} (hz:∀b o,Z b o→b<w0.heap.size) (hw:Below w0.heap.size w0 w) {pool:List PI} (hl:pool.length≤1048576) {pv gv:Value} (hp:Rep w0 Z (.sl 9 (pool.map itA)) pv) {given:List Int} (hg:Rep w0 Z (.sl 1 (given.map fun z=>i64 z)) gv) (hgl:given.length≤1048576)
  {A1 A2:Option Addr} {n1 c1 n2 c2 G m:Nat} {v f:List Int} {R:List RowP} (hGw:w0.heap.size≤G) (hGh:w.heap[G]? = some (.cells (ints f) 3 (0,0))) (hx:SlI w (fun b=>b≠G∧b<w.heap.size) (.slice A1 n1 c1) v) (hy:SlR w (fun b=>b≠G∧b<w.heap.size) (.slice A2 n2 c2) R)
  (hk:∀f':List Int,f'.length=m→Tri f'→VOK v R f' m) (hfl:f.length=m) (hft:Tri f) (n20:m<20) (hpos:∀id∈given,0≤posI pool id) (hpm:pool.length≤m) :
  Calls Tryz.prog 28 #[.agg #[.slice A1 n1 c1,.slice A2 n2 c2,.slice (some ⟨G,0,none⟩) m m],pv,gv] w fun e w'=>∃u,e=.returned (.tuple #[u,.int .i64 (solveE pool v R f given).2])∧Ex1 G w w'∧Rep w' (fun b _=>w.heap.size≤b∧b<w'.heap.size) (.sl 1 ((solveE pool v R f given).1.map fun z=>i64 z)) u:=by
 obtain ⟨Rs,hRs⟩:∃Rs,Rs=solveE pool v R f given:=⟨_,rfl⟩
 rw [←hRs]
 have hRs':=hRs
 unfold solveE at hRs'
 have hgs:=SlI.of_rep hg
 obtain ⟨Ag,cg,eg⟩:=hgs.len
 subst eg
 obtain ⟨_,_,eg,hcg,hgg⟩:=hgs
 cases eg
 have POS:∀X,Below w0.heap.size w0 X→∀id,Calls Tryz.prog 45 #[pv,.int .i64 id] X fun e w'=>e=.returned (.int .i64 (posI pool id))∧Below X.heap.size X w':=fun X hX id=>pos_w hE hz hl hp X hX id
 have HPOS:=Lib.hid POS
 clear POS
 obtain ⟨Ap,cp,rfl,hpg⟩:=items_row3 hp
 have hGs:=blk_lt hGh
 obtain ⟨P,hP⟩:∃P,P=w.heap.size:=⟨_,rfl⟩
 obtain ⟨W,hW⟩:∃W,W=w.alloc (.cells #[.slice A1 n1 c1,.slice A2 n2 c2,.slice (some ⟨G,0,none⟩) m m] tProb):=⟨_,rfl⟩
 have hBW:Below w.heap.size w W:=by rw [hW];exact (Below.refl _ _).alloc (Nat.le_refl _) _
 have hPW:W.heap[P]? = some (.cells #[.slice A1 n1 c1,.slice A2 n2 c2,.slice (some ⟨G,0,none⟩) m m] tProb (0,0)):=by rw [hW];exact at_new hP
 have hGW:W.heap[G]? = some (.cells (ints f) 3 (0,0)):=(hBW.block _ hGs).trans hGh
 have hPG:P≠G:=by omega
 have hPw:w.heap.size≤P:=by omega
 have gl:((given.length:Nat):Int)≤1048576:=by omega
 have gp:((pool.length:Nat):Int)≤20:=by omega
 have gm:((m:Nat):Int)≤20:=by omega
 have HRS:=Lib.hid hRs'
 clear hRs hRs' hp hg
 go_enter Tryz.func28,Tryz.ntmps28
 go_upto_region 1 with fail
 rw [←hW,←hP]
 clear hW hP
 go_wp2
 go_loopw [19] (fun i wl=>∃(k:Nat) (f':List Int),i=.int .i64 k∧k≤given.length∧Ex1 G W wl∧wl.heap[G]? = some (.cells (ints f') 3 (0,0))∧f'.length=m∧Tri f'∧fixG pool given f=fixG pool (given.drop k) f') (fun i _=>given.length-(intOf i).toNat)
 case atStart=>exact ⟨0,f,rfl,Nat.zero_le _,Ex1.refl _ _,hGW,hfl,hft,rfl⟩
 case round =>
  obtain ⟨k,f',rfl,hkl,hex,hG,hf',ht',hfx⟩:=hrel
  have hexw:Ex1 G w wr:=⟨hex.os.trans hBW.os,hex.tape.trans hBW.tape,hex.output.trans hBW.output,Nat.le_trans hBW.size hex.size,fun q h1 h2=>(hex.block q (Nat.lt_of_lt_of_le h1 hBW.size) h2).trans (hBW.block q h1)⟩
  have hbw:Below w0.heap.size w0 wr:=Ex1.below hw hexw hGw
  have hPr:=blk_ex1 hPW hex hPG
  by_cases hlt:k<given.length
  ·
   as_aux_lemma =>
    obtain ⟨b1,o1,rfl,hb1,d0⟩:=hgg k hlt
    have f0:=cell_same (w':=wr) d0 fun hb=>hbw.block _ hb
    have g1:((k:Nat):Int)<((given.length:Nat):Int):=by omega
    have HP1:=HPOS.out wr hbw given[k]
    have hp0:=hpos _ (List.getElem_mem hlt)
    rw [List.drop_eq_getElem_cons hlt]at hfx
    obtain ⟨z,hz'⟩:∃z,z=given[k]:=⟨_,rfl⟩
    rw [←hz']at f0 HP1 hp0 hfx
    have hpl:=pos_lt (rs:=[]) z hp0
    obtain ⟨p,hp⟩:∃p:Nat,p=(posI pool z).toNat:=⟨_,rfl⟩
    have hp2:posI pool z=(p:Int):=by omega
    rw [fixG_cons]at hfx
    rw [hp2]at HP1 hfx
    rw [Int.toNat_natCast]at hfx
    have hpm2:p<m:=by omega
    have hpf:p<f'.length:=by omega
    have e0:=at0_get hpf
    have cG:wr.cell? ⟨G,p,none⟩=some (.int .i64 f'[p]):=by
     rw [Lib.cell_of_heap hG]
     simp [ints,hpf]
    rw [e0]at hfx
    obtain ⟨a,ha⟩:∃a,a=f'[p]:=⟨_,rfl⟩
    rw [←ha]at hfx cG
    have HFX:=Lib.hid hfx
    have HP2:=Lib.hid HP1
    have gpm:((p:Nat):Int)<((m:Nat):Int):=by omega
    have hF':=Lib.hid hf'
    clear hp0 hpl hp hp2 hz' d0 HP1 hgg hfx ha e0 hf'
    by_cases ha0:a=0
    ·subst ha0
     go_wp2_with (go_at_call 45;refine HP2.out.mono ?_)
     intro e w3 h0
     first|(have hb3:=And.right h0;have he:=And.left h0)|(intro hb3;have he:=h0)
     subst he
     have hG3:=(hb3.block _ (blk_lt hG)).trans hG
     have hP3:=(hb3.block _ (blk_lt hPr)).trans hPr
     have p2:w3.cell? ⟨P,2,none⟩=some (.slice (some ⟨G,0,none⟩) m m):=by rw [Lib.cell_of_heap hP3];rfl
     have cG3:=cell_same (w':=w3) cG fun hb=>hb3.block _ hb
     go_wp2
     go_ret2
     have e1:=HRS.out
     rw [HFX.out,if_pos trivial]at e1
     have e2:Rs=([],14):=e1
     subst e2
     exact ⟨_,rfl,hexw.call hb3,.nil⟩
    ·go_wp2_with (go_at_call 45;refine HP2.out.mono ?_)
     intro e w3 h0
     first|(have hb3:=And.right h0;have he:=And.left h0)|(intro hb3;have he:=h0)
     subst he
     have hG3:=(hb3.block _ (blk_lt hG)).trans hG
     have hP3:=(hb3.block _ (blk_lt hPr)).trans hPr
     have p2:w3.cell? ⟨P,2,none⟩=some (.slice (some ⟨G,0,none⟩) m m):=by rw [Lib.cell_of_heap hP3];rfl
     have cG3:=cell_same (w':=w3) cG fun hb=>hb3.block _ hb
     have fG3:w3.frozen? ⟨G,p,none⟩=false:=frozen_of_row _ _ _ _ _ hG3
     go_wp2
     refine ⟨⟨k+1,f'.set p 1,by simp,by omega,(hex.call hb3).set,?_,by rw [List.length_set];exact hF'.out,fun i=>?_,?_⟩,?_⟩
     ·rw [heap_setCell_same _ _ _ _ _ _ hG3,ints_set]
     ·rw [at0_set hpf]
      split
      ·exact .inr (.inr rfl)
      ·exact ht' i
     ·rw [HFX.out,if_neg ha0]
     ·simp only [intOf]
      omega
  ·obtain rfl:k=given.length:=by omega
   have g1:¬((given.length:Nat):Int)<((given.length:Nat):Int):=by omega
   rw [List.drop_length]at hfx
   have e1:=HRS.out
   rw [hfx]at e1
   have e2:Rs=match solB v R f' with|none=>([],14)|some x=>(pickI pool x,0):=e1
   have p0:wr.cell? ⟨P,0,none⟩=some (.slice A1 n1 c1):=by rw [Lib.cell_of_heap hPr];rfl
   have p1:wr.cell? ⟨P,1,none⟩=some (.slice A2 n2 c2):=by rw [Lib.cell_of_heap hPr];rfl
   have p2:wr.cell? ⟨P,2,none⟩=some (.slice (some ⟨G,0,none⟩) m m):=by rw [Lib.cell_of_heap hPr];rfl
   have keep:∀b,(b≠G∧b<w.heap.size)→b<w.heap.size→wr.heap[b]? = w.heap[b]?∧b<wr.heap.size:=fun b h1 h2=>⟨hexw.block b h2 h1.1,Nat.lt_of_lt_of_le h2 hexw.size⟩
   have ZS:=zsolve_w (hx.keep keep) (hy.keep keep) (SlI.of_ints hG hf') (hk f' hf' ht') n20
   have HZS:=Lib.hid ZS
   have HE2:=Lib.hid e2
   have hF':=Lib.hid hf'
   clear ZS e1 e2 hfx HRS keep hf'
   go_wp2_with (go_at_call 47;refine HZS.out.mono ?_)
   intro e w2 h0
   first|(have hsol:=And.right h0;have hb2:=And.left h0)|(intro hsol;have hb2:=h0)
   have hx2:=hexw.call hb2
   rcases hsol with ⟨hno,rfl⟩|⟨x,Ax,cx,hyes,hxl,rfl,hsl⟩
   ·
    as_aux_lemma =>
     have HNO:=Lib.hid hno
     clear hno p0 p1 p2 hgg hpg
     go_wp2
     go_ret2
     have e1:=HE2.out
     rw [HNO.out]at e1
     have e2:Rs=([],14):=e1
     subst e2
     exact ⟨_,rfl,hx2,.nil⟩
   ·have e1:=HE2.out
    rw [hyes]at e1
    have e2:Rs=(pickI pool x,0):=e1
    subst e2
    have hxm:m=x.length:=by rw [hxl,hF'.out]
    have HXM:=Lib.hid hxm
    obtain ⟨_,_,ex,hcx,hgx⟩:=hsl
    cases ex
    have gx:((x.length:Nat):Int)≤20:=by omega
    clear hyes e1 HE2 p0 p1 p2 hgg hxl hxm
    obtain ⟨w9,hw9⟩:∃w9,w9=w2:=⟨_,rfl⟩
    have hbw2:Below w0.heap.size w0 w2:=Ex1.below hw hx2 hGw
    go_wp2
    go_loopw [14,48] (fun t i wl=>∃k:Nat,i=.int .i64 k∧k≤pool.length∧Below w2.heap.size w2 wl∧wl.ownsRow w2.heap.size 3 1 t (pickI (pool.take k) x).length ((pickI (pool.take k) x).map (Value.int .i64))) (fun _ i _=>pool.length-(intOf i).toNat)
    case atStart=>exact ⟨0,rfl,Nat.zero_le _,Below.refl _ _,World.ownsRow_nil _ _ _ _⟩
    case round =>
     obtain ⟨k,rfl,hk2,hbl,hown⟩:=hrel
     have hbw3:Below w0.heap.size w0 wr:=hbw2.trans (hbl.mono hbw2.size)
     by_cases hlt:k<pool.length
     ·
      as_aux_lemma =>
       have hkx:k<x.length:=by rw [←HXM.out];omega
       obtain ⟨b,off,v8,rfl,hcell,_,A8,n8,c8,rfl⟩:=hpg k hlt
       obtain ⟨bx,ox,rfl,_,dx⟩:=hgx k hkx
       have fx:=cell_same (w':=wr) dx fun hb=>hbl.block _ hb
       have stepk:=pick_take (x:=x) hlt hkx
       have hlen:=pick_len (pool.take k) x
       rw [List.length_take]at hlen
       clear hpg dx
       generalize pickI (pool.take k) x=L at *
       obtain ⟨a,ha⟩:∃a,a=x[k]:=⟨_,rfl⟩
       rw [←ha]at fx stepk
       clear ha
       generalize pool[k]=t at *
       obtain ⟨y1,y2,y3,y4,y5,y6,y7,y8,y9⟩:=t
       have cf:∀j u,(itVs (y1,y2,y3,y4,y5,y6,y7,y8,y9) ++ [.slice A8 n8 c8])[j]? = some u→wr.cell? ⟨b,off+k*9+j,none⟩=some u:=fun j u h=>(hbw3.cell (p:=⟨b,off+k*9+j,none⟩) (World.block_lt_of_cell? w0 _ (hcell j u h))).trans (hcell j u h)
       have d0:=cf 0 _ rfl
       have d1:=cf 1 _ rfl
       have d2:=cf 2 _ rfl
       have d3:=cf 3 _ rfl
       have d4:=cf 4 _ rfl
       have d5:=cf 5 _ rfl
       have d6:=cf 6 _ rfl
       have d7:=cf 7 _ rfl
       have d8:=cf 8 _ rfl
       rw [Nat.add_zero]at d0
       clear cf hcell
       have g2:((k:Nat):Int)<((pool.length:Nat):Int):=by omega
       have g3:((k:Nat):Int)<((x.length:Nat):Int):=by omega
       have HS:=Lib.hid stepk
       clear stepk
       go_upto_region 16 with fail
       obtain ⟨V,hV⟩:∃V,V=wr.heap.size:=⟨_,rfl⟩
       obtain ⟨X,hX⟩:∃X,X=wr.alloc (.cells #[.int .i64 y1,.string (bs y2),.int .i64 y3,.int .i64 y4,.int .i64 y5,.int .i64 y6,.int .i64 y7,.int .i64 y8,.slice A8 n8 c8] 63):=⟨_,rfl⟩
       have hbX:Below wr.heap.size wr X:=by rw [hX];exact (Below.refl _ _).alloc (Nat.le_refl _) _
       have c0:X.cell? ⟨V,0,none⟩=some (.int .i64 y1):=by rw [hX,hV,Lib.cell_of_heap (heap_alloc_new wr _)];rfl
       rw [←hX,←hV]
       have hownX:=own_at hown (fun g _ hg=>hbX.block g hg)
       have hbX2:=hbl.trans (hbX.mono hbl.size)
       have fx2:=cell_same (w':=X) fx fun hb=>hbX.block _ hb
       have hsX:=hbX2.size
       clear hX hV d0 d1 d2 d3 d4 d5 d6 d7 d8 hown hbl hbw3 fx hbX
       by_cases ha:a=1
       ·subst ha
        go_wp2_with (at_builtin;(refine app_int (B0:=w2.heap.size) (w0:=w2) rfl _ _ rfl w2.heap.size _ L.length _ rfl (hownX.alloc _) y1 X.heap.size rfl ?f1 (hbX2.alloc hbX2.size _) (Nat.le_refl _) ?f2 (by omega) ?_))
        case f2=>first|omega|(simp;omega)
        intro v' w3 hown3 hB3 _
        go_wp2
        refine ⟨⟨k+1,by simp,by omega,hB3,?_⟩,?_⟩
        ·rw [HS.out,if_pos trivial,List.length_append,List.map_append]
         exact hown3
        ·simp only [intOf]
         omega
       ·go_wp2
        refine ⟨⟨k+1,by simp,by omega,hbX2,?_⟩,?_⟩
        ·rw [HS.out,if_neg ha,List.append_nil]
         exact hownX
        ·simp only [intOf]
         omega
     ·obtain rfl:k=pool.length:=by omega
      rw [List.take_length]at hown
      have g2:¬((pool.length:Nat):Int)<((pool.length:Nat):Int):=by omega
      go_wp2
      go_ret2
      exact ⟨_,rfl,hx2.call hbl,ints_rep rfl hown fun g hg o=>⟨by have:=hx2.size;have:=(own_zone hown hg).1;omega,(own_zone hown hg).2⟩⟩
theorem rtup2 {w:World} {Z:Zone} {a b:AV} {x y:Value} (h1:Rep w Z a x) (h2:Rep w Z b y):Rep w Z (.tup [a,b]) (.tuple #[x,y]) :=
 .tup rfl fun i hi=>by
  match i,hi with
  | 0,_=>exact h1
  | 1,_=>exact h2
theorem rep_5 {w:World} {Z:Zone} {a b c d e:AV} {x y z u t:Value} (h1:Rep w Z a x) (h2:Rep w Z b y) (h3:Rep w Z c z) (h4:Rep w Z d u) (h5:Rep w Z e t):Rep w Z (.agg [a,b,c,d,e]) (.agg #[x,y,z,u,t]) :=
 .agg rfl fun j hj=>by
  match j,hj with
  | 0,_=>exact h1
  | 1,_=>exact h2
  | 2,_=>exact h3
  | 3,_=>exact h4
  | 4,_=>exact h5
theorem solve_after {w w2:World} (hE:Env w) {Z:Zone} (hz:∀b o,Z b o→b<w.heap.size) {n:Int} {rs:List RuleV} {pool:List PI} {l:List (Int × Int)} {given val:List Int} (hl:pool.length≤1048576) (hgl:given.length≤1048576) (h20:varsE rs pool<20) (hB:Below w.heap.size w w2) (h0:prepE n rs pool l given val=0)
  {A1 A2:Option Addr} {n1 c1 n2 c2 G:Nat} {pv gv:Value} (hp:Rep w Z (.sl 9 (pool.map itA)) pv) (hg:Rep w Z (.sl 1 (given.map fun z=>i64 z)) gv) (hG:w.heap.size≤G) (hGh:w2.heap[G]? = some (.cells (ints (fixE rs pool (varsE rs pool))) 3 (0,0)))
  (hx:SlI w2 (fun b=>b≠G∧b<w2.heap.size) (.slice A1 n1 c1) (valE val (varsE rs pool))) (hy:SlR w2 (fun b=>b≠G∧b<w2.heap.size) (.slice A2 n2 c2) (consE n rs pool (varsE rs pool) pool.length l)) :
  Calls Tryz.prog 28 #[.agg #[.slice A1 n1 c1,.slice A2 n2 c2,.slice (some ⟨G,0,none⟩) (varsE rs pool) (varsE rs pool)],pv,gv] w2 fun e w'=>∃u,e=.returned (.tuple #[u,.int .i64 (testE n rs pool l given val).2])∧Below w.heap.size w w'∧Rep w' (fun b _=>w2.heap.size≤b∧b<w'.heap.size) (.sl 1 ((testE n rs pool l given val).1.map fun z=>i64 z)) u:=by
 obtain ⟨hp0,hpos,_⟩:=prep_ok h0
 have e:testE n rs pool l given val=solveE pool (valE val (varsE rs pool)) (consE n rs pool (varsE rs pool) pool.length l) (fixE rs pool (varsE rs pool)) given:=by
  unfold testE
  rw [if_neg (by simp [h0])]
 rw [e]
 refine (ssolve_w hE hz hB hl hp hg hgl hG hGh hx hy (fun f' h1 h2=>prob_vok hp0 h1 h2) fixE_length (fixE_tri _ _ _) h20 hpos (by unfold varsE;omega)).mono ?_
 rintro e w' ⟨u,rfl,hex,hr⟩
 exact ⟨u,rfl,Ex1.below hB hex hG,hr⟩
theorem stest_c (n:Int) (rs:List RuleV) (pool:List PI) (l:List (Int × Int)) (given val:List Int) (hl:pool.length≤1048576) (hvl:val.length≤1048576) (hgl:given.length≤1048576) (hr:∀r∈rs,RIn r) (h20:varsE rs pool<20) :
  AT 12 [.agg [i64 n,rulesA rs],.sl 9 (pool.map itA),.sl 2 (l.map prA),.sl 1 (given.map fun z=>i64 z),.sl 1 (val.map fun z=>i64 z)] (.tup [.sl 1 ((testE n rs pool l given val).1.map fun z=>i64 z),i64 (testE n rs pool l given val).2]):=by
 refine ⟨⟨_,Tryz.func12,by kernel_rfl,by kernel_rfl⟩,fun w Z vs hE hz _ hrep=>?_⟩
 obtain ⟨v1,v2,v3,v4,v5,rfl,q1,q2,q3,q4,q5⟩:=rps5 hrep
 obtain ⟨x,rfl,qr⟩:=spec_val q1
 clear hrep q1
 change Calls Tryz.prog _ _ w _
 obtain ⟨W1,hW1⟩:∃W1,W1=w.alloc (.cells #[.int .i64 n,x] 24):=⟨_,rfl⟩
 have hB1:Below w.heap.size w W1:=by rw [hW1];exact (Below.refl _ _).alloc (Nat.le_refl _) _
 go_enter Tryz.func12,Tryz.ntmps12
 go_wp2_with (go_at_call 27;go_loud (rw [←hW1];refine (prep_s n rs pool l given val hl hvl hgl hr W1 Z _ (env_below hE hB1) (fun b o h=>Nat.lt_of_lt_of_le (hz b o h) hB1.size) (rep_5 (spec2_of (qr.keep (Keeps.ofBelow hB1) fun _ _ h=>h)) (q2.keep (Keeps.ofBelow hB1) fun _ _ h=>h) (q3.keep (Keeps.ofBelow hB1) fun _ _ h=>h) (q4.keep (Keeps.ofBelow hB1) fun _ _ h=>h) (q5.keep (Keeps.ofBelow hB1) fun _ _ h=>h))).mono ?_))
 rintro e w2 ⟨v,rfl,hb2,hpr⟩
 clear hW1
 have hB2:Below w.heap.size w w2:=hB1.trans (hb2.mono hB1.size)
 rcases hpr with ⟨hne,rfl⟩|⟨h0,A1,A2,n1,c1,n2,c2,G,rfl,hG,hGh,hx,hy⟩
 ·obtain ⟨pe,hpe⟩:∃pe,pe=prepE n rs pool l given val:=⟨_,rfl⟩
  have e:testE n rs pool l given val=([],pe):=by
   unfold testE
   rw [if_pos hne,hpe]
  have HE:=Lib.hid e
  rw [←hpe]at hne ⊢
  clear e hpe
  go_wp2
  go_ret2
  refine ⟨_,rfl,hB2.alloc hB2.size _,?_⟩
  rw [HE.out]
  exact rtup2 .nil (.lit rfl)
 ·obtain ⟨P,hP⟩:∃P,P=w2.heap.size:=⟨_,rfl⟩
  obtain ⟨m,hm⟩:∃m,m=varsE rs pool:=⟨_,rfl⟩
  obtain ⟨W,hW⟩:∃W,W=w2.alloc (.cells #[.slice A1 n1 c1,.slice A2 n2 c2,.slice (some ⟨G,0,none⟩) m m] tProb):=⟨_,rfl⟩
  have hBW2:Below w2.heap.size w2 W:=by rw [hW];exact (Below.refl _ _).alloc (Nat.le_refl _) _
  have hBW:Below w.heap.size w W:=hB2.trans (hBW2.mono hB2.size)
  have hPW:W.heap[P]? = some (.cells #[.slice A1 n1 c1,.slice A2 n2 c2,.slice (some ⟨G,0,none⟩) m m] tProb (0,0)):=by rw [hW];exact at_new hP
  have p0:W.cell? ⟨P,0,none⟩=some (.slice A1 n1 c1):=by rw [Lib.cell_of_heap hPW];rfl
  have p1:W.cell? ⟨P,1,none⟩=some (.slice A2 n2 c2):=by rw [Lib.cell_of_heap hPW];rfl
  have p2:W.cell? ⟨P,2,none⟩=some (.slice (some ⟨G,0,none⟩) m m):=by rw [Lib.cell_of_heap hPW];rfl
  have keep:∀b,(b≠G∧b<w2.heap.size)→b<w2.heap.size→W.heap[b]? = w2.heap[b]?∧b≠G∧b<W.heap.size:=fun b h1 h2=>⟨hBW2.block b h2,h1.1,Nat.lt_of_lt_of_le h2 hBW2.size⟩
  have S:=solve_after hE hz hl hgl h20 hBW h0 q2 q4 (Nat.le_trans hB1.size hG) ((hBW2.block _ (blk_lt hGh)).trans hGh) (hx.keep keep) (hy.keep keep)
  rw [←hm]at S
  have HS:=Lib.hid S
  clear S hx hy hGh keep
  go_upto_region 2 with fail
  rw [←hm,←hW,←hP]
  clear hW hP hm hPW
  go_wp2_with (go_at_call 28;go_loud (refine HS.out.mono ?_))
  rintro e w3 ⟨u,rfl,hb3,hr3⟩
  go_wp2
  go_ret2
  exact ⟨_,rfl,hb3,rtup2 (hr3.keep (Keeps.refl _ _) fun _ _ h=>.inr ⟨Nat.le_trans hBW.size h.1,h.2⟩) (.lit rfl)⟩
theorem lawI:Maps.Keyed Tryz.prog 3:=Maps.int_keyed Tryz.underlying3
theorem keyI {x:Int} (h:(Lit.int .i64 x).wf=true):keyOf Tryz.prog 3 (.int .i64 x)=some (.int .i64 x):=Maps.keyOf_int_mk Tryz.underlying3 h
def DS (D:DataW Unit) (S:Int→Bool):Prop:=(∀x,(Lit.int .i64 x).wf=true→Maps.has D (.int .i64 x)=S x)∧Maps.IsMap D
theorem DS.nil:DS (.map []) (fun _=>false):=⟨fun _ _=>rfl,Maps.isMap_empty⟩
theorem lit_ne {x z:Int} (h:x≠z):(Lit.int IntKind.i64 x)≠.int .i64 z:=fun e=>h (by injection e)
theorem DS.put {D:DataW Unit} {S:Int→Bool} (h:DS D S) {z:Int} (hz:(Lit.int .i64 z).wf=true) (d:DataW Unit) {S':Int→Bool} (hS:∀x,S' x=(S x || decide (x=z))):DS (D.put (.int .i64 z) d) S':=⟨fun x hx=>by
 rw [hS]
 by_cases e:x=z
 ·subst e
  rw [Maps.has_put_same h.2 (lawI.key (keyI hz)),decide_eq_true rfl,Bool.or_true]
 ·rw [Maps.has_put_other (lit_ne e),h.1 x hx,decide_eq_false e,Bool.or_false],h.2.put _ _⟩
theorem DS.del {D:DataW Unit} {S:Int→Bool} (h:DS D S) (z:Int) {S':Int→Bool} (hS:∀x,S' x=(S x && !decide (x=z))):DS (D.del (.int .i64 z)) S':=⟨fun x hx=>by
 rw [hS]
 by_cases e:x=z
 ·subst e
  rw [Maps.has_del_same,decide_eq_true rfl,Bool.not_true,Bool.and_false]
 ·rw [Maps.has_del_other (lit_ne e),h.1 x hx,decide_eq_false e,Bool.not_false,Bool.and_true],h.2.del _⟩
structure Came (S:Int→Bool) (left:Lit→Bool) (L:List Int):Prop where
 nd:L.Nodup
 inS:∀x∈L,S x=true
 gone:∀x∈L,left (.int .i64 x)=false
 lft:∀x,(Lit.int .i64 x).wf=true→left (.int .i64 x)=true→S x=true
 all:∀x,(Lit.int .i64 x).wf=true→S x=true→left (.int .i64 x)=true∨x∈L
theorem Came.start {D:DataW Unit} {S:Int→Bool} (h:DS D S):Came S (Maps.has D) []:=⟨List.nodup_nil,fun _ h=>absurd h List.not_mem_nil,fun _ h=>absurd h List.not_mem_nil,fun x hx e=>(h.1 x hx).symm.trans e,fun x hx e=>.inl ((h.1 x hx).trans e)⟩
theorem Came.step {S:Int→Bool} {left:Lit→Bool} {L:List Int} (h:Came S left L) {x:Int} (hx:(Lit.int .i64 x).wf=true) (hl:left (.int .i64 x)=true):Came S (fun z=>left z && !z.sameKey (.int .i64 x)) (L ++ [x]):=by
 have hne:x ∉ L:=fun hm=>by rw [h.gone x hm]at hl;cases hl
 have self:(Lit.int IntKind.i64 x).sameKey (.int .i64 x)=true:=WideAt.sameKey_self (lawI.key (keyI hx))
 refine ⟨?_,fun y hy=>?_,fun y hy=>?_,fun y hy e=>?_,fun y hy e=>?_⟩
 ·rw [List.nodup_append]
  exact ⟨h.nd,by simp,fun a ha b hb e=>hne (by rw [List.mem_singleton.1 hb]at e;rw [←e];exact ha)⟩
 ·rcases List.mem_append.1 hy with hy|hy
  ·exact h.inS y hy
  ·rw [List.mem_singleton.1 hy];exact h.lft x hx hl
 ·rcases List.mem_append.1 hy with hy|hy
  ·show (left _ && _)=false
   rw [h.gone y hy];rfl
  ·rw [List.mem_singleton.1 hy]
   show (left _ && !_)=false
   rw [self];simp
 ·have:left (.int .i64 y)=true:=by
   have e:(left (.int .i64 y) && !(Lit.int IntKind.i64 y).sameKey (.int .i64 x))=true:=e
   rw [Bool.and_eq_true]at e
   exact e.1
  exact h.lft y hy this
 ·rcases h.all y hy e with h1|h1
  ·by_cases exy:y=x
   ·exact .inr (by rw [exy];simp)
   ·refine .inl ?_
    show (left _ && !_)=true
    rw [h1,Maps.sameKey_ne (lit_ne exy)]
    rfl
  ·exact .inr (by simp [h1])
theorem Came.done {S:Int→Bool} {left:Lit→Bool} {L:List Int} (h:Came S left L) (hl:∀kl,left kl=false) (x:Int) (hx:S x=true→(Lit.int .i64 x).wf=true):x∈L ↔ S x=true :=
 ⟨h.inS x,fun e=>by
  rcases h.all x (hx e) e with h1|h1
  ·rw [hl]at h1;cases h1
  ·exact h1⟩
structure WAt (w0:World) (M V:Nat) (pool:List PI) (val:List Int) (w:World):Prop where
 below:Below w0.heap.size w0 w
 hV:w.heap[V]? = some (.cells #[.map (some M)] cT (0,0))
 ex:∃es clock m,w.heap[M]? = some (.map es clock)∧MapR w noZ (.int .i64) m es.toList∧WM pool val m
theorem WAt.keep {w0 w w':World} {M V:Nat} {pool:List PI} {val:List Int} (h:WAt w0 M V pool val w) (hb:Below w0.heap.size w0 w') (hs:w.heap.size≤w'.heap.size) (h1:w'.heap[V]? = w.heap[V]?) (h2:w'.heap[M]? = w.heap[M]?):WAt w0 M V pool val w':=by
 obtain ⟨es,clock,m,a1,a2,a3⟩:=h.ex
 exact ⟨hb,h1.trans h.hV,es,clock,m,h2.trans a1,a2.keep (noKeeps hs) fun _ _ h=>h,a3⟩
theorem WAt.vlt {w0 w:World} {M V:Nat} {pool:List PI} {val:List Int} (h:WAt w0 M V pool val w):V<w.heap.size:=(Array.getElem?_eq_some_iff.1 h.hV).1
theorem WAt.mlt {w0 w:World} {M V:Nat} {pool:List PI} {val:List Int} (h:WAt w0 M V pool val w):M<w.heap.size:=by
 obtain ⟨es,clock,m,a1,_⟩:=h.ex
 exact (Array.getElem?_eq_some_iff.1 a1).1
theorem WAt.grown {w0 w w':World} {M V:Nat} {pool:List PI} {val:List Int} (h:WAt w0 M V pool val w) {g:Option Nat} (hg:w.grownBy w' g) (hb:∀q,g=some q→w0.heap.size≤q∧q≠V∧q≠M):WAt w0 M V pool val w' :=
 h.keep ⟨hg.os.trans h.below.os,hg.tape.trans h.below.tape,hg.output.trans h.below.output,Nat.le_trans h.below.size hg.size,fun q hq=>(hg.block q (Nat.lt_of_lt_of_le hq h.below.size) fun e=>by have:=(hb q e.symm).1;omega).trans (h.below.block q hq)⟩ hg.size (hg.block V h.vlt fun e=>(hb V e.symm).2.1 rfl) (hg.block M h.mlt fun e=>(hb M e.symm).2.2 rfl)
theorem WAt.call {w0 w w':World} {M V:Nat} {pool:List PI} {val:List Int} (h:WAt w0 M V pool val w) (hb:Below w.heap.size w w'):WAt w0 M V pool val w' :=
 h.keep (h.below.trans (hb.mono h.below.size)) hb.size (hb.block V h.vlt) (hb.block M h.mlt)
theorem WAt.cell {w0 w:World} {M V:Nat} {pool:List PI} {val:List Int} (h:WAt w0 M V pool val w):w.cell? ⟨V,0,none⟩=some (.map (some M)):=by rw [Lib.cell_of_heap h.hV];rfl
theorem WAt.look {w0 w:World} {M V:Nat} {pool:List PI} {val:List Int} (h:WAt w0 M V pool val w) (x:Int):(Instr.lookup cT (.map (some M)) (.int .i64 x) true).run Tryz.prog w=.ok (.tuple #[.int .i64 (wmE pool val x),.bool (!decide (posI pool x<0))]) w:=by
 obtain ⟨es,clock,m,a1,a2,a3⟩:=h.ex
 exact wm_ok a1 a2 a3 x
theorem free_sort {W w0:World} {B V M:Nat} {pool:List PI} {val l:List Int} {ov:Value} (h:WAt w0 M V pool val W) (hVB:V<B) (hMB:M<B) (hn:l.Nodup) (hl:l.length≤1048576) (hown:W.ownsRow B 3 1 ov l.length (l.map (Value.int .i64))) :
  Calls Tryz.prog 32 #[ov,.func (.func 33) #[] #[.pointer (some ⟨V,0,none⟩)]] W fun e w'=>e=.returned (.tuple #[])∧Below B W w'∧w'.ownsRow B 3 1 ov l.length ((isrt (ltF pool val) l).map (Value.int .i64)):=by
 rcases hown.2 with ⟨rfl,h0⟩|⟨g,cap,cur,rfl,hgB,hg,rest⟩
 ·obtain rfl:=List.length_eq_zero_iff.1 h0
  refine (Tryz.slices_SortFunc_none (α:=Int) none 0 _ W).mono ?_
  rintro e w' ⟨rfl,rfl⟩
  exact ⟨rfl,Below.refl _ _,hown⟩
 ·obtain ⟨es,clock,m,a1,a2,a3⟩:=h.ex
  refine (sortF_w h.hV a1 a2 a3 (by omega) (by omega) hl hown).mono ?_
  rintro e w' ⟨rfl,hgr,ho⟩
  rw [srtF_eq hn]at ho
  refine ⟨rfl,(Below.refl B W).grown hgr (Nat.le_trans hgB (Nat.le_of_lt (Array.getElem?_eq_some_iff.1 hg).1)) fun q hq=>by cases hq;exact hgB,ho⟩
theorem rps4 {a b c d:AV} {w:World} {Z:Zone} {vs:Array Value} (h:Rep w Z (.agg [a,b,c,d]) (.agg vs)):∃x y z u,vs=#[x,y,z,u]∧Rep w Z a x∧Rep w Z b y∧Rep w Z c z∧Rep w Z d u:=by
 obtain ⟨hl,hr⟩:=Rep.agg_iff.1 h
 obtain ⟨l,rfl⟩:∃l,vs=List.toArray l:=⟨vs.toList,by simp⟩
 match l,hl with
 | [x,y,z,u],_=>exact ⟨x,y,z,u,rfl,hr 0 _ _ rfl rfl,hr 1 _ _ rfl rfl,hr 2 _ _ rfl rfl,hr 3 _ _ rfl rfl⟩
theorem take_mem {l:List Int} {k:Nat} (hk:k<l.length) (x:Int):decide (x∈l.take (k+1))=(decide (x∈l.take k) || decide (x=l[k])):=by
 rw [List.take_succ_eq_append_getElem hk]
 simp only [List.mem_append,List.mem_singleton,Bool.decide_or]
theorem next_b (w:World) {ops:Array Oper} {rest:List Oper} {o:Oper} {a:Act} {Q:Exit→Act→World→Prop} (hg:o.guard=none) (it:Operand) (hop:o.op=Op.next it false) (b r n:Nat) (D:DataW Unit) (left:Lit→Bool) (cnt:Nat)
  (hit:a.eval it=.pointer (some ⟨r,0,none⟩)) (h:w.ranges Tryz.prog 3 (plainElem Tryz.prog 4) b r n D left cnt)
  (hDone:cnt=0→(∀kl,left kl=false)→wpList Tryz.prog ops Q rest (a.put o.dst (.tuple #[.bool false])) w)
  (hMore:∀(x:Int) (c:Value) (w':World) (cnt':Nat),(Lit.int .i64 x).wf=true→left (.int .i64 x)=true→w'.ranges Tryz.prog 3 (plainElem Tryz.prog 4) b r n D (fun z=>left z && !z.sameKey (.int .i64 x)) cnt'→cnt'<cnt →
   w.grownBy w' (some r)→w'.heap.size=w.heap.size→(Instr.entry (.pointer (some ⟨r,0,none⟩))).run Tryz.prog w'=.ok (.tuple #[.int .i64 x,c]) w'→wpList Tryz.prog ops Q rest (a.put o.dst (.tuple #[.bool true,.int .i64 x,c])) w') :
  wpList Tryz.prog ops Q (o :: rest) a w :=
 wpList_next_ranges (α:=Int) (β:=Value) w hg it hop 3 lawI (plainElem Tryz.prog 4) (Value.int .i64) (fun v=>v) (fun key kl hkey=>by obtain ⟨x,rfl,_⟩:=Maps.keyOf_int_inv Tryz.underlying3 hkey;exact ⟨x,rfl⟩) (fun v y hv=>⟨v,rfl⟩)
  b r n D left cnt hit h hDone (fun x c kl y w' cnt' hkey hlk hv hat hrg hlt hgr hsz hen=>by
   obtain ⟨x',ex,rfl,hwx⟩:=Maps.keyOf_int_inv Tryz.underlying3 hkey
   cases ex
   exact hMore x c w' cnt' hwx hlk hrg hlt hgr hsz hen)
theorem any_pos {pool:List PI} {l:List Int} (h:∀j (hj:j<l.length),0≤posI pool (l[j]'hj)):l.any (fun id=>decide (posI pool id<0))=false:=by
 rw [←Bool.not_eq_true,List.any_eq_true]
 rintro ⟨z,hz,h1⟩
 obtain ⟨j,hj,rfl⟩:=List.getElem_of_mem hz
 have:=h j hj
 have:=of_decide_eq_true h1
 omega
theorem sfree_c (pool:List PI) (val test given:List Int) (hl:pool.length≤1048576) (hvl:val.length≤1048576) (htl:test.length≤1048576) (hgl:given.length≤1048576) (hti:∀z∈test,(Lit.int .i64 z).wf=true) (hgi:∀z∈given,(Lit.int .i64 z).wf=true) :
  AT 17 [.sl 9 (pool.map itA),.sl 1 (val.map fun z=>i64 z),.sl 1 (test.map fun z=>i64 z),.sl 1 (given.map fun z=>i64 z)] (.tup [.sl 1 ((freeE pool val test given).1.map fun z=>i64 z),i64 (freeE pool val test given).2]):=by
 refine ⟨⟨_,Tryz.func17,by kernel_rfl,by kernel_rfl⟩,fun w Z vs hE hz _ hrep=>?_⟩
 obtain ⟨v1,v2,v3,v4,rfl,q1,q2,q3,q4⟩:=rps4 hrep
 obtain ⟨Ap,cp,rfl,hpg⟩:=items_row3 q1
 obtain ⟨Av,cv,rfl,hcv,hgv⟩:=SlI.of_rep q2
 have hgv0:=Lib.hid hgv
 obtain ⟨At,ct,rfl,hct,hgt⟩:=SlI.of_rep q3
 obtain ⟨Ag,cg,rfl,hcg,hgg⟩:=SlI.of_rep q4
 clear hrep q1 q2 q3 q4
 change Calls Tryz.prog _ _ w _
 obtain ⟨Rs,hRs⟩:∃Rs,Rs=freeE pool val test given:=⟨_,rfl⟩
 rw [←hRs]
 unfold freeE at hRs
 have hmm:=@run_makeMap Tryz.prog
 have gp:((pool.length:Nat):Int)≤1048576:=by omega
 have gv:((val.length:Nat):Int)≤1048576:=by omega
 have gt:((test.length:Nat):Int)≤1048576:=by omega
 have gg:((given.length:Nat):Int)≤1048576:=by omega
 have err:∀(e:Int),Rs=([],e)→∀W,Below w.heap.size w W→∃v,Ending.returned (.tuple #[.slice none 0 0,.int .i64 e])=Ending.returned v∧Below w.heap.size w W∧Rep W (grown Z w W) (.tup [.sl 1 (Rs.1.map fun z=>i64 z),i64 Rs.2]) v:=fun e h W hb=>by
  subst h
  exact ⟨_,rfl,hb,rtup2 .nil (.lit rfl)⟩
 have HERR:=Lib.hid err
 clear err
 by_cases hlen:val.length≠pool.length
 ·rw [if_pos hlen]at hRs
  have g1:((val.length:Nat):Int)≠((pool.length:Nat):Int):=by omega
  have HR:=Lib.hid hRs
  clear hRs hpg hgv hgt hgg hmm
  go_enter Tryz.func17,Tryz.ntmps17
  go_wp2
  go_ret2
  exact HERR.out 1 HR.out w (Below.refl _ _)
 rw [if_neg hlen]at hRs
 have hlen:val.length=pool.length:=Classical.not_not.1 hlen
 have g0:((val.length:Nat):Int)=((pool.length:Nat):Int):=by omega
 have HLEN:=Lib.hid hlen
 clear hlen
 have HRS:=Lib.hid hRs
 clear hRs
 go_enter Tryz.func17,Tryz.ntmps17
 go_upto_region 3 with fail
 clear g0
 go_wp2
 go_loopw [35] (fun i wl=>∃k:Nat,i=.int .i64 k∧k≤val.length∧wl=w∧∀j (hj:j<val.length),j<k→badV (val[j]'hj)=false) (fun i _=>val.length-(intOf i).toNat)
 case atStart=>exact ⟨0,rfl,Nat.zero_le _,rfl,fun _ _ h=>absurd h (Nat.not_lt_zero _)⟩
 case round =>
  obtain ⟨k,rfl,hk,hw,hgood⟩:=hrel
  subst wr
  by_cases hlt:k<val.length
  ·obtain ⟨b1,o1,rfl,_,d0⟩:=hgv k hlt
   have hbad:badV (val[k]'hlt)=true→val.any badV=true:=fun h=>List.any_eq_true.2 ⟨_,List.getElem_mem hlt,h⟩
   have hgd:badV (val[k]'hlt)=false→∀j (hj:j<val.length),j<k+1→badV (val[j]'hj)=false:=fun h j hj hj2=>by
    by_cases e:j=k
    ·subst e;exact h
    ·exact hgood j hj (by omega)
   obtain ⟨z,hz'⟩:∃z,z=val[k]:=⟨_,rfl⟩
   rw [←hz']at d0 hbad hgd
   have g2:((k:Nat):Int)<((val.length:Nat):Int):=by omega
   have HB:=Lib.hid hbad
   have HG:=Lib.hid hgd
   clear hz' hgv hpg hgt hgg hbad hgd hgood
   by_cases c1:z < -1000000
   ·go_wp2
    go_ret2
    have e:=HRS.out
    rw [if_pos (HB.out (by simp [badV,c1]))]at e
    exact HERR.out 3 e _ (Below.refl _ _)
   by_cases c2:1000000<z
   ·go_wp2
    go_ret2
    have e:=HRS.out
    rw [if_pos (HB.out (by simp [badV,c2]))]at e
    exact HERR.out 3 e _ (Below.refl _ _)
   go_wp2
   refine ⟨⟨k+1,by simp,by omega,by simp,HG.out (by simp [badV];omega)⟩,?_⟩
   simp only [intOf]
   omega
  ·obtain rfl:k=val.length:=by omega
   have g2:¬((val.length:Nat):Int)<((val.length:Nat):Int):=by omega
   have hany:¬val.any badV=true:=by
    rw [List.any_eq_true]
    rintro ⟨z,hz',h⟩
    obtain ⟨j,hj,rfl⟩:=List.getElem_of_mem hz'
    rw [hgood j hj hj]at h
    cases h
   have e:=HRS.out
   rw [if_neg hany]at e
   have HR1:=Lib.hid e
   clear e hany hgood HRS
   obtain ⟨M,hM⟩:∃M,M=w.heap.size:=⟨_,rfl⟩
   obtain ⟨W1,hW1⟩:∃W1,W1=(w.alloc (.map #[] 0)).alloc (.cells #[.map (some M)] cT):=⟨_,rfl⟩
   have hWA:WAt w M (M+1) [] val W1:=by
    rw [hW1,hM]
    refine ⟨((Below.refl _ _).alloc (Nat.le_refl _) _).alloc (by simp) _,at_new (by simp),#[],0,[],?_,trivial,WM.nil val⟩
    rw [Lib.alloc_old _ _ _ (by simp)]
    exact heap_alloc_new w _
   go_upto_region 10 with fail
   rw [←hM,←hW1]
   have HMM:=Lib.hid hmm
   have HMD:=Lib.hid hM
   have hMs:w.heap.size≤M:=by omega
   clear hmm hW1 hM g2 hgv
   go_wp2
   go_loopw [49] (fun i wl=>∃k:Nat,i=.int .i64 k∧k≤pool.length∧WAt w M (M+1) (pool.take k) val wl) (fun i _=>pool.length-(intOf i).toNat)
   case atStart=>exact ⟨0,rfl,Nat.zero_le _,hWA⟩
   case round =>
    clear hWA
    obtain ⟨k,rfl,hk2,hwa⟩:=hrel
    by_cases hlt2:k<pool.length
    ·
     as_aux_lemma =>
      have hbw:=hwa.below
      obtain ⟨b,off,v8,rfl,hcell,_,A8,n8,c8,rfl⟩:=hpg k hlt2
      obtain ⟨bv,ov,rfl,_,dv⟩:=hgv0.out k (by have:=HLEN.out;omega)
      have fv:=cell_same (w':=wr) dv fun hb=>hbw.block _ hb
      have hval:at0 val k=val[k]'(by have:=HLEN.out;omega):=at0_get _
      have step1:∀m,WM (pool.take k) val m→¬posI (pool.take k) pool[k].1<0→WM (pool.take (k+1)) val m:=fun m h0 h=>WM.old hlt2 h0 h
      obtain ⟨a,ha⟩:∃a,a=val[k]'(by have:=HLEN.out;omega):=⟨_,rfl⟩
      rw [←ha]at fv hval
      have step2:∀m,WM (pool.take k) val m→posI (pool.take k) pool[k].1<0→WM (pool.take (k+1)) val (mputA m (.int .i64 pool[k].1) (i64 a)):=fun m h0 h=>WM.new hlt2 h0 h hval
      have S1:=Lib.hid step1
      have S2:=Lib.hid step2
      clear ha hval hpg dv step1 step2 hgt hgg
      obtain ⟨t,ht⟩:∃t,t=pool[k]:=⟨_,rfl⟩
      rw [←ht]at S1 S2 hcell
      clear ht
      obtain ⟨y1,y2,y3,y4,y5,y6,y7,y8,y9⟩:=t
      have cf:∀j u,(itVs (y1,y2,y3,y4,y5,y6,y7,y8,y9) ++ [.slice A8 n8 c8])[j]? = some u→wr.cell? ⟨b,off+k*9+j,none⟩=some u:=fun j u h=>(hbw.cell (p:=⟨b,off+k*9+j,none⟩) (World.block_lt_of_cell? w _ (hcell j u h))).trans (hcell j u h)
      have d0:=cf 0 _ rfl
      have d1:=cf 1 _ rfl
      have d2:=cf 2 _ rfl
      have d3:=cf 3 _ rfl
      have d4:=cf 4 _ rfl
      have d5:=cf 5 _ rfl
      have d6:=cf 6 _ rfl
      have d7:=cf 7 _ rfl
      have d8:=cf 8 _ rfl
      rw [Nat.add_zero]at d0
      clear cf hcell
      have g2:((k:Nat):Int)<((pool.length:Nat):Int):=by omega
      have g3:((k:Nat):Int)<((val.length:Nat):Int):=by have:=HLEN.out;omega
      go_upto_region 13 with fail
      obtain ⟨R,hR⟩:∃R,R=wr.heap.size:=⟨_,rfl⟩
      obtain ⟨X,hX⟩:∃X,X=wr.alloc (.cells #[.int .i64 y1,.string (bs y2),.int .i64 y3,.int .i64 y4,.int .i64 y5,.int .i64 y6,.int .i64 y7,.int .i64 y8,.slice A8 n8 c8] 63):=⟨_,rfl⟩
      have hbX:Below wr.heap.size wr X:=by rw [hX];exact (Below.refl _ _).alloc (Nat.le_refl _) _
      have hwX:=hwa.call hbX
      have c0:X.cell? ⟨R,0,none⟩=some (.int .i64 y1):=by rw [hX,hR,Lib.cell_of_heap (heap_alloc_new wr _)];rfl
      have fX:=cell_same (w':=X) fv fun hb=>hbX.block _ hb
      rw [←hX,←hR]
      clear hX hR d0 d1 d2 d3 d4 d5 d6 d7 d8 fv hbX hwa hbw
      have cV:=hwX.cell
      have L1:=hwX.look y1
      have HX:=Lib.hid hwX
      obtain ⟨p,hp⟩:∃p,p=posI (pool.take k) y1:=⟨_,rfl⟩
      rw [←hp]at L1
      by_cases hneg:p<0
      ·rw [decide_eq_true hneg]at L1
       obtain ⟨es,clock,m,a1,a2,a3⟩:=hwX.ex
       have a2':MapR X.drew noZ (.int .i64) m es.toList:=a2.keep (w':=X.drew) (noKeeps (Nat.le_refl X.heap.size)) fun _ _ h=>h
       obtain ⟨es',clock',hu,hm'⟩:=update_run (P:=Tryz.prog) (w:=X.drew) (kd:=.int .i64) (ty:=cT) (q:=.int .i64 y1) (y:=i64 a) (v:=.int .i64 a) Tryz.underlying64 Tryz.underlying3 rfl a1 a2' rfl (.lit rfl)
       have hVl:=hwX.vlt
       have hMl:=hwX.mlt
       obtain ⟨W2,hW2⟩:∃W2,W2={ X.drew with heap:=X.drew.heap.setIfInBounds M (.map es' clock') }:=⟨_,rfl⟩
       have hwa2:WAt w M (M+1) (pool.take (k+1)) val W2:=by
        have hbX:=hwX.below
        rw [hW2]
        refine ⟨⟨hbX.os,hbX.tape,hbX.output,by have:=hbX.size;simpa using this,fun j hj=>?_⟩,?_,es',clock',_,?_,hm'.keep (noKeeps (by simp)) fun _ _ h=>h,S2.out _ a3 (by rw [←hp];exact hneg)⟩
        ·show (X.heap.setIfInBounds M _)[j]? = _
         rw [Array.getElem?_setIfInBounds_ne (by omega)]
         exact hbX.block j hj
        ·show (X.heap.setIfInBounds M _)[M+1]? = _
         rw [Array.getElem?_setIfInBounds_ne (by omega)]
         exact hwX.hV
        ·show (X.heap.setIfInBounds M _)[M]? = _
         rw [Array.getElem?_setIfInBounds_self_of_lt hMl]
       rw [←hW2]at hu
       clear hwX a1 a2 a2' a3 hm' hW2 hp
       go_wp2
       refine wp_region_still_tail 7 (by kernel_rfl) (by kernel_rfl) ?_
       simp only [List.take_succ_cons,List.take_zero,List.drop_succ_cons,List.drop_zero]
       change wpStill _ _ X.drew _ _ _
       repeat still_step
       refine wpStill_nil ?_
       change wpList _ _ _ _ _ X.drew
       go_wp2
       refine ⟨⟨k+1,by simp,by omega,hwa2⟩,?_⟩
       simp only [intOf]
       omega
      ·rw [decide_eq_false hneg]at L1
       obtain ⟨es,clock,m,a1,a2,a3⟩:=hwX.ex
       have a4:=S1.out _ a3 (by rw [←hp];exact hneg)
       clear hwX hp
       go_wp2
       refine ⟨⟨k+1,by simp,by omega,⟨HX.out.below,HX.out.hV,es,clock,m,a1,a2,a4⟩⟩,?_⟩
       simp only [intOf]
       omega
    ·obtain rfl:k=pool.length:=by omega
     rw [List.take_length]at hwa
     have g2:¬((pool.length:Nat):Int)<((pool.length:Nat):Int):=by omega
     have hpe:pool.take pool.length=pool:=List.take_length
     have hml:=hwa.mlt
     have hvl':=hwa.vlt
     obtain ⟨B,hB⟩:∃B,B=wr.heap.size:=⟨_,rfl⟩
     have hwB:WAt w M (M+1) pool val (wr.alloc (.map #[] 0)):=hwa.call ((Below.refl _ _).alloc (Nat.le_refl _) _)
     have hBS:(wr.alloc (.map #[] 0)).ownsMap (H:=Unit) Tryz.prog 3 (plainElem Tryz.prog 4) wr.heap.size 0 (.map []):=World.ownsMap_made _ _ _ _
     have hsB:B<(wr.alloc (.map #[] 0)).heap.size:=by simp;omega
     have hmm:=HMM.out
     go_upto_region 18 with fail
     clear hmm
     obtain ⟨W2,hW2⟩:∃W2,W2=wr.alloc (.map #[] 0):=⟨_,rfl⟩
     rw [←hW2,←hB]
     rw [←hW2]at hwB hBS hsB
     rw [←hB]at hBS hml hvl'
     clear hW2 hB hwa hpe g2
     go_wp2
     go_loopw [74] (fun i wl=>∃(k:Nat) (D:DataW Unit),i=.int .i64 k∧k≤test.length∧WAt w M (M+1) pool val wl∧wl.ownsMap Tryz.prog 3 (plainElem Tryz.prog 4) B k D∧DS D (fun x=>decide (x∈test.take k))∧∀j (hj:j<test.length),j<k→0≤posI pool (test[j]'hj)) (fun i _=>test.length-(intOf i).toNat)
     case atStart=>exact ⟨0,_,rfl,Nat.zero_le _,hwB,hBS,by simpa using DS.nil,fun _ _ h=>absurd h (Nat.not_lt_zero _)⟩
     case round =>
      clear hwB hBS hsB
      obtain ⟨k,D,rfl,hk3,hwa,hown,hds,hgood⟩:=hrel
      by_cases hlt3:k<test.length
      ·
       as_aux_lemma =>
        obtain ⟨bt,ot,rfl,_,dt⟩:=hgt k hlt3
        have ft:=cell_same (w':=wr) dt fun hb=>hwa.below.block _ hb
        have hin:test[k]∈test:=List.getElem_mem hlt3
        have hbad:posI pool test[k]<0→test.any (fun id=>decide (posI pool id<0))=true:=fun h=>List.any_eq_true.2 ⟨_,hin,decide_eq_true h⟩
        have hgd:¬posI pool test[k]<0→∀j (hj:j<test.length),j<k+1→0≤posI pool (test[j]'hj):=fun h j hj hj2=>by
         by_cases e:j=k
         ·subst e;omega
         ·exact hgood j hj (by omega)
        have hkey:=keyI (hti _ hin)
        have hwf:=hti _ hin
        have L1:=hwa.look test[k]
        have htm:=take_mem hlt3
        obtain ⟨z,hz'⟩:∃z,z=test[k]:=⟨_,rfl⟩
        rw [←hz']at ft hbad hgd hkey hwf L1 htm
        obtain ⟨p,hp⟩:∃p,p=posI pool z:=⟨_,rfl⟩
        rw [←hp]at hbad hgd L1
        have HBAD:=Lib.hid hbad
        have HGD:=Lib.hid hgd
        have HTM:=Lib.hid htm
        have HDS:=Lib.hid hds
        have HWA:=Lib.hid hwa
        have g2:((k:Nat):Int)<((test.length:Nat):Int):=by omega
        have cV:=hwa.cell
        clear hz' dt hbad hgd htm hgood hp hgt hgg hpg hin hds hwa
        by_cases hneg:p<0
        ·rw [decide_eq_true hneg]at L1
         go_wp2
         go_ret2
         have e:=HR1.out
         rw [if_pos (HBAD.out hneg)]at e
         exact HERR.out 6 e _ HWA.out.below
        ·rw [decide_eq_false hneg]at L1
         go_wp2_with (first|(at_mapUpdate;refine wpList_mapUpdate_own _ rfl _ _ _ 66 rfl 3 4 lawI Tryz.underlying66 _ B k _ rfl hown (by unfold maxLen;omega) _ _ _ rfl rfl hkey _ [] (plainElem_bool Tryz.underlying4 _) ?_)|fail)
         intro w1 hown1 hgr1
         have hwa1:=HWA.out.grown hgr1 (fun q hq=>by cases hq;exact ⟨by omega,by omega,by omega⟩)
         go_wp2
         refine ⟨⟨k+1,_,by simp,by omega,hwa1,hown1,HDS.out.put hwf _ HTM.out,HGD.out hneg⟩,?_⟩
         simp only [intOf]
         omega
      ·obtain rfl:k=test.length:=by omega
       rw [List.take_length]at hds
       have g2:¬((test.length:Nat):Int)<((test.length:Nat):Int):=by omega
       have e:=HR1.out
       rw [any_pos (fun j hj=>hgood j hj hj),if_neg (by simp)]at e
       have HR2:=Lib.hid e
       clear e hgood HR1
       have hwa0:=hwa
       have hown0:=hown
       clear hwa hown
       go_wp2
       go_loopw [91] (fun i wl=>∃(k:Nat) (D:DataW Unit),i=.int .i64 k∧k≤given.length∧WAt w M (M+1) pool val wl∧wl.ownsMap Tryz.prog 3 (plainElem Tryz.prog 4) B test.length D∧DS D (fun x=>decide (x∈test) && !decide (x∈given.take k))∧∀j (hj:j<given.length),j<k→0≤posI pool (given[j]'hj)) (fun i _=>given.length-(intOf i).toNat)
       case atStart=>exact ⟨0,_,rfl,Nat.zero_le _,hwa0,hown0,by simpa using hds,fun _ _ h=>absurd h (Nat.not_lt_zero _)⟩
       case round =>
        clear hwa0 hown0 hds
        obtain ⟨k,D,rfl,hk4,hwa,hown,hds,hgood⟩:=hrel
        by_cases hlt4:k<given.length
        ·
         as_aux_lemma =>
          obtain ⟨bt,ot,rfl,_,dt⟩:=hgg k hlt4
          have ft:=cell_same (w':=wr) dt fun hb=>hwa.below.block _ hb
          have hin:given[k]∈given:=List.getElem_mem hlt4
          have hbad:posI pool given[k]<0→given.any (fun id=>decide (posI pool id<0))=true:=fun h=>List.any_eq_true.2 ⟨_,hin,decide_eq_true h⟩
          have hgd:¬posI pool given[k]<0→∀j (hj:j<given.length),j<k+1→0≤posI pool (given[j]'hj):=fun h j hj hj2=>by
           by_cases e:j=k
           ·subst e;omega
           ·exact hgood j hj (by omega)
          have hkey:=keyI (hgi _ hin)
          have L1:=hwa.look given[k]
          have htm:=take_mem hlt4
          obtain ⟨z,hz'⟩:∃z,z=given[k]:=⟨_,rfl⟩
          rw [←hz']at ft hbad hgd hkey L1 htm
          obtain ⟨p,hp⟩:∃p,p=posI pool z:=⟨_,rfl⟩
          rw [←hp]at hbad hgd L1
          have HBAD:=Lib.hid hbad
          have HGD:=Lib.hid hgd
          have HTM:=Lib.hid htm
          have HDS:=Lib.hid hds
          have HWA:=Lib.hid hwa
          have g2:((k:Nat):Int)<((given.length:Nat):Int):=by omega
          have cV:=hwa.cell
          clear hz' dt hbad hgd htm hgood hp hgt hgg hpg hin hds hwa
          by_cases hneg:p<0
          ·rw [decide_eq_true hneg]at L1
           go_wp2
           go_ret2
           have e:=HR2.out
           rw [if_pos (HBAD.out hneg)]at e
           exact HERR.out 6 e _ HWA.out.below
          ·rw [decide_eq_false hneg]at L1
           go_wp2_with (first|(at_delete;refine wpList_delete_own _ rfl _ _ 66 3 rfl 4 lawI Tryz.underlying66 _ B test.length _ rfl hown _ _ rfl hkey ?_)|fail)
           intro w1 hown1 htr1
           have hwa1:=HWA.out.grown htr1.grown (fun q hq=>by cases hq;exact ⟨by omega,by omega,by omega⟩)
           go_wp2
           refine ⟨⟨k+1,_,by simp,by omega,hwa1,hown1,HDS.out.del z (fun x=>by rw [HTM.out x];cases decide (x∈test) <;> cases decide (x∈given.take k) <;> simp),HGD.out hneg⟩,?_⟩
           simp only [intOf]
           omega
        ·obtain rfl:k=given.length:=by omega
         rw [List.take_length]at hds
         have g2:¬((given.length:Nat):Int)<((given.length:Nat):Int):=by omega
         have e:=HR2.out
         rw [any_pos (fun j hj=>hgood j hj hj),if_neg (by simp)]at e
         have HR3:=Lib.hid e
         clear e hgood HR2
         have hsz:=hown.size_le
         obtain ⟨Rr,hRr⟩:∃Rr,Rr=wr.heap.size:=⟨_,rfl⟩
         have hBl:=hown.lt
         have hml2:=hwa.mlt
         have hvl2:=hwa.vlt
         go_wp2_with (first|(at_range;refine wpList_range_own _ rfl _ 66 rfl 3 4 lawI Tryz.underlying66 _ B test.length _ rfl hown ?_)|fail)
         intro w5 hrg0 hg0 hs0
         have hwa5:=hwa.grown hg0 (fun q hq=>by cases hq)
         rw [←hRr]at hrg0 hs0 hBl hml2 hvl2
         rw [←hRr]
         clear hwa hown hRr hg0
         go_wp2
         have hcs0:=Came.start hds
         go_loopw [26] (fun t wl=>∃(left:Lit→Bool) (cnt:Nat) (L:List Int),wl.ranges Tryz.prog 3 (plainElem Tryz.prog 4) B Rr test.length D left cnt∧L.length+cnt≤test.length∧Came (fun x=>decide (x∈test) && !decide (x∈given)) left L∧WAt w M (M+1) pool val wl∧Rr<wl.heap.size∧wl.ownsRow (Rr+1) 3 1 t L.length (L.map (Value.int .i64))) (fun _ wl=>wl.rangeLeft B Rr)
         case atStart=>exact ⟨_,_,[],hrg0,by simpa using hsz,hcs0,hwa5,by omega,World.ownsRow_nil _ _ _ _⟩
         case round =>
          clear hrg0 hcs0 hwa5 hs0
          obtain ⟨left,cnt,L,hrg,hcl,hcm,hwa,hRl,hown⟩:=hrel
          go_wp2_with (first|(at_next;refine next_b _ rfl _ rfl B Rr test.length D _ _ rfl hrg ?_ ?_)|fail)
          ·intro hc0 hl0
           have hnd:=hcm.nd
           have hmem:∀x,x∈L ↔ x∈test∧x ∉ given:=fun x=>by
            rw [hcm.done hl0 x (fun h=>hti x (by simp at h;exact h.1))]
            simp
           have SORT:=free_sort hwa (by omega) (by omega) hnd (by omega) hown
           have hfin:Rs=(isrt (ltF pool val) L,0):=by
            have e:=HR3.out
            rw [←free_uniq hnd hmem]at e
            exact e
           have HSORT:=Lib.hid SORT
           have HFIN:=Lib.hid hfin
           have hLl:(isrt (ltF pool val) L).length=L.length:=isrt_len _ _
           have HLL:=Lib.hid hLl
           have hbw:=hwa.below
           clear SORT hmem hfin hLl hpg hgt hgg hcm hrg hown hwa
           generalize isrt (ltF pool val) L=LS at *
           go_wp2_with (go_at_call 32;go_loud (refine HSORT.out.mono ?_))
           rintro e w6 ⟨rfl,hb6,ho6⟩
           go_wp2
           go_ret2
           rw [HFIN.out]
           have hs6:=hb6.size
           refine ⟨_,rfl,hbw.trans (hb6.mono (by have:=hbw.size;omega)),rtup2 (ints_rep HLL.out.symm ho6 fun g hg o=>.inr ?_) (.lit rfl)⟩
           have:=own_zone ho6 hg
           exact ⟨by have:=hbw.size;omega,this.2⟩
          ·intro x c w2 cnt2 hwf hlk hrg2 hlt2 hg2 hs2 hen
           have hown2:=own_at hown (fun g h1 h2=>hg2.block g h2 (fun e=>by injection e with e;omega))
           have hwa2:=hwa.grown hg2 (fun q hq=>by cases hq;exact ⟨by omega,by omega,by omega⟩)
           have hcm2:=hcm.step hwf hlk
           have hn0:Rr+1≤w2.heap.size:=by omega
           clear hg2 hwa hcm hown hpg hgt hgg hs2
           go_wp2_with (at_builtin;(refine app_int (B0:=Rr+1) (w0:=w2) rfl _ _ rfl (Rr+1) _ L.length _ rfl (hown2.alloc _) x w2.heap.size rfl ?f1 ((Below.refl _ _).alloc hn0 _) (Nat.le_refl _) ?f2 (by omega) ?_))
           case f1=>rw [Lib.cell_of_heap (heap_alloc_new w2 _)];rfl
           case f2=>first|omega|(simp;omega)
           intro v' w3 hown3 hB3 hgr3
           have hne:∀q,Value.ownBlock u26=some q→Rr+1≤q:=fun q hq=>(own_zone hown2 hq).1
           have hrg3:=(hrg2.alloc (.cells #[.int .i64 x] 3)).kept hgr3 (fun e=>by have:=hne _ e.symm;omega) (fun e=>by have:=hne _ e.symm;omega)
           have hwa3:=(hwa2.call ((Below.refl _ _).alloc (Nat.le_refl _) (.cells #[.int .i64 x] 3))).grown hgr3 (fun q hq=>by have:=hne q hq;exact ⟨by omega,by omega,by omega⟩)
           have hR3:Rr<w3.heap.size:=by have:=hB3.size;omega
           go_wp2
           refine ⟨⟨_,cnt2,L ++ [x],hrg3,by simp;omega,hcm2,hwa3,hR3,?_⟩,?_⟩
           ·rw [List.length_append,List.map_append]
            exact hown3
           ·rw [hrg3.left_eq,hrg.left_eq]
            exact hlt2
theorem ids_wf:∀{pool:List PI} {a:Int},idsE pool a=true→∀y∈pool,1≤y.1∧y.1≤9999999
 | [],_,_,_,h=>absurd h List.not_mem_nil
 | z :: l,a,h,y,hy=>by
  unfold idsE at h
  split at h
  ·cases h
  ·rename_i h1
   split at h
   ·cases h
   ·rcases List.mem_cons.1 hy with rfl|hy
    ·have h2:numB y.1=true:=by simpa using h1
     unfold numB at h2
     simp at h2
     exact h2
    ·exact ids_wf h y hy
theorem pos_wf {pool:List PI} (hid:idsE pool 0=true) {id:Int} (h:0≤posI pool id):(Lit.int .i64 id).wf=true:=by
 rcases pos_spec (pool:=pool) id with ⟨h1,_⟩|⟨i,hi,_,h2⟩
 ·omega
 ·have:=ids_wf hid pool[i] (List.getElem_mem hi)
  exact WalkArith.wf_i64 (by omega)
theorem prep_ids {n:Int} {rs:List RuleV} {pool:List PI} {l:List (Int × Int)} {given val:List Int} (h:prepE n rs pool l given val=0):idsE pool 0=true:=by
 obtain ⟨h1,_,_⟩:=prep_ok h
 exact (pool_ok (task_in (prob_len h1).1).2).1
theorem test_len {n:Int} {rs:List RuleV} {pool:List PI} {l:List (Int × Int)} {given val:List Int}:(testE n rs pool l given val).1.length≤pool.length:=by
 by_cases h:(testE n rs pool l given val).2=0
 ·obtain ⟨_,_,x,e,_⟩:=test_ok h
  rw [e]
  exact pick_len _ _
 ·rw [test_err h]
  exact Nat.zero_le _
theorem snext_c (n:Int) (rs:List RuleV) (pool:List PI) (l:List (Int × Int)) (given val:List Int) (hl:pool.length≤1048576) (hvl:val.length≤1048576) (hgl:given.length≤1048576) (hr:∀r∈rs,RIn r) (h20:varsE rs pool<20) :
  AT 14 [.agg [i64 n,rulesA rs],.sl 9 (pool.map itA),.sl 2 (l.map prA),.sl 1 (given.map fun z=>i64 z),.sl 1 (val.map fun z=>i64 z)] (.tup [i64 (nextE n rs pool l given val).1,i64 (nextE n rs pool l given val).2]):=by
 refine ⟨⟨_,Tryz.func14,by kernel_rfl,by kernel_rfl⟩,fun w Z vs hE hz _ hrep=>?_⟩
 obtain ⟨v1,v2,v3,v4,v5,rfl,q1,q2,q3,q4,q5⟩:=rps5 hrep
 obtain ⟨x,rfl,qr⟩:=spec_val q1
 obtain ⟨Ag,cg,eg⟩:=(SlI.of_rep q4).len
 subst eg
 clear hrep q1
 change Calls Tryz.prog _ _ w _
 obtain ⟨Rs,hRs⟩:∃Rs,Rs=nextE n rs pool l given val:=⟨_,rfl⟩
 rw [←hRs]
 unfold nextE at hRs
 have ret:∀(a e:Int),Rs=(a,e)→∀W,Below w.heap.size w W→∃v,Ending.returned (.tuple #[.int .i64 a,.int .i64 e])=Ending.returned v∧Below w.heap.size w W∧Rep W (grown Z w W) (.tup [i64 Rs.1,i64 Rs.2]) v:=fun a e h W hb=>by
  subst h
  exact ⟨_,rfl,hb,rtup2 (.lit rfl) (.lit rfl)⟩
 have HRET:=Lib.hid ret
 clear ret
 obtain ⟨W1,hW1⟩:∃W1,W1=w.alloc (.cells #[.int .i64 n,x] 24):=⟨_,rfl⟩
 have hB1:Below w.heap.size w W1:=by rw [hW1];exact (Below.refl _ _).alloc (Nat.le_refl _) _
 have hS1:W1.heap[w.heap.size]? = some (.cells #[.int .i64 n,x] 24 (0,0)):=by rw [hW1];exact heap_alloc_new w _
 have hgg:((given.length:Nat):Int)≤1048576:=by omega
 have HR0:=Lib.hid hRs
 clear hRs
 go_enter Tryz.func14,Tryz.ntmps14
 go_wp2_with (go_at_call 27;go_loud (rw [←hW1];refine (prep_s n rs pool l given val hl hvl hgl hr W1 Z _ (env_below hE hB1) (fun b o h=>Nat.lt_of_lt_of_le (hz b o h) hB1.size) (rep_5 (spec2_of (qr.keep (Keeps.ofBelow hB1) fun _ _ h=>h)) (q2.keep (Keeps.ofBelow hB1) fun _ _ h=>h) (q3.keep (Keeps.ofBelow hB1) fun _ _ h=>h) (q4.keep (Keeps.ofBelow hB1) fun _ _ h=>h) (q5.keep (Keeps.ofBelow hB1) fun _ _ h=>h))).mono ?_))
 rintro e w2 ⟨v,rfl,hb2,hpr⟩
 clear hW1
 have hB2:Below w.heap.size w w2:=hB1.trans (hb2.mono hB1.size)
 have hS2:=blk_call hS1 hb2
 rcases hpr with ⟨hne,rfl⟩|⟨h0,A1,A2,n1,c1,n2,c2,G,rfl,hG,hGh,hx,hy⟩
 ·have e:=HR0.out
  rw [if_pos hne]at e
  obtain ⟨pe,hpe⟩:∃pe,pe=prepE n rs pool l given val:=⟨_,rfl⟩
  rw [←hpe]at hne e ⊢
  have HE:=Lib.hid e
  clear e hpe HR0
  go_wp2
  go_ret2
  exact HRET.out 0 pe HE.out _ (hB2.alloc hB2.size _)
 ·have e:=HR0.out
  rw [if_neg (by simp [h0])]at e
  have HR1:=Lib.hid e
  clear e HR0
  obtain ⟨P,hP⟩:∃P,P=w2.heap.size:=⟨_,rfl⟩
  obtain ⟨m,hm⟩:∃m,m=varsE rs pool:=⟨_,rfl⟩
  obtain ⟨W,hW⟩:∃W,W=w2.alloc (.cells #[.slice A1 n1 c1,.slice A2 n2 c2,.slice (some ⟨G,0,none⟩) m m] tProb):=⟨_,rfl⟩
  have hBW2:Below w2.heap.size w2 W:=by rw [hW];exact (Below.refl _ _).alloc (Nat.le_refl _) _
  have hBW:Below w.heap.size w W:=hB2.trans (hBW2.mono hB2.size)
  have hSW:=blk_call hS2 hBW2
  have hPW:W.heap[P]? = some (.cells #[.slice A1 n1 c1,.slice A2 n2 c2,.slice (some ⟨G,0,none⟩) m m] tProb (0,0)):=by rw [hW];exact at_new hP
  have s0:W.cell? ⟨w.heap.size,0,none⟩=some (.int .i64 n):=by rw [Lib.cell_of_heap hSW];rfl
  have p0:W.cell? ⟨P,0,none⟩=some (.slice A1 n1 c1):=by rw [Lib.cell_of_heap hPW];rfl
  have p1:W.cell? ⟨P,1,none⟩=some (.slice A2 n2 c2):=by rw [Lib.cell_of_heap hPW];rfl
  have p2:W.cell? ⟨P,2,none⟩=some (.slice (some ⟨G,0,none⟩) m m):=by rw [Lib.cell_of_heap hPW];rfl
  have keep:∀b,(b≠G∧b<w2.heap.size)→b<w2.heap.size→W.heap[b]? = w2.heap[b]?∧b≠G∧b<W.heap.size:=fun b h1 h2=>⟨hBW2.block b h2,h1.1,Nat.lt_of_lt_of_le h2 hBW2.size⟩
  have S:=solve_after hE hz hl hgl h20 hBW h0 q2 q4 (Nat.le_trans hB1.size hG) ((hBW2.block _ (blk_lt hGh)).trans hGh) (hx.keep keep) (hy.keep keep)
  rw [←hm]at S
  have HS:=Lib.hid S
  clear S hx hy hGh keep
  go_upto_region 2 with fail
  rw [←hm,←hW,←hP]
  clear hW hP hm hPW
  by_cases hdone:n≤((given.length:Nat):Int)
  ·have e:=HR1.out
   rw [if_pos hdone]at e
   have HE:=Lib.hid e
   clear e
   go_wp2
   go_ret2
   exact HRET.out 0 21 HE.out _ hBW
  ·have e:=HR1.out
   rw [if_neg hdone]at e
   have HR2:=Lib.hid e
   clear e HR1
   go_wp2_with (go_at_call 28;go_loud (refine HS.out.mono ?_))
   first|rintro e w3 u rfl hb3 hr3|rintro e w3 ⟨u,rfl,hb3,hr3⟩
   clear p0 p1 p2 s0
   by_cases ht:(testE n rs pool l given val).2≠0
   ·have e:=HR2.out
    rw [if_pos ht]at e
    obtain ⟨te,hte⟩:∃te,te=(testE n rs pool l given val).2:=⟨_,rfl⟩
    rw [←hte]at e ht ⊢
    have HE:=Lib.hid e
    clear e hte hr3
    go_wp2
    go_ret2
    exact HRET.out 0 te HE.out _ hb3
   ·have e:=HR2.out
    rw [if_neg ht]at e
    have ht0:(testE n rs pool l given val).2=0:=Classical.not_not.1 ht
    have HR3:=Lib.hid e
    rw [ht0]
    have hid:=prep_ids h0
    have FR:=sfree_c pool val (testE n rs pool l given val).1 given hl hvl (Nat.le_trans test_len hl) hgl (fun z hz'=>pos_wf hid ((test_ok ht0).2.1.2.2.2.2 z hz')) (fun z hz'=>pos_wf hid ((prep_ok h0).2.1 z hz'))
    have hfe:(freeE pool val (testE n rs pool l given val).1 given).2=0:=by rw [free_of ht0]
    have hflen:(freeE pool val (testE n rs pool l given val).1 given).1.length≤1048576:=by
     have:=free_len2 ht0
     have:=test_len (n:=n) (rs:=rs) (pool:=pool) (l:=l) (given:=given) (val:=val)
     have h5:=(test_ok ht0).2.1.1
     omega
    have FC:=at_call hE FR w3 (grown Z w w3) #[v2,v5,u,.slice Ag given.length cg] hb3 (fun b o h=>by
     rcases h with h|h
     ·exact Nat.lt_of_lt_of_le (hz b o h) hb3.size
     ·exact h.2) (rep_4 (q2.keep (Keeps.ofBelow hb3) fun _ _ h=>.inl h) (q5.keep (Keeps.ofBelow hb3) fun _ _ h=>.inl h) (hr3.keep (Keeps.refl _ _) fun _ _ h=>.inr ⟨Nat.le_trans hBW.size h.1,h.2⟩) (q4.keep (Keeps.ofBelow hb3) fun _ _ h=>.inl h))
    have HFC:=Lib.hid FC
    clear e FC FR ht ht0 hr3 HR2
    generalize (testE n rs pool l given val).1=T at *
    generalize freeE pool val T given=F at *
    obtain ⟨F1,F2⟩:=F
    dsimp only at hfe hflen
    subst hfe
    go_wp2_with (go_at_call 17;go_loud (refine HFC.out.mono ?_))
    first|rintro e w4 fv rfl hb4 hr4|rintro e w4 ⟨fv,rfl,hb4,hr4⟩
    obtain ⟨fx,fe,rfl,hr5,hr6⟩:=tup2_val hr4
    obtain rfl:=hr6.lit_eq
    have hb4':Below w.heap.size w w4:=hb3.trans (hb4.mono hb3.size)
    have hsl:=SlI.of_rep hr5
    obtain ⟨Af,cf,rfl,hcf,hgf⟩:=hsl
    have hfl:((F1.length:Nat):Int)≤1048576:=by omega
    have e:=HR3.out
    rw [if_neg (by simp)]at e
    have HE:=Lib.hid e
    clear e hr4 hr5 hr6 HR3
    cases F1 with
    | nil =>
     go_wp2
     go_ret2
     exact HRET.out 0 14 HE.out _ hb4'
    | cons a F1 =>
     obtain ⟨bf,of',rfl,_,d0⟩:=hgf 0 (by simp)
     have d0:w4.cell? ⟨bf,of',none⟩=some (.int .i64 a):=d0
     have hq0:0<(a :: F1).length:=by simp
     clear hgf
     generalize (a :: F1).length=q at *
     have g8:(0:Int)<((q:Nat):Int):=by omega
     have g9:¬((q:Nat):Int)=0:=by omega
     go_wp2
     go_ret2
     exact HRET.out a 0 HE.out _ hb4'
theorem own_rep {w0 w:World} {Z:Zone} {B:Nat} {v:Value} {l:List Int} {n:Nat} (hn:n=l.length) (h:w.ownsRow B 3 1 v n (l.map (Value.int .i64))) (hB:w0.heap.size≤B):Rep w (grown Z w0 w) (.sl 1 (l.map fun z=>i64 z)) v :=
 ints_rep hn h fun g hg o=>.inr ⟨Nat.le_trans hB (own_zone h hg).1,(own_zone h hg).2⟩
theorem swalk_c (n:Int) (rs:List RuleV) (pool:List PI) (l:List (Int × Int)) (vals:List (List Int)) (hl:pool.length≤1048576) (hvl:vals.length≤1048576) (hvv:∀v∈vals,v.length≤1048576) (hr:∀r∈rs,RIn r) (h20:varsE rs pool<20) :
  AT 19 [.agg [i64 n,rulesA rs],.sl 9 (pool.map itA),.sl 2 (l.map prA),rowsA vals] (.tup [.sl 1 ((walkE n rs pool l vals).1.map fun z=>i64 z),i64 (walkE n rs pool l vals).2]):=by
 refine ⟨⟨_,Tryz.func19,by kernel_rfl,by kernel_rfl⟩,fun w Z vs hE hz _ hrep=>?_⟩
 obtain ⟨v1,v2,v3,v4,rfl,q1,q2,q3,q4⟩:=rps4 hrep
 obtain ⟨x,rfl,qr⟩:=spec_val q1
 obtain ⟨Av,cv,rfl,hval⟩:=q4.row1 (fun d hd=>by obtain ⟨z,_,rfl⟩:=List.mem_map.1 hd;rfl)
 rw [List.length_map]at *
 clear hrep q1 q4
 change Calls Tryz.prog _ _ w _
 obtain ⟨Rs,hRs⟩:∃Rs,Rs=walkE n rs pool l vals:=⟨_,rfl⟩
 rw [←hRs]
 unfold walkE at hRs
 have err:∀(e:Int),Rs=([],e)→∀W,Below w.heap.size w W→∃v,Ending.returned (.tuple #[.slice none 0 0,.int .i64 e])=Ending.returned v∧Below w.heap.size w W∧Rep W (grown Z w W) (.tup [.sl 1 (Rs.1.map fun z=>i64 z),i64 Rs.2]) v:=fun e h W hb=>by
  subst h
  exact ⟨_,rfl,hb,rtup2 .nil (.lit rfl)⟩
 have HERR:=Lib.hid err
 clear err
 obtain ⟨W1,hW1⟩:∃W1,W1=w.alloc (.cells #[.int .i64 n,x] 24):=⟨_,rfl⟩
 have hB1:Below w.heap.size w W1:=by rw [hW1];exact (Below.refl _ _).alloc (Nat.le_refl _) _
 have hS1:W1.heap[w.heap.size]? = some (.cells #[.int .i64 n,x] 24 (0,0)):=by rw [hW1];exact heap_alloc_new w _
 have gv:((vals.length:Nat):Int)≤1048576:=by omega
 have HR0:=Lib.hid hRs
 clear hRs
 go_enter Tryz.func19,Tryz.ntmps19
 go_wp2_with (go_at_call 38;go_loud (rw [←hW1];refine (at_call hE (bvalid_c n rs) W1 Z _ hB1 (fun b o h=>Nat.lt_of_lt_of_le (hz b o h) hB1.size) (rep_1 (spec2_of (qr.keep (Keeps.ofBelow hB1) fun _ _ h=>h)))).mono ?_))
 first|rintro e w2 v rfl hb2 hr2|rintro e w2 ⟨v,rfl,hb2,hr2⟩
 obtain rfl:=hr2.lit_eq
 clear hW1 hr2
 have hB2:Below w.heap.size w w2:=hB1.trans (hb2.mono hB1.size)
 have hS2:=blk_call hS1 hb2
 have s0:w2.cell? ⟨w.heap.size,0,none⟩=some (.int .i64 n):=by rw [Lib.cell_of_heap hS2];rfl
 by_cases hs:specE n rs≠0
 ·have e:=HR0.out
  rw [if_pos hs]at e
  obtain ⟨te,hte⟩:∃te,te=specE n rs:=⟨_,rfl⟩
  rw [←hte]at e hs ⊢
  have HE:=Lib.hid e
  clear e hte hval
  go_wp2
  go_ret2
  exact HERR.out te HE.out _ hB2
 have e:=HR0.out
 rw [if_neg hs]at e
 have hs0:specE n rs=0:=Classical.not_not.1 hs
 have hn18:=spec_n hs0
 rw [hs0]
 have HR1:=Lib.hid e
 clear e HR0 hs hs0
 by_cases hlen:((vals.length:Nat):Int)≠n
 ·have e:=HR1.out
  rw [if_pos hlen]at e
  have HE:=Lib.hid e
  clear e hval
  go_wp2
  go_ret2
  exact HERR.out 1 HE.out _ hB2
 have e:=HR1.out
 rw [if_neg hlen]at e
 have hlen0:((vals.length:Nat):Int)=n:=Classical.not_not.1 hlen
 have HR2:=Lib.hid e
 have hv18:vals.length≤18:=by omega
 clear e HR1 hlen
 go_upto_region 6 with fail
 have HLEN:=Lib.hid hlen0
 clear hlen0 s0
 go_wp2
 go_loopw [11,28] (fun g i wl=>∃(k:Nat) (L:List Int),i=.int .i64 k∧k≤vals.length∧L.length=k∧Below w2.heap.size w2 wl∧wl.ownsRow w2.heap.size 3 1 g L.length (L.map (Value.int .i64))∧Rs=wlkE n rs pool l (vals.drop k) L) (fun _ i _=>vals.length-(intOf i).toNat)
 case atStart=>exact ⟨0,[],rfl,Nat.zero_le _,rfl,Below.refl _ _,World.ownsRow_nil _ _ _ _,HR2.out⟩
 case round =>
  obtain ⟨k,L,rfl,hk,hL,hbl,hown,hRk⟩:=hrel
  have hbw:Below w.heap.size w wr:=hB2.trans (hbl.mono hB2.size)
  by_cases hlt:k<vals.length
  ·
   as_aux_lemma =>
    obtain ⟨b,off,u,rfl,hc,_,hrp⟩:=hval k (by rw [List.length_map];exact hlt)
    rw [List.getElem_map]at hrp
    have fc:=cell_same (w':=wr) hc fun hb=>hbw.block _ hb
    rw [List.drop_eq_getElem_cons hlt]at hRk
    have hvk:=hvv _ (List.getElem_mem hlt)
    have hSr:=blk_call hS2 hbl
    have s0:wr.cell? ⟨w.heap.size,0,none⟩=some (.int .i64 n):=by rw [Lib.cell_of_heap hSr];rfl
    have s1:wr.cell? ⟨w.heap.size,1,none⟩=some x:=by rw [Lib.cell_of_heap hSr];rfl
    obtain ⟨vk,hvk'⟩:∃vk,vk=vals[k]:=⟨_,rfl⟩
    rw [←hvk']at hrp hRk hvk
    obtain ⟨A,c,ua,_⟩:=SlI.of_rep hrp
    have NX:=at_call hE (snext_c n rs pool l L vk hl hvk (by omega) hr h20) wr (grown Z w wr) #[.agg #[.int .i64 n,x],v2,v3,_,u] hbw (fun b o h=>by
     rcases h with h|h
     ·exact Nat.lt_of_lt_of_le (hz b o h) hbw.size
     ·exact h.2) (rep_5 (spec2_of (qr.keep (Keeps.ofBelow hbw) fun _ _ h=>.inl h)) (q2.keep (Keeps.ofBelow hbw) fun _ _ h=>.inl h) (q3.keep (Keeps.ofBelow hbw) fun _ _ h=>.inl h) (own_rep rfl hown hB2.size) (hrp.keep (Keeps.ofBelow hbw) fun _ _ h=>.inl h))
    subst ua
    have hst:Rs=if (nextE n rs pool l L vk).2≠0 then ([],(nextE n rs pool l L vk).2) else wlkE n rs pool l (vals.drop (k+1)) (L ++ [(nextE n rs pool l L vk).1]):=hRk
    generalize nextE n rs pool l L vk=N at *
    obtain ⟨N1,N2⟩:=N
    dsimp only at hst NX
    have HNX:=Lib.hid NX
    have HST:=Lib.hid hst
    have g1:((k:Nat):Int)<((vals.length:Nat):Int):=by omega
    clear hst hRk NX hval hc hrp hvk'
    go_wp2_with (go_at_call 14;go_loud (refine HNX.out.mono ?_))
    first|rintro e w3 v rfl hb3 hr3|rintro e w3 ⟨v,rfl,hb3,hr3⟩
    obtain ⟨y1,y2,rfl,r1,r2⟩:=tup2_val hr3
    obtain rfl:=r1.lit_eq
    obtain rfl:=r2.lit_eq
    clear hr3 r1 r2
    have hbl3:=hbl.trans (hb3.mono hbl.size)
    have hown3:=own_at hown (fun g _ hg=>hb3.block g hg)
    have hs3:=hbl3.size
    by_cases hN:N2≠0
    ·have e:=HST.out
     rw [if_pos hN]at e
     have HE:=Lib.hid e
     clear e
     go_wp2
     go_ret2
     exact HERR.out N2 HE.out _ (hB2.trans (hbl3.mono hB2.size))
    ·have e:=HST.out
     rw [if_neg hN]at e
     have hN0:N2=0:=Classical.not_not.1 hN
     subst hN0
     have HE:=Lib.hid e
     have hLL:=Lib.hid hL
     have hLk:L.length≤1048576:=by omega
     clear e hL
     go_wp2_with (at_builtin;(refine app_int (B0:=w2.heap.size) (w0:=w2) rfl _ _ rfl w2.heap.size _ L.length _ rfl (hown3.alloc _) N1 w3.heap.size rfl ?f1 (hbl3.alloc hbl3.size _) (Nat.le_refl _) ?f2 (by omega) ?_))
     case f1=>rw [Lib.cell_of_heap (heap_alloc_new w3 _)];rfl
     case f2=>first|omega|(simp;omega)
     intro v' w4 hown4 hB4 _
     go_wp2
     refine ⟨⟨k+1,L ++ [N1],by simp,by omega,by rw [List.length_append,hLL.out];rfl,hB4,?_,HE.out⟩,?_⟩
     ·rw [List.length_append,List.map_append]
      exact hown4
     ·simp only [intOf]
      omega
  ·obtain rfl:k=vals.length:=by omega
   have g1:¬((vals.length:Nat):Int)<((vals.length:Nat):Int):=by omega
   rw [List.drop_length]at hRk
   have hR:Rs=(L,0):=hRk
   have HR:=Lib.hid hR
   have HL:=Lib.hid hL
   clear hR hRk hval hL
   go_wp2
   go_ret2
   rw [HR.out]
   exact ⟨_,rfl,hbw,rtup2 (own_rep rfl hown hB2.size) (.lit rfl)⟩
def itK (i:Int):PI:=(i,[65],0,0,1,10,1,0,[[500,500]])
def poolK:List PI:=[itK 1,itK 2,itK 3]
abbrev intsA (l:List Int):AV:=.sl 1 (l.map fun z=>i64 z)
theorem rin0:∀r∈([]:List RuleV),RIn r:=fun _ h=>absurd h List.not_mem_nil
theorem v20:varsE [] poolK<20:=by decide
theorem test1:testE 2 [] poolK [] [1] [5,7,9]=([1,3],0):=by kernel_rfl
theorem free1:freeE poolK [5,9,9] [1,2,3] [2]=([3,1],0):=by kernel_rfl
theorem next1:nextE 2 [] poolK [] [1] [5,7,9]=(3,0):=by kernel_rfl
theorem next2:nextE 2 [] poolK [] [3,1] [5,7,9]=(0,21):=by kernel_rfl
theorem walk1:walkE 2 [] poolK [(2,3)] [[5,7,9],[5,900,9]]=([3,1],0):=by kernel_rfl
theorem lcont_w {w:World} {ex:Nat→Prop} {v:Value} {l:List Int} (h:SlI w ex v l) (hl:l.length≤1048576) (x:Int) :
  Calls Tryz.prog 24 #[v,.int .i64 x] w fun e w'=>e=.returned (.bool (decide (x∈l)))∧w'=w:=by
 obtain ⟨A,c,rfl,_,hA⟩:=h
 have g0:((l.length:Nat):Int)≤1048576:=by omega
 obtain ⟨R,hR⟩:∃R,R=decide (x∈l):=⟨_,rfl⟩
 rw [←hR]
 have HR:=Lib.hid hR
 clear hR
 go_enter Tryz.func24,Tryz.ntmps24
 go_wp2
 go_loopw [9] (fun i wl=>∃k:Nat,i=.int .i64 k∧k≤l.length∧wl=w∧x ∉ l.take k) (fun i _=>l.length-(intOf i).toNat)
 case atStart=>exact ⟨0,rfl,Nat.zero_le _,rfl,by simp⟩
 case round =>
  obtain ⟨k,rfl,hk,hw,hno⟩:=hrel
  subst wr
  by_cases hlt:k<l.length
  ·obtain ⟨b1,o1,rfl,_,c1⟩:=hA k hlt
   have g1:((k:Nat):Int)<((l.length:Nat):Int):=by omega
   have htk:=List.take_succ_eq_append_getElem hlt
   have hin:l[k]∈l:=List.getElem_mem hlt
   obtain ⟨z,hz⟩:∃z,z=l[k]:=⟨_,rfl⟩
   rw [←hz]at c1 htk hin
   have HT:=Lib.hid htk
   clear hz htk hA
   by_cases hx:z=x
   ·subst hx
    have e:R=true:=by rw [HR.out];exact decide_eq_true hin
    subst e
    go_wp2
    go_ret
    exact ⟨rfl,rfl⟩
   ·have hx2:(z == x)=false:=by simpa using hx
    go_wp2
    refine ⟨⟨k+1,by simp,by omega,by simp,?_⟩,?_⟩
    ·rw [HT.out]
     simp only [List.mem_append,List.mem_singleton,not_or]
     exact ⟨hno,fun e=>hx e.symm⟩
    ·simp only [intOf]
     omega
  ·obtain rfl:k=l.length:=by omega
   have g1:¬((l.length:Nat):Int)<((l.length:Nat):Int):=by omega
   rw [List.take_length]at hno
   have e:R=false:=by rw [HR.out];exact decide_eq_false hno
   subst e
   go_wp2
   go_ret
   exact ⟨rfl,rfl⟩
theorem lequal_w {w:World} {ex ex':Nat→Prop} {u v:Value} {l:List Int} (hu:SlI w ex u l) (hv:SlI w ex' v l) (hl:l.length≤1048576) :
  Calls Tryz.prog 16 #[u,v] w fun e w'=>e=.returned (.bool true)∧Below w.heap.size w w':=by
 obtain ⟨A,c,rfl,_,hA⟩:=hu
 obtain ⟨A',c',rfl,_,hA'⟩:=hv
 have g0:((l.length:Nat):Int)≤1048576:=by omega
 go_enter Tryz.func16,Tryz.ntmps16
 go_wp2
 go_loopw [13] (fun i wl=>∃k:Nat,i=.int .i64 k∧k≤l.length∧Below w.heap.size w wl) (fun i _=>l.length-(intOf i).toNat)
 case atStart=>exact ⟨0,rfl,Nat.zero_le _,Below.refl _ _⟩
 case round =>
  obtain ⟨k,rfl,hk,hb⟩:=hrel
  by_cases hlt:k<l.length
  ·obtain ⟨b1,o1,rfl,_,c1⟩:=hA k hlt
   obtain ⟨b2,o2,rfl,_,c2⟩:=hA' k hlt
   have d1:=cell_same (w':=wr) c1 fun h=>hb.block _ h
   have d2:=cell_same (w':=wr) c2 fun h=>hb.block _ h
   have g1:((k:Nat):Int)<((l.length:Nat):Int):=by omega
   generalize l[k]=z at *
   clear c1 c2 hA hA'
   go_wp2
   go_quiet (fail)
   go_wp2
   refine ⟨⟨k+1,by simp,by omega,below_drewN hb _⟩,?_⟩
   simp only [intOf]
   omega
  ·obtain rfl:k=l.length:=by omega
   have g1:¬((l.length:Nat):Int)<((l.length:Nat):Int):=by omega
   go_wp2
   go_ret
   exact ⟨rfl,hb⟩
theorem bounded_w {w:World} {n:Int} {A B:Option Addr} {r p c d:Nat} (hr:r≤1048576) (hp:p≤1048576) :
  Calls Tryz.prog 10 #[.agg #[.int .i64 n,.slice A r c],.slice B p d] w fun e w'=>e=.returned (.bool (decide (p≤9) && decide (r≤6)))∧Below w.heap.size w w':=by
 obtain ⟨W1,hW1⟩:∃W1,W1=w.alloc (.cells #[.int .i64 n,.slice A r c] 24):=⟨_,rfl⟩
 have hB1:Below w.heap.size w W1:=by rw [hW1];exact (Below.refl _ _).alloc (Nat.le_refl _) _
 have c1:W1.cell? ⟨w.heap.size,1,none⟩=some (.slice A r c):=by rw [hW1,Lib.cell_of_heap (heap_alloc_new w _)];rfl
 have gp:((p:Nat):Int)≤1048576:=by omega
 have gr:((r:Nat):Int)≤1048576:=by omega
 obtain ⟨R,hR⟩:∃R,R=(decide (p≤9) && decide (r≤6)):=⟨_,rfl⟩
 rw [←hR]
 have HR:=Lib.hid hR
 clear hR
 go_enter Tryz.func10,Tryz.ntmps10
 go_upto_region 1 with fail
 rw [←hW1]
 clear hW1
 by_cases h1:p≤9
 ·have g1:((p:Nat):Int)≤9:=by omega
  by_cases h2:r≤6
  ·have g2:((r:Nat):Int)≤6:=by omega
   have e:R=true:=by rw [HR.out,decide_eq_true h1,decide_eq_true h2];rfl
   subst e
   go_wp2
   go_ret
   exact ⟨rfl,hB1⟩
  ·have g2:¬((r:Nat):Int)≤6:=by omega
   have e:R=false:=by rw [HR.out,decide_eq_false h2,Bool.and_false]
   subst e
   go_wp2
   go_ret
   exact ⟨rfl,hB1⟩
 ·have g1:¬((p:Nat):Int)≤9:=by omega
  have e:R=false:=by rw [HR.out,decide_eq_false h1,Bool.false_and]
  subst e
  go_wp2
  go_ret
  exact ⟨rfl,hB1⟩
theorem posI_keep {pool:List PI} {x:Int} {i:Nat}:∀{k:Nat},k<pool.length→posI (pool.take (k+1)) x=(i:Nat)→posI pool x=(i:Nat):=by
 have key:∀(d k:Nat),k+d=pool.length→posI (pool.take k) x=(i:Nat)→posI pool x=(i:Nat):=by
  intro d
  induction d with
  | zero =>
   intro k hk h
   obtain rfl:k=pool.length:=by omega
   rw [List.take_length]at h
   exact h
  | succ d ih =>
   intro k hk h
   refine ih (k+1) (by omega) ?_
   rw [posI_take (show k<pool.length by omega),h,if_neg (by omega)]
 intro k hk h
 exact key (pool.length-(k+1)) (k+1) (by omega) h
def worthE (pool:List PI) (val:List Int) (id:Int):Int:=if posI pool id<0 then -1000001 else at0 val (posI pool id).toNat
theorem worth_w {w w0:World} {Z:Zone} {pool:List PI} {val:List Int} {pv vv:Value} (hb0:Below w0.heap.size w0 w) (hp:Rep w0 Z (.sl 9 (pool.map itA)) pv) {ex:Nat→Prop} (hv:SlI w ex vv val) (hlen:val.length=pool.length) (hl:pool.length≤1048576) (x:Int) :
  Calls Tryz.prog 25 #[pv,vv,.int .i64 x] w fun e w'=>e=.returned (.int .i64 (worthE pool val x))∧Below w.heap.size w w':=by
 obtain ⟨Ap,cp,rfl,hpg⟩:=items_row3 hp
 obtain ⟨Av,cv,rfl,_,hgv⟩:=hv
 obtain ⟨R,hR⟩:∃R,R=worthE pool val x:=⟨_,rfl⟩
 rw [←hR]
 have HR:=Lib.hid hR
 have HLEN:=Lib.hid hlen
 have gp:((pool.length:Nat):Int)≤1048576:=by omega
 have gv:((val.length:Nat):Int)≤1048576:=by omega
 clear hR hp hlen
 go_enter Tryz.func25,Tryz.ntmps25
 go_wp2
 go_loopw [11] (fun i wl=>∃k:Nat,i=.int .i64 k∧k≤pool.length∧Below w.heap.size w wl∧posI (pool.take k) x<0) (fun i _=>pool.length-(intOf i).toNat)
 case atStart=>exact ⟨0,rfl,Nat.zero_le _,Below.refl _ _,by show (-1:Int)<0;decide⟩
 case round =>
  obtain ⟨k,rfl,hk,hbl,hno⟩:=hrel
  by_cases hlt:k<pool.length
  ·obtain ⟨b,off,v8,rfl,hcell,_,A8,n8,c8,rfl⟩:=hpg k hlt
   obtain ⟨bv,ov,rfl,_,dv⟩:=hgv k (by have:=HLEN.out;omega)
   have hbw:Below w0.heap.size w0 wr:=hb0.trans (hbl.mono hb0.size)
   have fv:=cell_same (w':=wr) dv fun h=>hbl.block _ h
   have hst:=posI_take hlt x
   rw [if_pos hno]at hst
   have hyes:pool[k].1=x→R=val[k]'(by have:=HLEN.out;omega):=fun e=>by
    rw [HR.out]
    unfold worthE
    have h2:posI (pool.take (k+1)) x=(k:Nat):=by rw [hst,if_pos e]
    have h3:posI pool x=(k:Nat):=posI_keep hlt h2
    rw [h3,if_neg (by omega),Int.toNat_natCast]
    exact at0_get _
   have hnot:¬pool[k].1=x→posI (pool.take (k+1)) x<0:=fun e=>by rw [hst,if_neg e];decide
   obtain ⟨a,ha⟩:∃a,a=val[k]'(by have:=HLEN.out;omega):=⟨_,rfl⟩
   rw [←ha]at fv hyes
   have HY:=Lib.hid hyes
   have HN:=Lib.hid hnot
   clear ha hst hpg dv hyes hnot hgv
   obtain ⟨t,ht⟩:∃t,t=pool[k]:=⟨_,rfl⟩
   rw [←ht]at HY HN hcell
   clear ht
   obtain ⟨y1,y2,y3,y4,y5,y6,y7,y8,y9⟩:=t
   have cf:∀j u,(itVs (y1,y2,y3,y4,y5,y6,y7,y8,y9) ++ [.slice A8 n8 c8])[j]? = some u→wr.cell? ⟨b,off+k*9+j,none⟩=some u:=fun j u h=>(hbw.cell (p:=⟨b,off+k*9+j,none⟩) (World.block_lt_of_cell? w0 _ (hcell j u h))).trans (hcell j u h)
   have d0:=cf 0 _ rfl
   have d1:=cf 1 _ rfl
   have d2:=cf 2 _ rfl
   have d3:=cf 3 _ rfl
   have d4:=cf 4 _ rfl
   have d5:=cf 5 _ rfl
   have d6:=cf 6 _ rfl
   have d7:=cf 7 _ rfl
   have d8:=cf 8 _ rfl
   rw [Nat.add_zero]at d0
   clear cf hcell
   have g2:((k:Nat):Int)<((pool.length:Nat):Int):=by omega
   have g3:((k:Nat):Int)<((val.length:Nat):Int):=by have:=HLEN.out;omega
   go_upto_region 4 with fail
   obtain ⟨V,hV⟩:∃V,V=wr.heap.size:=⟨_,rfl⟩
   obtain ⟨X,hX⟩:∃X,X=wr.alloc (.cells #[.int .i64 y1,.string (bs y2),.int .i64 y3,.int .i64 y4,.int .i64 y5,.int .i64 y6,.int .i64 y7,.int .i64 y8,.slice A8 n8 c8] 63):=⟨_,rfl⟩
   have hbX:Below wr.heap.size wr X:=by rw [hX];exact (Below.refl _ _).alloc (Nat.le_refl _) _
   have c0:X.cell? ⟨V,0,none⟩=some (.int .i64 y1):=by rw [hX,hV,Lib.cell_of_heap (heap_alloc_new wr _)];rfl
   have fX:=cell_same (w':=X) fv fun h=>hbX.block _ h
   have hbX2:=hbl.trans (hbX.mono hbl.size)
   rw [←hX,←hV]
   clear hX hV d0 d1 d2 d3 d4 d5 d6 d7 d8 fv hbX hbl hbw
   by_cases he:y1=x
   ·have q:(y1 == x)=true:=by simpa using he
    have e:R=a:=HY.out he
    subst e
    go_wp2
    go_ret
    exact ⟨rfl,hbX2⟩
   ·have q:(y1 == x)=false:=by simpa using he
    go_wp2
    refine ⟨⟨k+1,by simp,by omega,hbX2,HN.out he⟩,?_⟩
    simp only [intOf]
    omega
  ·obtain rfl:k=pool.length:=by omega
   rw [List.take_length]at hno
   have g2:¬((pool.length:Nat):Int)<((pool.length:Nat):Int):=by omega
   have e:R = -1000001:=by rw [HR.out];unfold worthE;rw [if_pos hno]
   subst e
   go_wp2
   go_ret
   exact ⟨rfl,hbl⟩
theorem sample_c:AT 26 [] (.sl 9 (poolK.map itA)):=by
 have w2:IntKind.i64.wrap 2=2:=by decide
 have w3:IntKind.i64.wrap 3=3:=by decide
 have w4:IntKind.i64.wrap 4=4:=by decide
 refine ACalls.of ⟨3,[],[]⟩ (fn:=Tryz.f26) Tryz.func26 rfl rfl rfl (by kernel_rfl) (by kernel_rfl) (Nat.le_of_ble_eq_true rfl) ?_
 simp (maxSteps:=1000000) -implicitDefEqProofs only [go_sem,awp_seq,Nat.reduceBNe,Nat.reduceBEq,Nat.reduceAdd,Nat.reduceSub,Nat.reduceMul,Nat.reduceLeDiff,Nat.reduceLT,Nat.reduceEqDiff,Nat.reduceBneDiff,Int.reduceLE,Int.reduceLT,Int.reduceToNat,Int.reduceBEq,Int.reduceBNe,Int.reduceAdd,Int.reduceSub,Int.cast_ofNat_Int]
 refine loop_mk (α:={k:Nat // k≤3}) (fun k=>[(0,some (.av (.lit (.slice none 0 0)))),(1,some (bif k.1 == 0 then .av (.lit (.slice none 0 0)) else .osl 14 9 0 k.1)),(2,some (.av (i64 ((k.1:Nat)+1))))]) (fun _=>[]) (fun k=>bif k.1 == 0 then [] else [(14,.row 63 9 ((poolK.take k.1).map itA))]) (fun k=>3-k.1) ⟨0,by decide⟩ ?_ ?_
 ·simp (maxSteps:=1000000) -implicitDefEqProofs only [go_sem,awp_seq,Nat.reduceBNe,Nat.reduceBEq,Nat.reduceAdd,Nat.reduceSub,Nat.reduceMul,Nat.reduceLeDiff,Nat.reduceLT,Nat.reduceEqDiff,Nat.reduceBneDiff,Int.reduceLE,Int.reduceLT,Int.reduceToNat,Int.reduceBEq,Int.reduceBNe,Int.reduceAdd,Int.reduceSub,Int.cast_ofNat_Int]
 ·have e1:(poolK.take 1).map itA=[itA (itK 1)]:=rfl
  have e2:(poolK.take 2).map itA=[itA (itK 1),itA (itK 2)]:=rfl
  have e3:(poolK.take 3).map itA=[itA (itK 1),itA (itK 2),itA (itK 3)]:=rfl
  rintro ⟨k,hk⟩
  match k,hk with
  | 0,_ =>
   simp (maxSteps:=1000000) -implicitDefEqProofs only [w2,go_sem,awp_seq,Nat.reduceBNe,Nat.reduceBEq,Nat.reduceAdd,Nat.reduceSub,Nat.reduceMul,Nat.reduceLeDiff,Nat.reduceLT,Nat.reduceEqDiff,Nat.reduceBneDiff,Int.reduceLE,Int.reduceLT,Int.reduceToNat,Int.reduceBEq,Int.reduceBNe,Int.reduceAdd,Int.reduceSub,Int.cast_ofNat_Int]
   refine roundK_mk ⟨1,by decide⟩ ?_ (by show 3-1<3-0;decide)
   simp (maxSteps:=1000000) -implicitDefEqProofs only [go_sem,awp_seq,Nat.reduceBNe,Nat.reduceBEq,Nat.reduceAdd,Nat.reduceSub,Nat.reduceMul,Nat.reduceLeDiff,Nat.reduceLT,Nat.reduceEqDiff,Nat.reduceBneDiff,Int.reduceLE,Int.reduceLT,Int.reduceToNat,Int.reduceBEq,Int.reduceBNe,Int.reduceAdd,Int.reduceSub,Int.cast_ofNat_Int]
   rfl
  | 1,_ =>
   simp (maxSteps:=1000000) -implicitDefEqProofs only [w3,e1,go_sem,awp_seq,Nat.reduceBNe,Nat.reduceBEq,Nat.reduceAdd,Nat.reduceSub,Nat.reduceMul,Nat.reduceLeDiff,Nat.reduceLT,Nat.reduceEqDiff,Nat.reduceBneDiff,Int.reduceLE,Int.reduceLT,Int.reduceToNat,Int.reduceBEq,Int.reduceBNe,Int.reduceAdd,Int.reduceSub,Int.cast_ofNat_Int]
   refine roundK_mk ⟨2,by decide⟩ ?_ (by show 3-2<3-1;decide)
   simp (maxSteps:=1000000) -implicitDefEqProofs only [go_sem,awp_seq,Nat.reduceBNe,Nat.reduceBEq,Nat.reduceAdd,Nat.reduceSub,Nat.reduceMul,Nat.reduceLeDiff,Nat.reduceLT,Nat.reduceEqDiff,Nat.reduceBneDiff,Int.reduceLE,Int.reduceLT,Int.reduceToNat,Int.reduceBEq,Int.reduceBNe,Int.reduceAdd,Int.reduceSub,Int.cast_ofNat_Int]
   rfl
  | 2,_ =>
   simp (maxSteps:=1000000) -implicitDefEqProofs only [w4,e2,go_sem,awp_seq,Nat.reduceBNe,Nat.reduceBEq,Nat.reduceAdd,Nat.reduceSub,Nat.reduceMul,Nat.reduceLeDiff,Nat.reduceLT,Nat.reduceEqDiff,Nat.reduceBneDiff,Int.reduceLE,Int.reduceLT,Int.reduceToNat,Int.reduceBEq,Int.reduceBNe,Int.reduceAdd,Int.reduceSub,Int.cast_ofNat_Int]
   refine roundK_mk ⟨3,by decide⟩ ?_ (by show 3-3<3-2;decide)
   simp (maxSteps:=1000000) -implicitDefEqProofs only [go_sem,awp_seq,Nat.reduceBNe,Nat.reduceBEq,Nat.reduceAdd,Nat.reduceSub,Nat.reduceMul,Nat.reduceLeDiff,Nat.reduceLT,Nat.reduceEqDiff,Nat.reduceBneDiff,Int.reduceLE,Int.reduceLT,Int.reduceToNat,Int.reduceBEq,Int.reduceBNe,Int.reduceAdd,Int.reduceSub,Int.cast_ofNat_Int]
   rfl
  | 3,_ =>
   simp (maxSteps:=1000000) -implicitDefEqProofs only [e3,go_sem,awp_seq,Nat.reduceBNe,Nat.reduceBEq,Nat.reduceAdd,Nat.reduceSub,Nat.reduceMul,Nat.reduceLeDiff,Nat.reduceLT,Nat.reduceEqDiff,Nat.reduceBneDiff,Int.reduceLE,Int.reduceLT,Int.reduceToNat,Int.reduceBEq,Int.reduceBNe,Int.reduceAdd,Int.reduceSub,Int.cast_ofNat_Int]
   rfl
theorem lequal_c (l:List Int) (hl:l.length≤1048576):AT 16 [intsA l,intsA l] (boo true):=by
 refine ⟨⟨_,Tryz.func16,by kernel_rfl,by kernel_rfl⟩,fun w Z vs hE hz _ hrep=>?_⟩
 obtain ⟨v1,v2,rfl,q1,q2⟩:=reps2 hrep
 refine (lequal_w (SlI.of_rep q1) (SlI.of_rep q2) hl).mono ?_
 rintro e w' ⟨rfl,hb⟩
 exact ⟨_,rfl,hb,.lit rfl⟩
theorem awake_c:AC 11 [] (boo true):=by
 have S:=sample_c.ofT
 have T1:=stest_c 2 [] poolK [] [1] [5,7,9] (by decide) (by decide) (by decide) rin0 v20
 have N1:=snext_c 2 [] poolK [] [1] [5,7,9] (by decide) (by decide) (by decide) rin0 v20
 have N2:=snext_c 2 [] poolK [] [3,1] [5,7,9] (by decide) (by decide) (by decide) rin0 v20
 have F1:=sfree_c poolK [5,9,9] [1,2,3] [2] (by decide) (by decide) (by decide) (by decide) (by decide) (by decide)
 have K1:=swalk_c 2 [] poolK [(2,3)] [[5,7,9],[5,900,9]] (by decide) (by decide) (by decide) rin0 v20
 rw [test1]at T1
 rw [next1]at N1
 rw [next2]at N2
 rw [free1]at F1
 rw [walk1]at K1
 have E1:=lequal_c [1,3] (by decide)
 have E2:=lequal_c [3,1] (by decide)
 refine ACalls.of ⟨12,[],[]⟩ (fn:=Tryz.f11) Tryz.func11 rfl rfl rfl (by kernel_rfl) (by kernel_rfl) (Nat.le_of_ble_eq_true rfl) ?_
 simp (maxSteps:=1000000) -implicitDefEqProofs only [go_sem,awp_seq,Nat.reduceBNe,Nat.reduceBEq,Nat.reduceAdd,Nat.reduceSub,Nat.reduceMul,Nat.reduceLeDiff,Nat.reduceLT,Nat.reduceEqDiff,Nat.reduceBneDiff,Int.reduceLE,Int.reduceLT,Int.reduceToNat,Int.reduceBEq,Int.reduceBNe,Int.reduceAdd,Int.reduceSub,Int.cast_ofNat_Int]
 refine callA_mk S ?_
 simp (maxSteps:=1000000) -implicitDefEqProofs only [go_sem,awp_seq,Nat.reduceBNe,Nat.reduceBEq,Nat.reduceAdd,Nat.reduceSub,Nat.reduceMul,Nat.reduceLeDiff,Nat.reduceLT,Nat.reduceEqDiff,Nat.reduceBneDiff,Int.reduceLE,Int.reduceLT,Int.reduceToNat,Int.reduceBEq,Int.reduceBNe,Int.reduceAdd,Int.reduceSub,Int.cast_ofNat_Int]
 refine callA_mk T1.ofT ?_
 simp (maxSteps:=1000000) -implicitDefEqProofs only [go_sem,awp_seq,Nat.reduceBNe,Nat.reduceBEq,Nat.reduceAdd,Nat.reduceSub,Nat.reduceMul,Nat.reduceLeDiff,Nat.reduceLT,Nat.reduceEqDiff,Nat.reduceBneDiff,Int.reduceLE,Int.reduceLT,Int.reduceToNat,Int.reduceBEq,Int.reduceBNe,Int.reduceAdd,Int.reduceSub,Int.cast_ofNat_Int]
 refine callA_mk S ?_
 simp (maxSteps:=1000000) -implicitDefEqProofs only [go_sem,awp_seq,Nat.reduceBNe,Nat.reduceBEq,Nat.reduceAdd,Nat.reduceSub,Nat.reduceMul,Nat.reduceLeDiff,Nat.reduceLT,Nat.reduceEqDiff,Nat.reduceBneDiff,Int.reduceLE,Int.reduceLT,Int.reduceToNat,Int.reduceBEq,Int.reduceBNe,Int.reduceAdd,Int.reduceSub,Int.cast_ofNat_Int]
 refine callA_mk F1.ofT ?_
 simp (maxSteps:=1000000) -implicitDefEqProofs only [go_sem,awp_seq,Nat.reduceBNe,Nat.reduceBEq,Nat.reduceAdd,Nat.reduceSub,Nat.reduceMul,Nat.reduceLeDiff,Nat.reduceLT,Nat.reduceEqDiff,Nat.reduceBneDiff,Int.reduceLE,Int.reduceLT,Int.reduceToNat,Int.reduceBEq,Int.reduceBNe,Int.reduceAdd,Int.reduceSub,Int.cast_ofNat_Int]
 refine callA_mk S ?_
 simp (maxSteps:=1000000) -implicitDefEqProofs only [go_sem,awp_seq,Nat.reduceBNe,Nat.reduceBEq,Nat.reduceAdd,Nat.reduceSub,Nat.reduceMul,Nat.reduceLeDiff,Nat.reduceLT,Nat.reduceEqDiff,Nat.reduceBneDiff,Int.reduceLE,Int.reduceLT,Int.reduceToNat,Int.reduceBEq,Int.reduceBNe,Int.reduceAdd,Int.reduceSub,Int.cast_ofNat_Int]
 refine callA_mk N1.ofT ?_
 simp (maxSteps:=1000000) -implicitDefEqProofs only [go_sem,awp_seq,Nat.reduceBNe,Nat.reduceBEq,Nat.reduceAdd,Nat.reduceSub,Nat.reduceMul,Nat.reduceLeDiff,Nat.reduceLT,Nat.reduceEqDiff,Nat.reduceBneDiff,Int.reduceLE,Int.reduceLT,Int.reduceToNat,Int.reduceBEq,Int.reduceBNe,Int.reduceAdd,Int.reduceSub,Int.cast_ofNat_Int]
 refine callA_mk S ?_
 simp (maxSteps:=1000000) -implicitDefEqProofs only [go_sem,awp_seq,Nat.reduceBNe,Nat.reduceBEq,Nat.reduceAdd,Nat.reduceSub,Nat.reduceMul,Nat.reduceLeDiff,Nat.reduceLT,Nat.reduceEqDiff,Nat.reduceBneDiff,Int.reduceLE,Int.reduceLT,Int.reduceToNat,Int.reduceBEq,Int.reduceBNe,Int.reduceAdd,Int.reduceSub,Int.cast_ofNat_Int]
 refine callA_mk K1.ofT ?_
 simp (maxSteps:=1000000) -implicitDefEqProofs only [go_sem,awp_seq,Nat.reduceBNe,Nat.reduceBEq,Nat.reduceAdd,Nat.reduceSub,Nat.reduceMul,Nat.reduceLeDiff,Nat.reduceLT,Nat.reduceEqDiff,Nat.reduceBneDiff,Int.reduceLE,Int.reduceLT,Int.reduceToNat,Int.reduceBEq,Int.reduceBNe,Int.reduceAdd,Int.reduceSub,Int.cast_ofNat_Int]
 refine callA_mk S ?_
 simp (maxSteps:=1000000) -implicitDefEqProofs only [go_sem,awp_seq,Nat.reduceBNe,Nat.reduceBEq,Nat.reduceAdd,Nat.reduceSub,Nat.reduceMul,Nat.reduceLeDiff,Nat.reduceLT,Nat.reduceEqDiff,Nat.reduceBneDiff,Int.reduceLE,Int.reduceLT,Int.reduceToNat,Int.reduceBEq,Int.reduceBNe,Int.reduceAdd,Int.reduceSub,Int.cast_ofNat_Int]
 refine callA_mk N2.ofT ?_
 simp (maxSteps:=1000000) -implicitDefEqProofs only [go_sem,awp_seq,Nat.reduceBNe,Nat.reduceBEq,Nat.reduceAdd,Nat.reduceSub,Nat.reduceMul,Nat.reduceLeDiff,Nat.reduceLT,Nat.reduceEqDiff,Nat.reduceBneDiff,Int.reduceLE,Int.reduceLT,Int.reduceToNat,Int.reduceBEq,Int.reduceBNe,Int.reduceAdd,Int.reduceSub,Int.cast_ofNat_Int]
 refine callA_mk E1.ofT ?_
 simp (maxSteps:=1000000) -implicitDefEqProofs only [go_sem,awp_seq,Nat.reduceBNe,Nat.reduceBEq,Nat.reduceAdd,Nat.reduceSub,Nat.reduceMul,Nat.reduceLeDiff,Nat.reduceLT,Nat.reduceEqDiff,Nat.reduceBneDiff,Int.reduceLE,Int.reduceLT,Int.reduceToNat,Int.reduceBEq,Int.reduceBNe,Int.reduceAdd,Int.reduceSub,Int.cast_ofNat_Int]
 refine callA_mk E2.ofT ?_
 simp (maxSteps:=1000000) -implicitDefEqProofs only [go_sem,awp_seq,Nat.reduceBNe,Nat.reduceBEq,Nat.reduceAdd,Nat.reduceSub,Nat.reduceMul,Nat.reduceLeDiff,Nat.reduceLT,Nat.reduceEqDiff,Nat.reduceBneDiff,Int.reduceLE,Int.reduceLT,Int.reduceToNat,Int.reduceBEq,Int.reduceBNe,Int.reduceAdd,Int.reduceSub,Int.cast_ofNat_Int]
 refine callA_mk E2.ofT ?_
 simp (maxSteps:=1000000) -implicitDefEqProofs only [go_sem,awp_seq,Nat.reduceBNe,Nat.reduceBEq,Nat.reduceAdd,Nat.reduceSub,Nat.reduceMul,Nat.reduceLeDiff,Nat.reduceLT,Nat.reduceEqDiff,Nat.reduceBneDiff,Int.reduceLE,Int.reduceLT,Int.reduceToNat,Int.reduceBEq,Int.reduceBNe,Int.reduceAdd,Int.reduceSub,Int.cast_ofNat_Int]
theorem SlI.take {w:World} {ex:Nat→Prop} {A:Option Addr} {c:Nat} {l:List Int} (h:SlI w ex (.slice A l.length c) l) {k:Nat} (hk:k≤l.length):SlI w ex (.slice A k c) (l.take k):=by
 obtain ⟨A',c',e,hc,hA⟩:=h
 cases e
 have hlen:(l.take k).length=k:=by rw [List.length_take];omega
 refine ⟨A,c,by rw [hlen],by rw [hlen];omega,fun i hi=>?_⟩
 rw [hlen]at hi
 obtain ⟨b,off,e1,e2,e3⟩:=hA i (by omega)
 refine ⟨b,off,e1,e2,?_⟩
 rw [e3,List.getElem_take]
theorem free_facts {pool:List PI} {val test given L:List Int} (h:freeE pool val test given=(L,0)):val.length=pool.length∧(∀x∈test,0≤posI pool x)∧L.Nodup∧(∀x,x∈L ↔ x∈test∧x ∉ given)∧L.Pairwise fun a b=>ltF pool val a b=true:=by
 unfold freeE at h
 by_cases h1:val.length≠pool.length
 ·rw [if_pos h1]at h;injection h with _ h;cases h
 rw [if_neg h1]at h
 by_cases h2:val.any badV=true
 ·rw [if_pos h2]at h;injection h with _ h;cases h
 rw [if_neg h2]at h
 by_cases h3:test.any (fun id=>decide (posI pool id<0))=true
 ·rw [if_pos h3]at h;injection h with _ h;cases h
 rw [if_neg h3]at h
 by_cases h4:given.any (fun id=>decide (posI pool id<0))=true
 ·rw [if_pos h4]at h;injection h with _ h;cases h
 rw [if_neg h4]at h
 injection h with h _
 have hp:L.Perm (leftE test given):=by rw [←h];exact isrt_perm _
 refine ⟨Classical.not_not.1 h1,fun x hx=>?_,hp.nodup_iff.2 (left_nodup _ _),fun x=>by rw [hp.mem_iff,left_mem],?_⟩
 ·have h5:¬decide (posI pool x<0)=true:=fun h6=>h3 (List.any_eq_true.2 ⟨x,hx,h6⟩)
  simpa using h5
 ·rw [←h]
  exact isrt_sorted (ltF_trans pool val) (ltF_tot pool val) _ (left_nodup _ _)
theorem free_err {pool:List PI} {val test given:List Int} (h:(freeE pool val test given).2≠0):(freeE pool val test given).1=[]:=by
 unfold freeE at h ⊢
 split
 ·rfl
 ·rename_i h1
  rw [if_neg h1]at h
  split
  ·rfl
  ·rename_i h2
   rw [if_neg h2]at h
   split
   ·rfl
   ·rename_i h3
    rw [if_neg h3]at h
    split
    ·rfl
    ·rename_i h4
     rw [if_neg h4]at h
     exact absurd rfl h
theorem worth_wm {pool:List PI} {val:List Int} {x:Int} (h:0≤posI pool x):worthE pool val x=wmE pool val x:=by
 unfold worthE wmE
 rw [if_neg (by omega),if_neg (by omega)]
theorem ndp_le:∀l:List Int,(ndp l).length≤l.length
 | []=>Nat.le_refl _
 | a :: l=>by
  have:=ndp_le l
  unfold ndp
  split <;> simp <;> omega
theorem freeE_len {pool:List PI} {val test given:List Int}:(freeE pool val test given).1.length≤test.length:=by
 by_cases h:(freeE pool val test given).2=0
 ·have h2:=free_facts (show freeE pool val test given=((freeE pool val test given).1,0)by rw [←h])
  have hp:(freeE pool val test given).1.Perm (leftE test given):=(List.perm_ext_iff_of_nodup h2.2.2.1 (left_nodup _ _)).2 fun x=>by rw [h2.2.2.2.1 x,left_mem]
  rw [hp.length_eq]
  exact Nat.le_trans (ndp_le _) (List.length_filter_le _ _)
 ·rw [free_err h]
  exact Nat.zero_le _
theorem order_c (pool:List PI) (val test given:List Int) (hl:pool.length≤1048576) (hvl:val.length≤1048576) (htl:test.length≤1048576) (hgl:given.length≤1048576) (hti:∀z∈test,(Lit.int .i64 z).wf=true) (hgi:∀z∈given,(Lit.int .i64 z).wf=true) :
  AC 9 [.sl 9 (pool.map itA),.sl 1 (val.map fun z=>i64 z),.sl 1 (test.map fun z=>i64 z),.sl 1 (given.map fun z=>i64 z)] (boo true):=by
 refine ⟨⟨_,Tryz.func9,by kernel_rfl,by kernel_rfl⟩,fun w Z vs hE hz hal hrep=>?_⟩
 have hal:AllLimbs Z w:=hal rfl
 obtain ⟨v1,v2,v3,v4,rfl,q1,q2,q3,q4⟩:=rps4 hrep
 change Calls Tryz.prog _ _ w _
 have AW:∀X,Below w.heap.size w X→Calls Tryz.prog 11 #[] X fun e w'=>e=.returned (.bool true)∧Below X.heap.size X w':=fun X hX=>by
  refine (ac_call hE hz hal awake_c X _ hX (.agg rfl fun j hj=>absurd hj (by simp))).mono ?_
  rintro e w2 ⟨u,rfl,hb2,hr2⟩
  obtain rfl:=hr2.lit_eq
  exact ⟨rfl,hb2⟩
 have HAW:=Lib.hid AW
 have FR:=at_call hE (sfree_c pool val test given hl hvl htl hgl hti hgi) w Z #[v1,v2,v3,v4] (Below.refl _ _) hz (rep_4 q1 q2 q3 q4)
 have hFl:=freeE_len (pool:=pool) (val:=val) (test:=test) (given:=given)
 have hFE:=free_err (pool:=pool) (val:=val) (test:=test) (given:=given)
 have hFF:=fun L=>free_facts (pool:=pool) (val:=val) (test:=test) (given:=given) (L:=L)
 generalize freeE pool val test given=F at *
 obtain ⟨L,fe⟩:=F
 dsimp only at FR hFl hFE
 have hti2:=SlI.of_rep q3
 have hgi2:=SlI.of_rep q4
 have hvi2:=SlI.of_rep q2
 obtain ⟨Ap,cp,rfl,_⟩:=items_row3 q1
 obtain ⟨At,ct,rfl⟩:=hti2.len
 have HFR:=Lib.hid FR
 have HFF:=Lib.hid hFF
 have HFE:=Lib.hid hFE
 clear FR hFF hFE AW hrep q2 q3 q4 hal
 have gt:((test.length:Nat):Int)≤1048576:=by omega
 have gL:((L.length:Nat):Int)≤1048576:=by omega
 go_enter Tryz.func9,Tryz.ntmps9
 go_wp2_with (go_at_call 17;go_loud (refine HFR.out.mono ?_))
 first|rintro e w2 v rfl hb2 hr2|rintro e w2 ⟨v,rfl,hb2,hr2⟩
 obtain ⟨x,y,rfl,r1,r2⟩:=tup2_val hr2
 obtain rfl:=r2.lit_eq
 have hLi:=SlI.of_rep r1
 obtain ⟨AL,cL,rfl⟩:=hLi.len
 clear hr2 r1 r2
 by_cases hfe:fe≠0
 ·have e:=HFE.out hfe
  subst e
  have HA:=Lib.hid (HAW.out w2 hb2)
  clear hLi hti2 hgi2 hvi2 gL
  go_wp2_with (go_at_call 11;go_loud (refine HA.out.mono ?_))
  intro e w3 h0
  first|(have hb3:=And.right h0;have he:=And.left h0)|(intro hb3;have he:=h0)
  subst he
  go_wp2
  go_ret
  exact ⟨_,rfl,hb2.trans (hb3.mono hb2.size),.lit rfl⟩
 have hfe0:fe=0:=Classical.not_not.1 hfe
 subst hfe0
 obtain ⟨f1,f2,f3,f4,f5⟩:=HFF.out L rfl
 have F1:=Lib.hid f1
 have F2:=Lib.hid f2
 have F3:=Lib.hid f3
 have F4:=Lib.hid f4
 have F5:=Lib.hid f5
 clear f1 f2 f3 f4 f5 hfe HFE HFF HFR
 have keep:∀{X:World} {v:Value} {l:List Int},Below w2.heap.size w2 X→SlI w (fun b=>b<w.heap.size) v l→SlI X (fun b=>b<X.heap.size) v l:=fun {X v l} hX h=>h.keep fun b h1 h2=>⟨(hX.block b (Nat.lt_of_lt_of_le h2 hb2.size)).trans (hb2.block b h2),by have:=hb2.size;have:=hX.size;omega⟩
 have CT:∀X,Below w2.heap.size w2 X→∀id,Calls Tryz.prog 24 #[.slice At test.length ct,.int .i64 id] X fun e w'=>e=.returned (.bool (decide (id∈test)))∧w'=X:=fun X hX id=>lcont_w (keep hX hti2) htl id
 have CG:∀X,Below w2.heap.size w2 X→∀id,Calls Tryz.prog 24 #[v4,.int .i64 id] X fun e w'=>e=.returned (.bool (decide (id∈given)))∧w'=X:=fun X hX id=>lcont_w (keep hX hgi2) hgl id
 have keepL:∀{X:World},Below w2.heap.size w2 X→SlI X (fun b=>b<X.heap.size) (.slice AL L.length cL) L:=fun {X} hX=>hLi.keep fun b h1 h2=>⟨hX.block b h2,by have:=hX.size;omega⟩
 have CL:∀X,Below w2.heap.size w2 X→∀k,k≤L.length→∀id,Calls Tryz.prog 24 #[.slice AL k cL,.int .i64 id] X fun e w'=>e=.returned (.bool (decide (id∈L.take k)))∧w'=X:=fun X hX k hk id=>lcont_w ((keepL hX).take hk) (by rw [List.length_take];omega) id
 have WO:∀X,Below w2.heap.size w2 X→∀id,Calls Tryz.prog 25 #[.slice Ap pool.length cp,v2,.int .i64 id] X fun e w'=>e=.returned (.int .i64 (worthE pool val id))∧Below X.heap.size X w':=fun X hX id=>by
  exact worth_w (hb2.trans (hX.mono hb2.size)) q1 (keep hX hvi2) F1.out hl id
 have HCT:=Lib.hid CT
 have HCG:=Lib.hid CG
 have HCL:=Lib.hid CL
 have HWO:=Lib.hid WO
 obtain ⟨_,_,eL,hcL,hgL⟩:=hLi
 cases eL
 obtain ⟨_,_,et,hct,hgt⟩:=hti2
 cases et
 clear CT CG CL WO keep keepL hgi2 hvi2 q1
 go_wp2
 go_loopw [35] (fun i wl=>∃k:Nat,i=.int .i64 k∧k≤L.length∧Below w2.heap.size w2 wl) (fun i _=>L.length-(intOf i).toNat)
 case atStart=>exact ⟨0,rfl,Nat.zero_le _,Below.refl _ _⟩
 case round =>
  obtain ⟨k,rfl,hk,hbl⟩:=hrel
  by_cases hlt:k<L.length
  ·
   as_aux_lemma =>
    obtain ⟨b1,o1,rfl,_,c1⟩:=hgL k hlt
    have d1:=cell_same (w':=wr) c1 fun h=>hbl.block _ h
    have hin:=(F4.out L[k]).1 (List.getElem_mem hlt)
    have C1:=HCT.out wr hbl L[k]
    have C2:=HCG.out wr hbl L[k]
    have C3:=HCL.out wr hbl k hk L[k]
    rw [decide_eq_true hin.1]at C1
    rw [decide_eq_false hin.2]at C2
    have hnt:L[k] ∉ L.take k:=((nodup_take hlt).1 (nodup_of_take F3.out)).2
    rw [decide_eq_false hnt]at C3
    have g1:((k:Nat):Int)<((L.length:Nat):Int):=by omega
    have W2:=fun X hX=>HWO.out X hX L[k]
    have hp2:=worth_wm (val:=val) (F2.out _ hin.1)
    rw [hp2]at W2
    by_cases hk0:k=0
    ·have s3:(((k:Nat):Int) == 0)=true:=by rw [beq_iff_eq];omega
     have hk1:k+1≤L.length:=by omega
     have hgk:k≤1048576:=by omega
     obtain ⟨z,hz'⟩:∃z,z=L[k]:=⟨_,rfl⟩
     rw [←hz']at d1 C1 C2 C3
     have H1:=Lib.hid C1
     have H2:=Lib.hid C2
     have H3:=Lib.hid C3
     clear C1 C2 C3 c1 hgL hz' W2 hp2 hin hnt hgt hk0
     go_wp2_with (go_at_call 24;first|(with_reducible refine H1.out.mono ?_;rintro e w3 ⟨rfl,rfl⟩)|(with_reducible refine H2.out.mono ?_;rintro e w3 ⟨rfl,rfl⟩)|(with_reducible refine H3.out.mono ?_;rintro e w3 ⟨rfl,rfl⟩))
     refine ⟨⟨k+1,by simp,hk1,hbl⟩,?_⟩
     simp only [intOf]
     omega
    ·obtain ⟨j,hj⟩:∃j,k=j+1:=⟨k-1,by omega⟩
     have hjl:j<L.length:=by omega
     obtain ⟨b2,o2,e2,_,c2⟩:=hgL j hjl
     cases e2
     have d2:=cell_same (w':=wr) c2 fun h=>hbl.block _ h
     have hinj:=(F4.out L[j]).1 (List.getElem_mem hjl)
     have W1:=fun X hX=>HWO.out X hX L[j]
     have hp1:=worth_wm (val:=val) (F2.out _ hinj.1)
     rw [hp1]at W1
     have hsort:ltF pool val L[j] L[k]=true:=List.pairwise_iff_getElem.1 F5.out j k hjl hlt (by omega)
     unfold ltF at hsort
     have hs2:=of_decide_eq_true hsort
     obtain ⟨a,ha⟩:∃a,a=L[j]:=⟨_,rfl⟩
     obtain ⟨z,hz'⟩:∃z,z=L[k]:=⟨_,rfl⟩
     obtain ⟨wa,hwa⟩:∃wa,wa=wmE pool val L[j]:=⟨_,rfl⟩
     obtain ⟨wz,hwz⟩:∃wz,wz=wmE pool val L[k]:=⟨_,rfl⟩
     rw [←hwa]at W1 hs2
     rw [←hwz]at W2 hs2
     rw [←ha]at W1 hs2 d2
     rw [←hz']at d1 C1 C2 C3 W2 hs2
     have H1:=Lib.hid C1
     have H2:=Lib.hid C2
     have H3:=Lib.hid C3
     have HW1:=Lib.hid W1
     have HW2:=Lib.hid W2
     have s1:IntKind.i64.wrap ((k:Int)-1)=(j:Int):=(IntWalk.i64_in _ (by omega)).trans (by omega)
     have s2:((j:Nat):Int)<((L.length:Nat):Int):=by omega
     have s3:(((k:Nat):Int) == 0)=false:=by rw [beq_eq_false_iff_ne];omega
     have hgk:k≤1048576:=by omega
     have DD:∀X,Below wr.heap.size wr X→X.cell? ⟨b1,o1+j,none⟩=some (.int .i64 a)∧X.cell? ⟨b1,o1+k,none⟩=some (.int .i64 z):=fun X hX=>⟨cell_same d2 fun h=>hX.block _ h,cell_same d1 fun h=>hX.block _ h⟩
     have HDD:=Lib.hid DD
     have HJ:=Lib.hid hj
     have hk1:k+1≤L.length:=by omega
     clear C1 C2 C3 c1 c2 hgL hz' ha W1 W2 hp1 hp2 hin hinj hnt hwa hwz hsort DD hj hgt hk0
     go_wp2_with (first|(go_at_call 24;first|(with_reducible refine H1.out.mono ?_;rintro e w3 ⟨rfl,rfl⟩)|(with_reducible refine H2.out.mono ?_;rintro e w3 ⟨rfl,rfl⟩)|(with_reducible refine H3.out.mono ?_;rintro e w3 ⟨rfl,rfl⟩))|(go_at_call 25;go_loud (refine (HW1.out _ hbl).mono ?_)))
     intro e w3 h0
     first|(have hb3:=And.right h0;have he:=And.left h0)|(intro hb3;have he:=h0)
     subst he
     have hbl3:=hbl.trans (hb3.mono hbl.size)
     obtain ⟨d3,d4⟩:=HDD.out w3 hb3
     go_wp2_with (go_at_call 25;go_loud (refine (HW2.out _ hbl3).mono ?_))
     intro e w4 h0
     first|(have hb4:=And.right h0;have he:=And.left h0)|(intro hb4;have he:=h0)
     subst he
     have hbl4:=hbl3.trans (hb4.mono hbl3.size)
     obtain ⟨d5,d6⟩:=HDD.out w4 (hb3.trans (hb4.mono hb3.size))
     have t1:¬wa<wz:=by omega
     clear d3 d4 d1 d2
     by_cases he:wa=wz
     ·have t2:(wa == wz)=true:=by simpa using he
      have t3:¬a > z:=by omega
      clear hs2
      go_wp2
      refine ⟨⟨k+1,by simp,by omega,hbl4⟩,?_⟩
      simp only [intOf]
      omega
     ·have t2:(wa == wz)=false:=by simpa using he
      clear hs2
      go_wp2
      refine ⟨⟨k+1,by simp,by omega,hbl4⟩,?_⟩
      simp only [intOf]
      omega
  ·obtain rfl:k=L.length:=by omega
   have g1:¬((L.length:Nat):Int)<((L.length:Nat):Int):=by omega
   have hbl0:=hbl
   clear hbl
   go_wp2
   go_loopw [90] (fun i wl=>∃k:Nat,i=.int .i64 k∧k≤test.length∧Below w2.heap.size w2 wl) (fun i _=>test.length-(intOf i).toNat)
   case atStart=>exact ⟨0,rfl,Nat.zero_le _,hbl0⟩
   case round =>
    clear hbl0
    obtain ⟨k,rfl,hk2,hbl⟩:=hrel
    by_cases hlt2:k<test.length
    ·
     as_aux_lemma =>
      obtain ⟨b1,o1,rfl,_,c1⟩:=hgt k hlt2
      have d1:=cell_same (w':=wr) c1 fun h=>(hbl.block _ (Nat.lt_of_lt_of_le h hb2.size)).trans (hb2.block _ h)
      have C1:=HCG.out wr hbl test[k]
      have C2:=HCL.out wr hbl L.length (Nat.le_refl _) test[k]
      rw [List.take_length]at C2
      have hor:decide (test[k]∈given)=true∨decide (test[k]∈L)=true:=by
       by_cases h:test[k]∈given
       ·exact .inl (decide_eq_true h)
       ·exact .inr (decide_eq_true ((F4.out _).2 ⟨List.getElem_mem hlt2,h⟩))
      have g2:((k:Nat):Int)<((test.length:Nat):Int):=by omega
      obtain ⟨z,hz'⟩:∃z,z=test[k]:=⟨_,rfl⟩
      rw [←hz']at d1 C1 C2 hor
      obtain ⟨p,hp⟩:∃p,p=decide (z∈given):=⟨_,rfl⟩
      obtain ⟨q,hq⟩:∃q,q=decide (z∈L):=⟨_,rfl⟩
      rw [←hp]at C1 hor
      rw [←hq]at C2 hor
      have H1:=Lib.hid C1
      have H2:=Lib.hid C2
      clear C1 C2 hp hq hz' c1 hgt hgL
      cases p with
      | true =>
       clear hor
       go_wp2_with (go_at_call 24;first|(with_reducible refine H1.out.mono ?_;rintro e w3 ⟨rfl,rfl⟩)|(with_reducible refine H2.out.mono ?_;rintro e w3 ⟨rfl,rfl⟩))
       refine ⟨⟨k+1,by simp,by omega,hbl⟩,?_⟩
       simp only [intOf]
       omega
      | false =>
       have e:q=true:=by simpa using hor
       subst e
       clear hor
       go_wp2_with (go_at_call 24;first|(with_reducible refine H1.out.mono ?_;rintro e w3 ⟨rfl,rfl⟩)|(with_reducible refine H2.out.mono ?_;rintro e w3 ⟨rfl,rfl⟩))
       refine ⟨⟨k+1,by simp,by omega,hbl⟩,?_⟩
       simp only [intOf]
       omega
    ·obtain rfl:k=test.length:=by omega
     have g2:¬((test.length:Nat):Int)<((test.length:Nat):Int):=by omega
     have hbw:=hb2.trans (hbl.mono hb2.size)
     have HA:=Lib.hid (HAW.out wr hbw)
     go_wp2_with (go_at_call 11;go_loud (refine HA.out.mono ?_))
     intro e w3 h0
     first|(have hb3:=And.right h0;have he:=And.left h0)|(intro hb3;have he:=h0)
     subst he
     go_wp2
     go_ret
     exact ⟨_,rfl,hbw.trans (hb3.mono hbw.size),.lit rfl⟩
theorem pool_top (pool:(vtOf (.sl shPI)).den):SH.top (.sl shPI) (eraL (vtOf (.sl shPI)) pool)=.sl 9 (List.map itA pool):=by
 show AV.sl 9 _=_
 congr 1
theorem wf_good {l:List Int} (h:∀x∈l,IntKind.min .i64≤x∧x≤IntKind.max .i64):∀z∈l,(Lit.int .i64 z).wf=true:=fun z hz=>by
 have:=h z hz
 simp [IntKind.min,IntKind.max,IntKind.signed,IntKind.bits]at this
 exact WalkArith.wf_i64 (by omega)
theorem sorder.law (as':List AV) (h:OkA 1048576 [.sl shPI,.sl shI,.sl shI,.sl shI] as'):AC 9 as' (boo true):=by
 obtain ⟨a,r1,rfl,h1,q1⟩:=okA_more h
 obtain ⟨b,r2,rfl,h2,q2⟩:=okA_more q1
 obtain ⟨c,r3,rfl,h3,q3⟩:=okA_more q2
 obtain ⟨d,rfl,h4⟩:=okA_one q3
 obtain ⟨pool,rfl,hpl,_⟩:=h1.den
 obtain ⟨val,rfl,hvl,_⟩:=h2.den
 obtain ⟨test,rfl,htl,ht⟩:=h3.den
 obtain ⟨given,rfl,hgl,hg⟩:=h4.den
 have:=order_c pool val test given hpl hvl htl hgl (wf_good ht) (wf_good hg)
 rw [pool_top]
 exact this
end Go.Proofs.YtmekiphpjpblpaaGreat
namespace Go.Proofs.YtmekiphpjpblpaaGreat
open Go.ChangeShapes Go.WideShapes Go.ChangeAt Go.RowKit Lim
namespace sorder
theorem own:ownKnob Tryz.prog.godebug=none:=by kernel_rfl
theorem laidOut:laidOutB Tryz.prog=true:=by kernel_rfl
theorem env_of {W:World} (hs:W.ShapedOpen Tryz.prog):Env W :=
 ⟨Go.Proofs.cell_of_shapedOpen_int (zero:=#[.int .i64 0]) (t:=3) hs (of_decide_eq_true (by kernel_rfl)) (by kernel_rfl) rfl (by kernel_rfl) (by kernel_rfl) Tryz.underlying3,fun _ _ h=>by cases h⟩
def arg0:Array Value:=#[.slice none 0 0,.slice none 0 0,.slice none 0 0,.slice none 0 0]
theorem laid_met (os:Os):laidMetH Tryz.prog Rows.shadowOrderUptoRow.laid ((World.laidAll Tryz.prog os Rows.shadowOrderUptoRow.laid).forCall (fun _ _=>0) ⟨#[],arg0,[]⟩).memory:=by
 rw [MakeChecks.laidMetH_plain _ _ _ (by kernel_rfl)]
 exact laidMet_laidAll _ (by kernel_rfl) (by kernel_rfl)
theorem reads (os:Os) {H:Type} (enc:TypeId × Value→H):∃places,DataW.whole enc Tryz.prog ((World.laidAll Tryz.prog os Rows.shadowOrderUptoRow.laid).forCall (fun _ _=>0) ⟨#[],arg0,[]⟩).memory Tryz.f9.params.toList Rows.shadowOrderSpec.vars false arg0.toList 8=some ([.nil,.nil,.nil,.nil],[],places) :=
 ⟨[],by kernel_rfl⟩
theorem contract (H:Type) (enc:TypeId × Value→H) (W:World) (base:Nat) (args:Array Value) (ds gs:List (DataW H)) (before:List MemPlace)
  (hval:∀(j:Nat) t v,Tryz.f9.params[j]? = some t→args[j]? = some v→Value.okWide Tryz.prog W .any base t v)
  (hW:DataW.Whole enc Tryz.prog Tryz.f9.params.toList Rows.shadowOrderSpec.vars false W args.toList ds gs before) (hE:Env W) (hu:Rows.uptoSmall H (ds ++ gs)=true) :
  Calls Tryz.prog 9 args W fun e W'=>∃v,e=.returned v∧Rows.shadowOrderSpec.post enc Tryz.prog Tryz.f9 false true false false W args v W' :=
 law_row laidOut Tryz.underlying4 rfl (by kernel_rfl) (by kernel_rfl) [(.sl shPI),(.sl shI),(.sl shI),(.sl shI)] (by kernel_rfl) (fun ds hd=>by
  match ds,hd with
  | [d0,d1,d2,d3],_=>rfl) law hval hW hE hu
theorem liftedUpto (os:Os) (started:os.Started) (H:Type) (enc:TypeId × Value→H) (F:Stop.Interp) :
  ReturnsInHanded {} Tryz.checked os 9 .any ((Rows.OpenSpec.upto Rows.shadowOrderSpec).preRow enc Tryz.prog Tryz.f9 Rows.shadowOrderUptoRow.domain false Rows.shadowOrderUptoRow.laid) (((Rows.OpenSpec.upto Rows.shadowOrderSpec).at F).post enc Tryz.prog Tryz.f9 false true false false):=by
 obtain ⟨places,hx⟩:=reads os enc
 refine returnsInHanded_of_row (C:=Tryz.checked) (s:=Rows.OpenSpec.upto Rows.shadowOrderSpec) own started (by kernel_rfl) Tryz.func9
  (witness_row_at (enc:=enc) (C:=Tryz.checked) false (World.laidAll Tryz.prog os Rows.shadowOrderUptoRow.laid) arg0 (World.laidAll_os _ _ _) (by kernel_rfl) (by kernel_rfl) (by kernel_rfl)
   (OpenSpec.preRow_of_cond 8 hx (by kernel_rfl) (fun k hk=>by cases hk;kernel_rfl) (by kernel_rfl) (laid_met os))) ?_
 intro W base args ds gs before hval hW _ hcond _ hL hsh _
 exact contract H enc W base args ds gs before hval hW (env_of hsh) (hcond _ rfl)
theorem saidUpto:Rows.ShadowOrderUptoSaid :=
 OpenClaim.holds_of_cond 9 Tryz.f9 rfl rfl rfl rfl rfl rfl rfl ⟨rfl,rfl,rfl,rfl,rfl⟩ rfl rfl rfl rfl rfl (by kernel_rfl) Tryz.func9 (by kernel_rfl)
  (of_decide_eq_true (by kernel_rfl)) (by unfold Func.isWrapper;first|(rw [if_pos (by decide +kernel)];kernel_rfl)|(rw [if_neg (by decide +kernel)];exact ⟨rfl,rfl⟩))
  (fun os started H enc _ F=>by rw [OpenClaim.pre_eq_preRow];exact liftedUpto os started H enc F)
end sorder
end Go.Proofs.YtmekiphpjpblpaaGreat
namespace Go.Proofs.YtmekiphpjpblpaaGreat
open Go.RowKit Lim
theorem app_list_run {w:World} (ty:TypeId) (base:Nat) (v:Value) (n:Nat) (xs:List Value) (hown:w.ownsRow base 3 1 v n xs) {ex:Nat→Prop} {u:Value} {l:List Int} (hu:SlI w ex u l) (hbase:base≤w.heap.size) (hn:n+l.length≤10000000) :
  ∃v' w',(Builtin.append_ #[27,27] ty #[v,u]).run Tryz.prog w=.ok v' w'∧w'.ownsRow base 3 1 v' (n+l.length) (xs ++ l.map (Value.int .i64))∧w.grownBy w' v.ownBlock∧(v'.ownBlock=v.ownBlock∨v'.ownBlock=some w.heap.size):=by
 have hinf:(Tryz.prog.info? 3).map (fun i=>(i.zero,i.size,i.bytes))=some (some (.int .i64 0),1,8):=by kernel_rfl
 obtain ⟨i1,hj0,hj1,hj2,hj3⟩:=info_parts hinf
 obtain ⟨A,c,rfl,hc,hA⟩:=hu
 cases l with
 | nil =>
  obtain ⟨A',n',c',hv,hn'⟩:∃A n c,v=.slice A n c∧n≤c:=by
   rcases hown.2 with ⟨e,_⟩|⟨g,cap,cur,e,_,_,a4,_⟩
   ·exact ⟨_,_,_,e,Nat.le_refl _⟩
   ·exact ⟨_,_,_,e,a4⟩
  refine ⟨v,w,?_,by simpa using hown,⟨rfl,rfl,rfl,Nat.le_refl _,fun _ _ _=>rfl⟩,.inl rfl⟩
  rw [hv]
  exact run_append_zero (P:=Tryz.prog) w 27 ty 3 i1 Tryz.underlying27 hj0 A' A n' c' c hn'
 | cons z l =>
  obtain ⟨b,off,rfl,_,_⟩:=hA 0 (by simp)
  obtain ⟨v',w',hr,h2,h3,h4,h5⟩:=run_append_own_at (P:=Tryz.prog) w base 27 ty 3 i1 (.int .i64 0) 1 8 Tryz.underlying27 hj0 hj1 hj2 hj3 rfl (by decide) v n xs hown ⟨b,off,none⟩ (z :: l).length c ((z :: l).map (Value.int .i64)) (by simp) (fun j u hj=>by
   have hjl:j<(z :: l).length:=by
    have:=(List.getElem?_eq_some_iff.1 hj).1
    simpa using this
   obtain ⟨b',off',e,_,c1⟩:=hA j hjl
   cases e
   have e2:u=.int .i64 ((z :: l)[j]'hjl):=by
    rw [List.getElem?_map,List.getElem?_eq_getElem hjl]at hj
    exact (Option.some.inj hj).symm
   rw [e2]
   rw [show (⟨b,off,none⟩:Addr).add j=⟨b,off+j,none⟩by unfold Addr.add;split <;> simp_all]
   exact c1) (fun u hu=>by
   obtain ⟨z',_,rfl⟩:=List.mem_map.1 hu
   rfl) (by unfold maxLen;omega) (by omega) hbase
  exact ⟨v',w',hr,h2,h3,h5⟩
theorem step_app_list {B0:Nat} {w0 w:World} {ops:Array Oper} {o:Oper} {a:Act} {K:Act→World→Prop} {Q:Exit→Act→World→Prop} {E:Prop} (hgd:o.guard=none) (s x:Operand) (ho:o.op=.call { callee:=.builtin .append,args:=#[s,x],argTypes:=#[27,27] })
  (base:Nat) (v:Value) (n:Nat) (xs:List Value) (hs:a.eval s=v) (hown:w.ownsRow base 3 1 v n xs) {ex:Nat→Prop} (u:Value) (l:List Int) (hx:a.eval x=u) (hu:SlI w ex u l) (hb:Below B0 w0 w) (hB:B0≤base) (hbase:base≤w.heap.size) (hn:n+l.length≤10000000)
  (h:∀v' w',w'.ownsRow base 3 1 v' (n+l.length) (xs ++ l.map (Value.int .i64))→Below B0 w0 w'→w.grownBy w' v.ownBlock→(v'.ownBlock=v.ownBlock∨v'.ownBlock=some w.heap.size)→K (a.put o.dst v') w'):if Region.wanted o (yielded ops a.tmps)=true then Oper.wp Tryz.prog o a w K Q else E:=by
 have hw:Region.wanted o (yielded ops a.tmps)=true:=by simp [Region.wanted,hgd]
 rw [if_pos hw]
 obtain ⟨v',w',hr,h1,h2,h3⟩:=app_list_run o.type base v n xs hown hu hbase hn
 unfold Oper.wp execOp
 simp only [ho,resolve,invoke,builtin,Sem.run_bind,Sem.run_pure,Result.andThen_ok,List.map_toArray,List.map_cons,List.map_nil,hs,hx,hr]
 exact h v' w' h1 (hb.grown h2 (Nat.le_trans hB hbase) fun q hq=>Nat.le_trans hB (own_zone hown hq).1) h2 h3
theorem below_alloc2 {B:Nat} {W w:World} (h:Below B W w) (o:Obj) (hB:B≤w.heap.size):Below B W (w.alloc o):=h.alloc hB o
theorem own_empty {X:World} {b base:Nat} (h:X.heap[b]? = some (.cells #[] 3 (0,0))) (hb:base≤b):X.ownsRow base 3 1 (.slice (some ⟨b,0,none⟩) 0 0) 0 [] :=
 ⟨rfl,.inr ⟨b,0,#[],rfl,hb,h,Nat.le_refl _,by unfold maxLen;omega,rfl,rfl⟩⟩
theorem rps6 {a b c d e f:AV} {w:World} {Z:Zone} {vs:Array Value} (h:Rep w Z (.agg [a,b,c,d,e,f]) (.agg vs)):∃x y z u t s,vs=#[x,y,z,u,t,s]∧Rep w Z a x∧Rep w Z b y∧Rep w Z c z∧Rep w Z d u∧Rep w Z e t∧Rep w Z f s:=by
 obtain ⟨hl,hr⟩:=Rep.agg_iff.1 h
 obtain ⟨l,rfl⟩:∃l,vs=List.toArray l:=⟨vs.toList,by simp⟩
 match l,hl with
 | [x,y,z,u,t,s],_=>exact ⟨x,y,z,u,t,s,rfl,hr 0 _ _ rfl rfl,hr 1 _ _ rfl rfl,hr 2 _ _ rfl rfl,hr 3 _ _ rfl rfl,hr 4 _ _ rfl rfl,hr 5 _ _ rfl rfl⟩
theorem stab_c (n:Int) (rs:List RuleV) (pool:List PI) (l:List (Int × Int)) (given val:List Int) (pick:Int) (hr:∀r∈rs,RIn r) (hrl:rs.length≤1048576) (hl:pool.length≤1048576) (hvl:val.length≤1048576) (hgl:given.length≤1048576) (hp:0≤pick∧pick≤255) :
  AC 8 [.agg [i64 n,rulesA rs],.sl 9 (pool.map itA),.sl 2 (l.map prA),.sl 1 (given.map fun z=>i64 z),.sl 1 (val.map fun z=>i64 z),.lit (.int .u8 pick)] (boo true):=by
 refine ⟨⟨_,Tryz.func8,by kernel_rfl,by kernel_rfl⟩,fun w Z vs hE hz hal hrep=>?_⟩
 have hal:AllLimbs Z w:=hal rfl
 obtain ⟨v1,v2,v3,v4,v5,v6,rfl,q1,q2,q3,q4,q5,q6⟩:=rps6 hrep
 obtain rfl:=q6.lit_eq
 obtain ⟨x,rfl,qr⟩:=spec_val q1
 obtain ⟨Ar,cr,rfl,_,_⟩:=rules_row qr
 obtain ⟨Ap,cp,rfl,_⟩:=items_row3 q2
 have hgi:=SlI.of_rep q4
 obtain ⟨Ag,cg,rfl⟩:=hgi.len
 clear hrep q1 q6
 change Calls Tryz.prog _ _ w _
 have AW:∀X,Below w.heap.size w X→Calls Tryz.prog 11 #[] X fun e w'=>e=.returned (.bool true)∧Below X.heap.size X w':=fun X hX=>by
  refine (ac_call hE hz hal awake_c X _ hX (.agg rfl fun j hj=>absurd hj (by simp))).mono ?_
  rintro e w2 ⟨u,rfl,hb2,hr2⟩
  obtain rfl:=hr2.lit_eq
  exact ⟨rfl,hb2⟩
 have HAW:=Lib.hid AW
 obtain ⟨W1,hW1⟩:∃W1,W1=w.alloc (.cells #[.int .i64 n,.slice Ar rs.length cr] 24):=⟨_,rfl⟩
 have hB1:Below w.heap.size w W1:=by rw [hW1];exact (Below.refl _ _).alloc (Nat.le_refl _) _
 have hS1:W1.heap[w.heap.size]? = some (.cells #[.int .i64 n,.slice Ar rs.length cr] 24 (0,0)):=by rw [hW1];exact heap_alloc_new w _
 have BO:=bounded_w (w:=W1) (n:=n) (A:=Ar) (B:=Ap) (c:=cr) (d:=cp) hrl hl
 have HBO:=Lib.hid BO
 clear AW BO hal
 have s0:W1.cell? ⟨w.heap.size,0,none⟩=some (.int .i64 n):=by rw [Lib.cell_of_heap hS1];rfl
 have s1:W1.cell? ⟨w.heap.size,1,none⟩=some (.slice Ar rs.length cr):=by rw [Lib.cell_of_heap hS1];rfl
 obtain ⟨bd,hbd⟩:∃bd,bd=(decide (pool.length≤9) && decide (rs.length≤6)):=⟨_,rfl⟩
 rw [←hbd]at HBO
 have HBD:=Lib.hid hbd
 clear hbd
 go_enter Tryz.func8,Tryz.ntmps8
 go_upto_region 1 with fail
 rw [←hW1]
 clear hW1
 go_wp2_with (go_at_call 10;go_loud (refine HBO.out.mono ?_))
 intro e w2 h0
 first|(have hb2:=And.right h0;have he:=And.left h0)|(intro hb2;have he:=h0)
 subst he
 have hB2:Below w.heap.size w w2:=hB1.trans (hb2.mono hB1.size)
 have hS2:=blk_call hS1 hb2
 cases bd with
 | false =>
  have HA:=Lib.hid (HAW.out w2 hB2)
  clear s0 s1
  go_wp2_with (go_at_call 11;go_loud (refine HA.out.mono ?_))
  intro e w3 h0
  first|(have hb3:=And.right h0;have he:=And.left h0)|(intro hb3;have he:=h0)
  subst he
  go_wp2
  go_ret
  exact ⟨_,rfl,hB2.trans (hb3.mono hB2.size),.lit rfl⟩
 | true =>
  have hbd:=HBD.out.symm
  rw [Bool.and_eq_true,decide_eq_true_eq,decide_eq_true_eq]at hbd
  obtain ⟨hp9,hr6⟩:=hbd
  have h20:varsE rs pool<20:=by
   have:=setsN_le rs
   unfold varsE
   omega
  have s0:w2.cell? ⟨w.heap.size,0,none⟩=some (.int .i64 n):=by rw [Lib.cell_of_heap hS2];rfl
  have s1:w2.cell? ⟨w.heap.size,1,none⟩=some (.slice Ar rs.length cr):=by rw [Lib.cell_of_heap hS2];rfl
  have grz:∀{X:World},Below w.heap.size w X→∀b o,grown Z w X b o→b<X.heap.size:=fun {X} hX b o h=>by
   rcases h with h|h
   ·exact Nat.lt_of_lt_of_le (hz b o h) hX.size
   ·exact h.2
  have T1:=at_call hE (stest_c n rs pool l given val hl hvl hgl hr h20) w2 (grown Z w w2) #[.agg #[.int .i64 n,.slice Ar rs.length cr],.slice Ap pool.length cp,v3,.slice Ag given.length cg,v5] hB2 (grz hB2) (rep_5 (spec2_of (qr.keep (Keeps.ofBelow hB2) fun _ _ h=>.inl h)) (q2.keep (Keeps.ofBelow hB2) fun _ _ h=>.inl h) (q3.keep (Keeps.ofBelow hB2) fun _ _ h=>.inl h) (q4.keep (Keeps.ofBelow hB2) fun _ _ h=>.inl h) (q5.keep (Keeps.ofBelow hB2) fun _ _ h=>.inl h))
  have HT1:=Lib.hid T1
  clear T1
  go_wp2_with (go_at_call 12;go_loud (refine HT1.out.mono ?_))
  first|rintro e w3 v rfl hb3 hr3|rintro e w3 ⟨v,rfl,hb3,hr3⟩
  obtain ⟨tv,te,rfl,r1,r2⟩:=tup2_val hr3
  obtain rfl:=r2.lit_eq
  have hB3:Below w.heap.size w w3:=hB2.trans (hb3.mono hB2.size)
  have hS3:=blk_call hS2 hb3
  clear s0 s1 hr3 r2
  by_cases ht:(testE n rs pool l given val).2≠0
  ·have HA:=Lib.hid (HAW.out w3 hB3)
   obtain ⟨te,hte⟩:∃te,te=(testE n rs pool l given val).2:=⟨_,rfl⟩
   rw [←hte]at ht ⊢
   clear hte r1
   go_wp2_with (go_at_call 11;go_loud (refine HA.out.mono ?_))
   intro e w4 h0
   first|(have hb4:=And.right h0;have he:=And.left h0)|(intro hb4;have he:=h0)
   subst he
   go_wp2
   go_ret
   exact ⟨_,rfl,hB3.trans (hb4.mono hB3.size),.lit rfl⟩
  have ht0:(testE n rs pool l given val).2=0:=Classical.not_not.1 ht
  rw [ht0]
  have hp0:=(test_ok ht0).1
  have hid:=prep_ids hp0
  have FR:=sfree_c pool val (testE n rs pool l given val).1 given hl hvl (Nat.le_trans test_len hl) hgl (fun z hz'=>pos_wf hid ((test_ok ht0).2.1.2.2.2.2 z hz')) (fun z hz'=>pos_wf hid ((prep_ok hp0).2.1 z hz'))
  have FC:=at_call hE FR w3 (grown Z w w3) #[.slice Ap pool.length cp,v5,tv,.slice Ag given.length cg] hB3 (grz hB3) (rep_4 (q2.keep (Keeps.ofBelow hB3) fun _ _ h=>.inl h) (q5.keep (Keeps.ofBelow hB3) fun _ _ h=>.inl h) (r1.keep (Keeps.refl _ _) fun b o h=>by
   rcases h with (h|h)|h
   ·exact .inl h
   ·exact .inr ⟨h.1,Nat.lt_of_lt_of_le h.2 hb3.size⟩
   ·exact .inr ⟨Nat.le_trans hB2.size h.1,h.2⟩) (q4.keep (Keeps.ofBelow hB3) fun _ _ h=>.inl h))
  have hfe:=free_of ht0
  have hf2:(freeE pool val (testE n rs pool l given val).1 given).2=0:=by rw [hfe]
  have hflen:=free_len2 ht0
  have hff:=free_facts (show freeE pool val (testE n rs pool l given val).1 given=((freeE pool val (testE n rs pool l given val).1 given).1,0)by rw [←hf2])
  have hstab:∀a∈(freeE pool val (testE n rs pool l given val).1 given).1,testE n rs pool l (given ++ [a]) val=testE n rs pool l given val:=fun a ha=>test_stable ht0 ((hff.2.2.2.1 a).1 ha).1 ((hff.2.2.2.1 a).1 ha).2
  have hn18:=spec_n (task_in (prob_len (prep_ok hp0).1).1).1
  have htl2:=test_len (n:=n) (rs:=rs) (pool:=pool) (l:=l) (given:=given) (val:=val)
  rw [hf2]at FC
  clear ht hff hfe hf2 FR
  obtain ⟨T,hT⟩:∃T,T=testE n rs pool l given val:=⟨_,rfl⟩
  rw [←hT]at FC hflen hstab ht0 htl2 r1
  generalize (freeE pool val T.1 given).1=L at *
  have HFC:=Lib.hid FC
  have HST:=Lib.hid hstab
  have HT:=Lib.hid hT
  have HT0:=Lib.hid ht0
  clear FC hstab hT ht0
  go_wp2_with (go_at_call 17;go_loud (refine HFC.out.mono ?_))
  first|rintro e w4 v rfl hb4 hr4|rintro e w4 ⟨v,rfl,hb4,hr4⟩
  obtain ⟨lv,fe,rfl,u1,u2⟩:=tup2_val hr4
  obtain rfl:=u2.lit_eq
  have hLi:=SlI.of_rep u1
  obtain ⟨AL,cL,rfl,hcL,hgL⟩:=hLi
  have hB4:Below w.heap.size w w4:=hB3.trans (hb4.mono hB3.size)
  have hS4:=blk_call hS3 hb4
  have hti:SlI w4 (fun b=>b<w4.heap.size) tv T.1:=(SlI.of_rep r1).keep fun b h1 h2=>⟨hb4.block b h2,Nat.lt_of_lt_of_le h1 hb4.size⟩
  clear hr4 u1 u2 r1
  have hL18:L.length≤18:=by omega
  have hg18:given.length≤18:=by omega
  have gL:((L.length:Nat):Int)≤18:=by omega
  by_cases hL0:L.length=0
  ·have HA:=Lib.hid (HAW.out w4 hB4)
   have g9:((L.length:Nat):Int)=0:=by omega
   clear hgL hti
   go_wp2_with (go_at_call 11;go_loud (refine HA.out.mono ?_))
   intro e w5 h0
   first|(have hb5:=And.right h0;have he:=And.left h0)|(intro hb5;have he:=h0)
   subst he
   go_wp2
   go_ret
   exact ⟨_,rfl,hB4.trans (hb5.mono hB4.size),.lit rfl⟩
  have g9:¬((L.length:Nat):Int)=0:=by omega
  go_upto_region 11 with fail
  obtain ⟨j,hj,hjl⟩:∃j:Nat,Int.tmod pick (L.length:Nat)=(j:Int)∧j<L.length:=by
   refine ⟨(Int.tmod pick (L.length:Nat)).toNat,?_,?_⟩
   ·have:=Int.tmod_nonneg (L.length:Nat) hp.1
    omega
   ·have:=Int.tmod_nonneg (L.length:Nat) hp.1
    have:=Int.tmod_lt_of_pos pick (show (0:Int)<(L.length:Nat)by omega)
    omega
  have jz:((j:Nat):Int)<((L.length:Nat):Int):=by omega
  have pw:IntKind.i64.wrap pick=pick:=IntWalk.i64_in _ (by omega)
  obtain ⟨bL,oL,rfl,hbL,cj⟩:=hgL j hjl
  have hjL:L[j]∈L:=List.getElem_mem hjl
  obtain ⟨z,hz'⟩:∃z,z=L[j]:=⟨_,rfl⟩
  rw [←hz']at cj hjL
  have hgi4:∀X,Below w4.heap.size w4 X→SlI X (fun b=>b<w.heap.size) (.slice Ag given.length cg) given:=fun X hX=>hgi.keep fun b h1 h2=>⟨(hX.block b (Nat.lt_of_lt_of_le h2 hB4.size)).trans (hB4.block b h2),h1⟩
  have HGI:=Lib.hid hgi4
  clear hz' hgL hgi4
  go_cut [17] (fun m wx=>∃a,a∈L∧Below w4.heap.size w4 wx∧wx.ownsRow w4.heap.size 3 1 m (given.length+1) ((given ++ [a]).map (Value.int .i64)))
  case first =>
   go_region_law (first|(refine step_app_list (B0:=w4.heap.size) (w0:=w4) rfl _ _ rfl w4.heap.size _ 0 [] rfl (own_empty (by (repeat (first|(refine (alloc_ne ?_).trans ?_;first|omega|(simp <;> omega))|(with_reducible refine (drew_get _ _).trans ?_)));exact at_new (by first|rfl|(simp;done)|(simp <;> omega))) (by first|omega|(simp <;> omega))) _ given rfl (HGI.out _ (by with_reducible repeat' (first|exact Below.refl _ _|refine Below.drew ?_|refine below_alloc2 ?_ _ (by first|omega|(simp <;> omega))))) (by with_reducible repeat' (first|exact Below.refl _ _|refine Below.drew ?_|refine below_alloc2 ?_ _ (by first|omega|(simp <;> omega)))) (Nat.le_refl _) (by first|omega|(simp <;> omega)) (by omega) ?_;intro v1 w1 ho1 hb1 hg1 ha1;have cj1:w1.cell? ⟨bL,oL+j,none⟩=some (.int .i64 z):=cell_same cj fun h=>hb1.block _ h;have hs1:=hb1.size)|(refine step_app_list (B0:=w4.heap.size) (w0:=w4) rfl _ _ rfl w4.heap.size _ _ _ rfl (by first|exact ho1|exact ho1.alloc _|exact (ho1.alloc _).alloc _) _ [z] rfl (SlI.of_ints (m:=1) (f:=[z]) (by (repeat (first|(refine (alloc_ne ?_).trans ?_;first|omega|(simp <;> omega))|(with_reducible refine (drew_get _ _).trans ?_)));first|exact at_new (by first|rfl|(simp;done)|(simp <;> omega))|(refine (hg1.block _ (by first|omega|(simp <;> omega)) (by first|(simp [Value.ownBlock];done)|(simp [Act.eval,Act.put,Value.ownBlock];done))).trans ?_;(repeat (first|(refine (alloc_ne ?_).trans ?_;first|omega|(simp <;> omega))|(with_reducible refine (drew_get _ _).trans ?_)));exact at_new (by first|rfl|(simp;done)|(simp <;> omega)))) rfl) (by with_reducible repeat' (first|exact Below.refl _ _|exact hb1|refine Below.drew ?_|refine below_alloc2 ?_ _ (by first|omega|(simp <;> omega)))) (Nat.le_refl _) (by first|omega|(simp <;> omega)) (by simp;omega) ?_;intro v2 w5 ho2 hb2' hg2 ha2)|fail)
   all_goals (go_wp2_with fail;go_meet)
   all_goals exact ⟨z,hjL,hb2',by simpa [Nat.zero_add,List.map_append]using ho2⟩
  case rest =>
   obtain ⟨a,haL,hbc,hown⟩:=hcut
   have hBc:Below w.heap.size w wc:=hB4.trans (hbc.mono hB4.size)
   have hSc:=blk_call hS4 hbc
   have s0:wc.cell? ⟨w.heap.size,0,none⟩=some (.int .i64 n):=by rw [Lib.cell_of_heap hSc];rfl
   have s1:wc.cell? ⟨w.heap.size,1,none⟩=some (.slice Ar rs.length cr):=by rw [Lib.cell_of_heap hSc];rfl
   have T2:=at_call hE (stest_c n rs pool l (given ++ [a]) val hl hvl (by simp;omega) hr h20) wc (grown Z w wc) #[.agg #[.int .i64 n,.slice Ar rs.length cr],.slice Ap pool.length cp,v3,u17,v5] hBc (grz hBc) (rep_5 (spec2_of (qr.keep (Keeps.ofBelow hBc) fun _ _ h=>.inl h)) (q2.keep (Keeps.ofBelow hBc) fun _ _ h=>.inl h) (q3.keep (Keeps.ofBelow hBc) fun _ _ h=>.inl h) (own_rep (by simp) hown hB4.size) (q5.keep (Keeps.ofBelow hBc) fun _ _ h=>.inl h))
   rw [HST.out a haL,HT0.out]at T2
   have HT2:=Lib.hid T2
   clear T2 hown
   go_wp2_with (go_at_call 12;go_loud (refine HT2.out.mono ?_))
   first|rintro e w6 v rfl hb6 hr6'|rintro e w6 ⟨v,rfl,hb6,hr6'⟩
   obtain ⟨uv,ue,rfl,r3,r4⟩:=tup2_val hr6'
   obtain rfl:=r4.lit_eq
   have hB6:Below w.heap.size w w6:=hBc.trans (hb6.mono hBc.size)
   have hti6:SlI w6 (fun b=>b<w6.heap.size) tv T.1:=hti.keep fun b h1 h2=>⟨(hb6.block b (Nat.lt_of_lt_of_le h2 hbc.size)).trans (hbc.block b h2),Nat.lt_of_lt_of_le h1 (Nat.le_trans hbc.size hb6.size)⟩
   have EQ:=lequal_w hti6 (SlI.of_rep r3) (by omega)
   have HEQ:=Lib.hid EQ
   clear EQ hti hti6 r3 r4 hr6' s0 s1
   go_wp2_with (go_at_call 16;go_loud (refine HEQ.out.mono ?_))
   intro e w7 h0
   first|(have hb7:=And.right h0;have he:=And.left h0)|(intro hb7;have he:=h0)
   subst he
   have hB7:Below w.heap.size w w7:=hB6.trans (hb7.mono hB6.size)
   have HA:=Lib.hid (HAW.out w7 hB7)
   go_wp2_with (go_at_call 11;go_loud (refine HA.out.mono ?_))
   intro e w8 h0
   first|(have hb8:=And.right h0;have he:=And.left h0)|(intro hb8;have he:=h0)
   subst he
   go_wp2
   go_ret
   exact ⟨_,rfl,hB7.trans (hb8.mono hB7.size),.lit rfl⟩
theorem u8_good {z:Int} (h:IntKind.min .u8≤z∧z≤IntKind.max .u8):0≤z∧z≤255:=by
 simp [IntKind.min,IntKind.max,IntKind.signed,IntKind.bits]at h
 omega
theorem sstab.law (as':List AV) (h:OkA 1048576 [shSp,.sl shPI,.sl shPr,.sl shI,.sl shI,.int .u8] as'):AC 8 as' (boo true):=by
 obtain ⟨a,r1,rfl,h1,q1⟩:=okA_more h
 obtain ⟨b,r2,rfl,h2,q2⟩:=okA_more q1
 obtain ⟨c,r3,rfl,h3,q3⟩:=okA_more q2
 obtain ⟨d,r4,rfl,h4,q4⟩:=okA_more q3
 obtain ⟨e,r5,rfl,h5,q5⟩:=okA_more q4
 obtain ⟨f,rfl,h6⟩:=okA_one q5
 obtain ⟨⟨n,rs⟩,rfl,hn,hrl,hr⟩:=h1.den
 obtain ⟨pool,rfl,hpl,_⟩:=h2.den
 obtain ⟨l,rfl,hll,_⟩:=h3.den
 obtain ⟨given,rfl,hgl,_⟩:=h4.den
 obtain ⟨val,rfl,hvl,_⟩:=h5.den
 obtain ⟨pick,rfl,hp⟩:=h6.den
 have:=stab_c n (rs.map toRu) pool l given val pick (fun r hr'=>by
  obtain ⟨x,hx,rfl⟩:=List.mem_map.1 hr'
  obtain ⟨_,q2,q3,q4,q5⟩:=hr x hx
  exact ⟨i64_z q2,i64_z q3,i64_z q4,q5⟩) (Nat.le_trans (Nat.le_of_eq (List.length_map toRu)) hrl) hpl hvl hgl (u8_good hp)
 exact ac_swap (specs_den n rs) (pool_top pool) this
end Go.Proofs.YtmekiphpjpblpaaGreat
namespace Go.Proofs.YtmekiphpjpblpaaGreat
open Go.ChangeShapes Go.WideShapes Go.ChangeAt Go.RowKit Lim
namespace sstab
theorem own:ownKnob Tryz.prog.godebug=none:=by kernel_rfl
theorem laidOut:laidOutB Tryz.prog=true:=by kernel_rfl
theorem env_of {W:World} (hs:W.ShapedOpen Tryz.prog):Env W :=
 ⟨Go.Proofs.cell_of_shapedOpen_int (zero:=#[.int .i64 0]) (t:=3) hs (of_decide_eq_true (by kernel_rfl)) (by kernel_rfl) rfl (by kernel_rfl) (by kernel_rfl) Tryz.underlying3,fun _ _ h=>by cases h⟩
def arg0:Array Value:=#[.agg #[.int .i64 0,.slice none 0 0],.slice none 0 0,.slice none 0 0,.slice none 0 0,.slice none 0 0,.int .u8 0]
theorem laid_met (os:Os):laidMetH Tryz.prog Rows.shadowStableUptoRow.laid ((World.laidAll Tryz.prog os Rows.shadowStableUptoRow.laid).forCall (fun _ _=>0) ⟨#[],arg0,[]⟩).memory:=by
 rw [MakeChecks.laidMetH_plain _ _ _ (by kernel_rfl)]
 exact laidMet_laidAll _ (by kernel_rfl) (by kernel_rfl)
theorem reads (os:Os) {H:Type} (enc:TypeId × Value→H):∃places,DataW.whole enc Tryz.prog ((World.laidAll Tryz.prog os Rows.shadowStableUptoRow.laid).forCall (fun _ _=>0) ⟨#[],arg0,[]⟩).memory Tryz.f8.params.toList Rows.shadowStableSpec.vars false arg0.toList 8=some ([.agg [.lit (.int .i64 0),.nil],.nil,.nil,.nil,.nil,.lit (.int .u8 0)],[],places) :=
 ⟨[],by kernel_rfl⟩
theorem contract (H:Type) (enc:TypeId × Value→H) (W:World) (base:Nat) (args:Array Value) (ds gs:List (DataW H)) (before:List MemPlace)
  (hval:∀(j:Nat) t v,Tryz.f8.params[j]? = some t→args[j]? = some v→Value.okWide Tryz.prog W .any base t v)
  (hW:DataW.Whole enc Tryz.prog Tryz.f8.params.toList Rows.shadowStableSpec.vars false W args.toList ds gs before) (hE:Env W) (hu:Rows.uptoSmall H (ds ++ gs)=true) :
  Calls Tryz.prog 8 args W fun e W'=>∃v,e=.returned v∧Rows.shadowStableSpec.post enc Tryz.prog Tryz.f8 false true false false W args v W' :=
 law_row laidOut Tryz.underlying4 rfl (by kernel_rfl) (by kernel_rfl) [shSp,(.sl shPI),(.sl shPr),(.sl shI),(.sl shI),(.int .u8)] (by kernel_rfl) (fun ds hd=>by
  match ds,hd with
  | [d0,d1,d2,d3,d4,d5],_=>rfl) law hval hW hE hu
theorem liftedUpto (os:Os) (started:os.Started) (H:Type) (enc:TypeId × Value→H) (F:Stop.Interp) :
  ReturnsInHanded {} Tryz.checked os 8 .any ((Rows.OpenSpec.upto Rows.shadowStableSpec).preRow enc Tryz.prog Tryz.f8 Rows.shadowStableUptoRow.domain false Rows.shadowStableUptoRow.laid) (((Rows.OpenSpec.upto Rows.shadowStableSpec).at F).post enc Tryz.prog Tryz.f8 false true false false):=by
 obtain ⟨places,hx⟩:=reads os enc
 refine returnsInHanded_of_row (C:=Tryz.checked) (s:=Rows.OpenSpec.upto Rows.shadowStableSpec) own started (by kernel_rfl) Tryz.func8
  (witness_row_at (enc:=enc) (C:=Tryz.checked) false (World.laidAll Tryz.prog os Rows.shadowStableUptoRow.laid) arg0 (World.laidAll_os _ _ _) (by kernel_rfl) (by kernel_rfl) (by kernel_rfl)
   (OpenSpec.preRow_of_cond 8 hx (by kernel_rfl) (fun k hk=>by cases hk;kernel_rfl) (by kernel_rfl) (laid_met os))) ?_
 intro W base args ds gs before hval hW _ hcond _ hL hsh _
 exact contract H enc W base args ds gs before hval hW (env_of hsh) (hcond _ rfl)
theorem saidUpto:Rows.ShadowStableUptoSaid :=
 OpenClaim.holds_of_cond 8 Tryz.f8 rfl rfl rfl rfl rfl rfl rfl ⟨rfl,rfl,rfl,rfl,rfl⟩ rfl rfl rfl rfl rfl (by kernel_rfl) Tryz.func8 (by kernel_rfl)
  (of_decide_eq_true (by kernel_rfl)) (by unfold Func.isWrapper;first|(rw [if_pos (by decide +kernel)];kernel_rfl)|(rw [if_neg (by decide +kernel)];exact ⟨rfl,rfl⟩))
  (fun os started H enc _ F=>by rw [OpenClaim.pre_eq_preRow];exact liftedUpto os started H enc F)
end sstab
end Go.Proofs.YtmekiphpjpblpaaGreat
namespace Go.Proofs.YtmekiphpjpblpaaGreat
open Go.RowKit Lim
theorem comp_c (n:Int) (rs:List RuleV) (pool:List PI) (l:List (Int × Int)) (given val:List Int) (hr:∀r∈rs,RIn r) (hrl:rs.length≤1048576) (hl:pool.length≤1048576) (hll:l.length≤1048576) (hvl:val.length≤1048576) (hgl:given.length≤1048576) :
  AC 7 [.agg [i64 n,rulesA rs],.sl 9 (pool.map itA),.sl 2 (l.map prA),.sl 1 (given.map fun z=>i64 z),.sl 1 (val.map fun z=>i64 z)] (boo true):=by
 refine ⟨⟨_,Tryz.func7,by kernel_rfl,by kernel_rfl⟩,fun w Z vs hE hz hal hrep=>?_⟩
 have hal:AllLimbs Z w:=hal rfl
 obtain ⟨v1,v2,v3,v4,v5,rfl,q1,q2,q3,q4,q5⟩:=rps5 hrep
 obtain ⟨x,rfl,qr⟩:=spec_val q1
 obtain ⟨Ar,cr,rfl,_,_⟩:=rules_row qr
 obtain ⟨Ap,cp,rfl,_⟩:=items_row3 q2
 have hgi:=SlI.of_rep q4
 obtain ⟨Ag,cg,rfl⟩:=hgi.len
 clear hrep q1
 change Calls Tryz.prog _ _ w _
 have AW:∀X,Below w.heap.size w X→Calls Tryz.prog 11 #[] X fun e w'=>e=.returned (.bool true)∧Below X.heap.size X w':=fun X hX=>by
  refine (ac_call hE hz hal awake_c X _ hX (.agg rfl fun j hj=>absurd hj (by simp))).mono ?_
  rintro e w2 ⟨u,rfl,hb2,hr2⟩
  obtain rfl:=hr2.lit_eq
  exact ⟨rfl,hb2⟩
 have HAW:=Lib.hid AW
 obtain ⟨W1,hW1⟩:∃W1,W1=w.alloc (.cells #[.int .i64 n,.slice Ar rs.length cr] 24):=⟨_,rfl⟩
 have hB1:Below w.heap.size w W1:=by rw [hW1];exact (Below.refl _ _).alloc (Nat.le_refl _) _
 have hS1:W1.heap[w.heap.size]? = some (.cells #[.int .i64 n,.slice Ar rs.length cr] 24 (0,0)):=by rw [hW1];exact heap_alloc_new w _
 have BO:=bounded_w (w:=W1) (n:=n) (A:=Ar) (B:=Ap) (c:=cr) (d:=cp) hrl hl
 have HBO:=Lib.hid BO
 clear AW BO
 have s0:W1.cell? ⟨w.heap.size,0,none⟩=some (.int .i64 n):=by rw [Lib.cell_of_heap hS1];rfl
 have s1:W1.cell? ⟨w.heap.size,1,none⟩=some (.slice Ar rs.length cr):=by rw [Lib.cell_of_heap hS1];rfl
 obtain ⟨bd,hbd⟩:∃bd,bd=(decide (pool.length≤9) && decide (rs.length≤6)):=⟨_,rfl⟩
 rw [←hbd]at HBO
 have HBD:=Lib.hid hbd
 clear hbd
 go_enter Tryz.func7,Tryz.ntmps7
 go_upto_region 1 with fail
 rw [←hW1]
 clear hW1
 go_wp2_with (go_at_call 10;go_loud (refine HBO.out.mono ?_))
 intro e w2 h0
 first|(have hb2:=And.right h0;have he:=And.left h0)|(intro hb2;have he:=h0)
 subst he
 have hB2:Below w.heap.size w w2:=hB1.trans (hb2.mono hB1.size)
 have hS2:=blk_call hS1 hb2
 cases bd with
 | false =>
  have HA:=Lib.hid (HAW.out w2 hB2)
  clear s0 s1
  go_wp2_with (go_at_call 11;go_loud (refine HA.out.mono ?_))
  intro e w3 h0
  first|(have hb3:=And.right h0;have he:=And.left h0)|(intro hb3;have he:=h0)
  subst he
  go_wp2
  go_ret
  exact ⟨_,rfl,hB2.trans (hb3.mono hB2.size),.lit rfl⟩
 | true =>
  have hbd:=HBD.out.symm
  rw [Bool.and_eq_true,decide_eq_true_eq,decide_eq_true_eq]at hbd
  obtain ⟨hp9,hr6⟩:=hbd
  have h20:varsE rs pool<20:=by
   have:=setsN_le rs
   unfold varsE
   omega
  have s0:w2.cell? ⟨w.heap.size,0,none⟩=some (.int .i64 n):=by rw [Lib.cell_of_heap hS2];rfl
  have s1:w2.cell? ⟨w.heap.size,1,none⟩=some (.slice Ar rs.length cr):=by rw [Lib.cell_of_heap hS2];rfl
  have grz:∀{X:World},Below w.heap.size w X→∀b o,grown Z w X b o→b<X.heap.size:=fun {X} hX b o h=>by
   rcases h with h|h
   ·exact Nat.lt_of_lt_of_le (hz b o h) hX.size
   ·exact h.2
  have args5:∀X,Below w.heap.size w X→Rep X (grown Z w X) (.agg [.agg [i64 n,rulesA rs],.sl 9 (pool.map itA),.sl 2 (l.map prA),.sl 1 (given.map fun z=>i64 z),.sl 1 (val.map fun z=>i64 z)]) (.agg #[.agg #[.int .i64 n,.slice Ar rs.length cr],.slice Ap pool.length cp,v3,.slice Ag given.length cg,v5]):=fun X hX=>rep_5 (spec2_of (qr.keep (Keeps.ofBelow hX) fun _ _ h=>.inl h)) (q2.keep (Keeps.ofBelow hX) fun _ _ h=>.inl h) (q3.keep (Keeps.ofBelow hX) fun _ _ h=>.inl h) (q4.keep (Keeps.ofBelow hX) fun _ _ h=>.inl h) (q5.keep (Keeps.ofBelow hX) fun _ _ h=>.inl h)
  have T1:=at_call hE (stest_c n rs pool l given val hl hvl hgl hr h20) w2 (grown Z w w2) _ hB2 (grz hB2) (args5 w2 hB2)
  have HT1:=Lib.hid T1
  clear T1
  go_wp2_with (go_at_call 12;go_loud (refine HT1.out.mono ?_))
  first|rintro e w3 v rfl hb3 hr3|rintro e w3 ⟨v,rfl,hb3,hr3⟩
  obtain ⟨tv,te,rfl,r1,r2⟩:=tup2_val hr3
  obtain rfl:=r2.lit_eq
  have hB3:Below w.heap.size w w3:=hB2.trans (hb3.mono hB2.size)
  have hS3:=blk_call hS2 hb3
  have hti:=SlI.of_rep r1
  obtain ⟨At,ct,rfl⟩:=hti.len
  clear s0 s1 hr3 r2
  have s0:w3.cell? ⟨w.heap.size,0,none⟩=some (.int .i64 n):=by rw [Lib.cell_of_heap hS3];rfl
  have s1:w3.cell? ⟨w.heap.size,1,none⟩=some (.slice Ar rs.length cr):=by rw [Lib.cell_of_heap hS3];rfl
  have N1:=at_call hE (snext_c n rs pool l given val hl hvl hgl hr h20) w3 (grown Z w w3) _ hB3 (grz hB3) (args5 w3 hB3)
  have HN1:=Lib.hid N1
  have htl2:=test_len (n:=n) (rs:=rs) (pool:=pool) (l:=l) (given:=given) (val:=val)
  have htl9:(testE n rs pool l given val).1.length≤9:=by omega
  have gt:(((testE n rs pool l given val).1.length:Nat):Int)≤9:=by omega
  clear N1
  go_wp2_with (go_at_call 14;go_loud (refine HN1.out.mono ?_))
  first|rintro e w4 v rfl hb4 hr4|rintro e w4 ⟨v,rfl,hb4,hr4⟩
  obtain ⟨nv,ne,rfl,u1,u2⟩:=tup2_val hr4
  obtain rfl:=u1.lit_eq
  obtain rfl:=u2.lit_eq
  have hB4:Below w.heap.size w w4:=hB3.trans (hb4.mono hB3.size)
  have hS4:=blk_call hS3 hb4
  clear s0 s1 hr4 u1 u2
  have s0:w4.cell? ⟨w.heap.size,0,none⟩=some (.int .i64 n):=by rw [Lib.cell_of_heap hS4];rfl
  have s1:w4.cell? ⟨w.heap.size,1,none⟩=some (.slice Ar rs.length cr):=by rw [Lib.cell_of_heap hS4];rfl
  by_cases ht:(testE n rs pool l given val).2≠0
  ·have HA:=Lib.hid (HAW.out w4 hB4)
   obtain ⟨ne1,ne2⟩:=next_err ht
   have hte0:=test_err ht
   obtain ⟨te,hte⟩:∃te,te=(testE n rs pool l given val).2:=⟨_,rfl⟩
   obtain ⟨ne,hne⟩:∃ne,ne=(nextE n rs pool l given val).2:=⟨_,rfl⟩
   rw [←hte]at ht ⊢
   rw [←hne]at ne2 ⊢
   rw [ne1,hte0]
   have q0:(ne != 0)=true:=by simpa using ne2
   clear hte hne r1 hti ne1 hte0 gt htl9 htl2 s0 s1 HT1 HN1
   go_wp2_with (go_at_call 11;go_loud (refine HA.out.mono ?_))
   intro e w5 h0
   first|(have hb5:=And.right h0;have he:=And.left h0)|(intro hb5;have he:=h0)
   subst he
   go_wp2
   go_ret
   exact ⟨_,rfl,hB4.trans (hb5.mono hB4.size),.lit rfl⟩
  have ht0:(testE n rs pool l given val).2=0:=Classical.not_not.1 ht
  rw [ht0]
  have hp0:=(test_ok ht0).1
  have hid:=prep_ids hp0
  obtain ⟨c1,c2,c3,_,c5⟩:=(test_ok ht0).2.1
  have FR:=sfree_c pool val (testE n rs pool l given val).1 given hl hvl (Nat.le_trans test_len hl) hgl (fun z hz'=>pos_wf hid (c5 z hz')) (fun z hz'=>pos_wf hid ((prep_ok hp0).2.1 z hz'))
  have BR:=bro_c n rs pool l (testE n rs pool l given val).1 hr hl hll (by omega)
  rw [c3]at BR
  have hf2:(freeE pool val (testE n rs pool l given val).1 given).2=0:=by rw [free_of ht0]
  have hflen:=free_len2 ht0
  have hnx:(n≤(given.length:Int)∧nextE n rs pool l given val=(0,21))∨((given.length:Int)<n∧∃a r,(freeE pool val (testE n rs pool l given val).1 given).1=a :: r∧nextE n rs pool l given val=(a,0)∧a∈(testE n rs pool l given val).1∧a ∉ given):=by
   by_cases h:n≤(given.length:Int)
   ·exact .inl ⟨h,next_done hp0 h⟩
   ·exact .inr ⟨by omega,next_ok ht0 (by omega)⟩
  have hn18:=spec_n (task_in (prob_len (prep_ok hp0).1).1).1
  rw [show freeE pool val (testE n rs pool l given val).1 given=((freeE pool val (testE n rs pool l given val).1 given).1,0)by rw [←hf2]]at FR
  clear ht hf2 HT1 HN1 c5 htl2
  generalize (freeE pool val (testE n rs pool l given val).1 given).1=L at *
  generalize nextE n rs pool l given val=N at *
  generalize (testE n rs pool l given val).1=T at *
  obtain ⟨N1,N2⟩:=N
  have hg18:given.length≤18:=by omega
  have gg:((given.length:Nat):Int)≤18:=by omega
  have hL18:L.length≤18:=by omega
  have gL:((L.length:Nat):Int)≤18:=by omega
  have keepT:∀X,Below w3.heap.size w3 X→SlI X (fun b=>b<X.heap.size) (.slice At T.length ct) T:=fun X hX=>hti.keep fun b h1 h2=>⟨hX.block b h2,Nat.lt_of_lt_of_le h1 hX.size⟩
  have repT:∀X,Below w3.heap.size w3 X→Rep X (grown Z w X) (.sl 1 (T.map fun z=>i64 z)) (.slice At T.length ct):=fun X hX=>r1.keep (Keeps.ofBelow hX) fun b o h=>by
   have:=hX.size
   rcases h with (h|h)|h
   ·exact .inl h
   ·exact .inr ⟨h.1,by have:=hb3.size;omega⟩
   ·exact .inr ⟨Nat.le_trans hB2.size h.1,by omega⟩
  have HKT:=Lib.hid keepT
  have HRT:=Lib.hid repT
  clear keepT repT hti r1
  have BC:=ac_call hE hz hal BR w4 #[.agg #[.int .i64 n,.slice Ar rs.length cr],.slice Ap pool.length cp,v3,.slice At T.length ct] hB4 (rep_4 (spec2_of (qr.keep (Keeps.ofBelow hB4) fun _ _ h=>.inl h)) (q2.keep (Keeps.ofBelow hB4) fun _ _ h=>.inl h) (q3.keep (Keeps.ofBelow hB4) fun _ _ h=>.inl h) (HRT.out w4 hb4))
  have HBC:=Lib.hid BC
  clear BC BR c3
  go_wp2_with (go_at_call 22;go_loud (refine HBC.out.mono ?_))
  first|rintro e w5 v rfl hb5 hr5|rintro e w5 ⟨v,rfl,hb5,hr5⟩
  obtain ⟨bv,be,rfl,t1,t2⟩:=tup2_val hr5
  obtain rfl:=t2.lit_eq
  obtain ⟨Ab,cb,eb⟩:=sl_len t1
  have eb:bv=.slice Ab 0 cb:=eb
  subst eb
  have hB5:Below w.heap.size w w5:=hB4.trans (hb5.mono hB4.size)
  have hS5:=blk_call hS4 hb5
  have hb35:=hb4.trans (hb5.mono hb4.size)
  clear hr5 t1 t2 s0 s1
  have s0:w5.cell? ⟨w.heap.size,0,none⟩=some (.int .i64 n):=by rw [Lib.cell_of_heap hS5];rfl
  have g1:(((T.length:Nat):Int) != n)=false:=by rw [c1];simp
  have hgi5:∀X,Below w.heap.size w X→SlI X (fun b=>b<X.heap.size) (.slice Ag given.length cg) given:=fun X hX=>hgi.keep fun b h1 h2=>⟨hX.block b h2,Nat.lt_of_lt_of_le h1 hX.size⟩
  have HGI:=Lib.hid hgi5
  obtain ⟨_,_,eg,hcg,hgg⟩:=hgi
  cases eg
  have C1:=Lib.hid c1
  have C2:=Lib.hid c2
  have HNX:=Lib.hid hnx
  have HFL:=Lib.hid hflen
  clear c1 c2 hnx hflen hgi5 HBC
  go_wp2
  go_loopw [84] (fun i wl=>∃k:Nat,i=.int .i64 k∧k≤given.length∧wl=w5) (fun i _=>given.length-(intOf i).toNat)
  case atStart=>exact ⟨0,rfl,Nat.zero_le _,rfl⟩
  case round =>
   obtain ⟨k,rfl,hk,hw⟩:=hrel
   subst wr
   by_cases hlt:k<given.length
   ·
    as_aux_lemma =>
     obtain ⟨b1,o1,rfl,_,d0⟩:=hgg k hlt
     have f0:=cell_same (w':=w5) d0 fun hb=>hB5.block _ hb
     have g2:((k:Nat):Int)<((given.length:Nat):Int):=by omega
     have CT:=lcont_w (HKT.out w5 hb35) (by omega) given[k]
     rw [decide_eq_true (C2.out _ (List.getElem_mem hlt))]at CT
     obtain ⟨z,hz'⟩:∃z,z=given[k]:=⟨_,rfl⟩
     rw [←hz']at f0 CT
     have HCT:=Lib.hid CT
     clear hz' CT d0 hgg
     go_wp2_with (go_at_call 24;refine HCT.out.mono ?_;rintro e w6 ⟨rfl,rfl⟩)
     refine ⟨⟨k+1,by simp,by omega,by simp⟩,?_⟩
     simp only [intOf]
     omega
   ·obtain rfl:k=given.length:=by omega
    have g2:¬((given.length:Nat):Int)<((given.length:Nat):Int):=by omega
    have FC:=at_call hE FR w5 (grown Z w w5) #[.slice Ap pool.length cp,v5,.slice At T.length ct,.slice Ag given.length cg] hB5 (grz hB5) (rep_4 (q2.keep (Keeps.ofBelow hB5) fun _ _ h=>.inl h) (q5.keep (Keeps.ofBelow hB5) fun _ _ h=>.inl h) (HRT.out w5 hb35) (q4.keep (Keeps.ofBelow hB5) fun _ _ h=>.inl h))
    have HFC:=Lib.hid FC
    clear FC s0 hgg g1
    go_wp2_with (go_at_call 17;go_loud (refine HFC.out.mono ?_))
    first|rintro e w6 v rfl hb6 hr6|rintro e w6 ⟨v,rfl,hb6,hr6⟩
    obtain ⟨lv,fe,rfl,t1,t2⟩:=tup2_val hr6
    obtain rfl:=t2.lit_eq
    have hLi:=SlI.of_rep t1
    obtain ⟨AL,cL,rfl,hcL,hgL⟩:=hLi
    have hB6:Below w.heap.size w w6:=hB5.trans (hb6.mono hB5.size)
    have hb36:=hb35.trans (hb6.mono hb35.size)
    have HA:=Lib.hid (HAW.out w6 hB6)
    have g3:IntKind.i64.wrap (((L.length:Nat):Int)+((given.length:Nat):Int))=((T.length:Nat):Int):=by
     rw [IntWalk.i64_in _ (by omega)]
     have:=HFL.out
     have:=C1.out
     omega
    have g4:(((T.length:Nat):Int) != ((T.length:Nat):Int))=false:=by simp
    clear hr6 t1 t2
    rcases HNX.out with ⟨hdone,hN⟩|⟨hmore,a,r,hLr,hN,haT,hag⟩
    ·injection hN with hN1 hN2
     subst hN1 hN2
     have hL0:L.length=0:=by have:=HFL.out;omega
     have g9:((L.length:Nat):Int)=0:=by omega
     have g3':IntKind.i64.wrap (0+((given.length:Nat):Int))=((T.length:Nat):Int):=by rw [←g9];exact g3
     have g3'':IntKind.i64.wrap ((given.length:Nat):Int)=((T.length:Nat):Int):=by rw [Int.zero_add]at g3';exact g3'
     clear hgL HNX g3
     go_wp2_with (go_at_call 11;go_loud (refine HA.out.mono ?_))
     intro e w7 h0
     first|(have hb7:=And.right h0;have he:=And.left h0)|(intro hb7;have he:=h0)
     subst he
     go_wp2
     go_ret
     exact ⟨_,rfl,hB6.trans (hb7.mono hB6.size),.lit rfl⟩
    ·injection hN with hN1 hN2
     subst hN1 hN2
     have hLp:0<L.length:=by rw [hLr];simp
     obtain ⟨bf,of',rfl,_,d0⟩:=hgL 0 hLp
     have e0:L[0]=N1:=by simp [hLr]
     rw [e0]at d0
     have d0:w6.cell? ⟨bf,of',none⟩=some (.int .i64 N1):=d0
     have CT:=lcont_w (HKT.out w6 hb36) (by omega) N1
     have CG:=lcont_w (HGI.out w6 hB6) (by omega) N1
     rw [decide_eq_true haT]at CT
     rw [decide_eq_false hag]at CG
     have HCT:=Lib.hid CT
     have HCG:=Lib.hid CG
     have g8:(0:Int)<((L.length:Nat):Int):=by omega
     have g9:¬((L.length:Nat):Int)=0:=by omega
     clear hgL HNX CT CG hLr e0 haT hag
     go_wp2_with (first|(go_at_call 24;first|(with_reducible refine HCT.out.mono ?_;rintro e w7 ⟨rfl,rfl⟩)|(with_reducible refine HCG.out.mono ?_;rintro e w7 ⟨rfl,rfl⟩))|(go_at_call 11;go_loud (refine HA.out.mono ?_)))
     intro e w7 h0
     first|(have hb7:=And.right h0;have he:=And.left h0)|(intro hb7;have he:=h0)
     subst he
     go_wp2
     go_ret
     exact ⟨_,rfl,hB6.trans (hb7.mono hB6.size),.lit rfl⟩
theorem scomp.law (as':List AV) (h:OkA 1048576 [shSp,.sl shPI,.sl shPr,.sl shI,.sl shI] as'):AC 7 as' (boo true):=by
 obtain ⟨a,r1,rfl,h1,q1⟩:=okA_more h
 obtain ⟨b,r2,rfl,h2,q2⟩:=okA_more q1
 obtain ⟨c,r3,rfl,h3,q3⟩:=okA_more q2
 obtain ⟨d,r4,rfl,h4,q4⟩:=okA_more q3
 obtain ⟨e,rfl,h5⟩:=okA_one q4
 obtain ⟨⟨n,rs⟩,rfl,hn,hrl,hr⟩:=h1.den
 obtain ⟨pool,rfl,hpl,_⟩:=h2.den
 obtain ⟨l,rfl,hll,_⟩:=h3.den
 obtain ⟨given,rfl,hgl,_⟩:=h4.den
 obtain ⟨val,rfl,hvl,_⟩:=h5.den
 have:=comp_c n (rs.map toRu) pool l given val (fun r hr'=>by
  obtain ⟨x,hx,rfl⟩:=List.mem_map.1 hr'
  obtain ⟨_,q2,q3,q4,q5⟩:=hr x hx
  exact ⟨i64_z q2,i64_z q3,i64_z q4,q5⟩) (Nat.le_trans (Nat.le_of_eq (List.length_map toRu)) hrl) hpl hll hvl hgl
 exact ac_swap (specs_den n rs) (pool_top pool) this
end Go.Proofs.YtmekiphpjpblpaaGreat
namespace Go.Proofs.YtmekiphpjpblpaaGreat
open Go.ChangeShapes Go.WideShapes Go.ChangeAt Go.RowKit Lim
namespace scomp
theorem own:ownKnob Tryz.prog.godebug=none:=by kernel_rfl
theorem laidOut:laidOutB Tryz.prog=true:=by kernel_rfl
theorem env_of {W:World} (hs:W.ShapedOpen Tryz.prog):Env W :=
 ⟨Go.Proofs.cell_of_shapedOpen_int (zero:=#[.int .i64 0]) (t:=3) hs (of_decide_eq_true (by kernel_rfl)) (by kernel_rfl) rfl (by kernel_rfl) (by kernel_rfl) Tryz.underlying3,fun _ _ h=>by cases h⟩
def arg0:Array Value:=#[.agg #[.int .i64 0,.slice none 0 0],.slice none 0 0,.slice none 0 0,.slice none 0 0,.slice none 0 0]
theorem laid_met (os:Os):laidMetH Tryz.prog Rows.shadowCompleteUptoRow.laid ((World.laidAll Tryz.prog os Rows.shadowCompleteUptoRow.laid).forCall (fun _ _=>0) ⟨#[],arg0,[]⟩).memory:=by
 rw [MakeChecks.laidMetH_plain _ _ _ (by kernel_rfl)]
 exact laidMet_laidAll _ (by kernel_rfl) (by kernel_rfl)
theorem reads (os:Os) {H:Type} (enc:TypeId × Value→H):∃places,DataW.whole enc Tryz.prog ((World.laidAll Tryz.prog os Rows.shadowCompleteUptoRow.laid).forCall (fun _ _=>0) ⟨#[],arg0,[]⟩).memory Tryz.f7.params.toList Rows.shadowCompleteSpec.vars false arg0.toList 8=some ([.agg [.lit (.int .i64 0),.nil],.nil,.nil,.nil,.nil],[],places) :=
 ⟨[],by kernel_rfl⟩
theorem contract (H:Type) (enc:TypeId × Value→H) (W:World) (base:Nat) (args:Array Value) (ds gs:List (DataW H)) (before:List MemPlace)
  (hval:∀(j:Nat) t v,Tryz.f7.params[j]? = some t→args[j]? = some v→Value.okWide Tryz.prog W .any base t v)
  (hW:DataW.Whole enc Tryz.prog Tryz.f7.params.toList Rows.shadowCompleteSpec.vars false W args.toList ds gs before) (hE:Env W) (hu:Rows.uptoSmall H (ds ++ gs)=true) :
  Calls Tryz.prog 7 args W fun e W'=>∃v,e=.returned v∧Rows.shadowCompleteSpec.post enc Tryz.prog Tryz.f7 false true false false W args v W' :=
 law_row laidOut Tryz.underlying4 rfl (by kernel_rfl) (by kernel_rfl) [shSp,(.sl shPI),(.sl shPr),(.sl shI),(.sl shI)] (by kernel_rfl) (fun ds hd=>by
  match ds,hd with
  | [d0,d1,d2,d3,d4],_=>rfl) law hval hW hE hu
theorem liftedUpto (os:Os) (started:os.Started) (H:Type) (enc:TypeId × Value→H) (F:Stop.Interp) :
  ReturnsInHanded {} Tryz.checked os 7 .any ((Rows.OpenSpec.upto Rows.shadowCompleteSpec).preRow enc Tryz.prog Tryz.f7 Rows.shadowCompleteUptoRow.domain false Rows.shadowCompleteUptoRow.laid) (((Rows.OpenSpec.upto Rows.shadowCompleteSpec).at F).post enc Tryz.prog Tryz.f7 false true false false):=by
 obtain ⟨places,hx⟩:=reads os enc
 refine returnsInHanded_of_row (C:=Tryz.checked) (s:=Rows.OpenSpec.upto Rows.shadowCompleteSpec) own started (by kernel_rfl) Tryz.func7
  (witness_row_at (enc:=enc) (C:=Tryz.checked) false (World.laidAll Tryz.prog os Rows.shadowCompleteUptoRow.laid) arg0 (World.laidAll_os _ _ _) (by kernel_rfl) (by kernel_rfl) (by kernel_rfl)
   (OpenSpec.preRow_of_cond 8 hx (by kernel_rfl) (fun k hk=>by cases hk;kernel_rfl) (by kernel_rfl) (laid_met os))) ?_
 intro W base args ds gs before hval hW _ hcond _ hL hsh _
 exact contract H enc W base args ds gs before hval hW (env_of hsh) (hcond _ rfl)
theorem saidUpto:Rows.ShadowCompleteUptoSaid :=
 OpenClaim.holds_of_cond 7 Tryz.f7 rfl rfl rfl rfl rfl rfl rfl ⟨rfl,rfl,rfl,rfl,rfl⟩ rfl rfl rfl rfl rfl (by kernel_rfl) Tryz.func7 (by kernel_rfl)
  (of_decide_eq_true (by kernel_rfl)) (by unfold Func.isWrapper;first|(rw [if_pos (by decide +kernel)];kernel_rfl)|(rw [if_neg (by decide +kernel)];exact ⟨rfl,rfl⟩))
  (fun os started H enc _ F=>by rw [OpenClaim.pre_eq_preRow];exact liftedUpto os started H enc F)
end scomp
end Go.Proofs.YtmekiphpjpblpaaGreat
namespace Go.Proofs.YtmekiphpjpblpaaGreat
open Go.RowKit Lim
theorem test_goes {n:Int} {rs:List RuleV} {pool:List PI} {l:List (Int × Int)} {given val val':List Int} {a:Int} (h:(testE n rs pool l given val).2=0) (ha:a∈(testE n rs pool l given val).1) (hg:a ∉ given) (hv:val'.length=pool.length) (hr:val'.any badV=false):(testE n rs pool l (given ++ [a]) val').2=0:=by
 obtain ⟨hp,⟨a1,a2,a3,a4,a5⟩,x,e,hx,hb⟩:=test_ok h
 obtain ⟨p1,p2,p3⟩:=prep_ok hp
 obtain ⟨t1,t2,t3,t4⟩:=prob_len p1
 have p1':probE n rs pool l val'=0:=by
  unfold probE
  rw [if_neg (by simp [t1]),if_neg (by simp [hv]),if_neg (by simp [hr]),if_neg (by omega)]
 have hp2:prepE n rs pool l (given ++ [a]) val'=0:=by
  refine prep_mk p1' (fun id hid=>?_) ?_
  ·rcases List.mem_append.1 hid with hid|hid
   ·exact p2 id hid
   ·rw [List.mem_singleton.1 hid];exact a5 a ha
  ·rw [List.nodup_append]
   exact ⟨p3,by simp,fun c hc d hd e=>hg (by rw [List.mem_singleton.1 hd]at e;rw [←e];exact hc)⟩
 have hxl:pool.length≤x.length:=by
  rw [hx.1.len,fixE_length]
  exact Nat.le_add_right _ _
 have hx2:FeasG pool (consV n rs pool l) (fixV rs pool) (given ++ [a]) x:=by
  refine ⟨hx.1,fun id hid=>?_⟩
  rcases List.mem_append.1 hid with hid|hid
  ·exact hx.2 id hid
  ·rw [List.mem_singleton.1 hid]
   rw [e]at ha
   obtain ⟨i,hi,b1,b2⟩:=(pick_mem a hxl).1 ha
   obtain ⟨hid,_⟩:=pool_ok (task_in t1).2
   rw [←b2,pos_get hid hi]
   exact b1
 rcases test_spec hp2 with ⟨_,h2⟩|⟨x2,e2,_⟩
 ·exact absurd hx2 (h2 x)
 ·rw [e2]
theorem ns_err {n:Int} {rs:List RuleV} {pool:List PI} {l:List (Int × Int)} {v:List Int} {vs:List (List Int)} (hn:(((v :: vs).length:Nat):Int)=n) (he:(testE n rs pool l [] v).2≠0):walkE n rs pool l (v :: vs)=([],(testE n rs pool l [] v).2):=by
 unfold walkE
 by_cases hs:specE n rs≠0
 ·rw [if_pos hs]
  have t:taskE n rs pool l=specE n rs:=by unfold taskE;rw [if_pos hs]
  have p:probE n rs pool l v=specE n rs:=by unfold probE;rw [t,if_pos hs]
  have q:prepE n rs pool l [] v=specE n rs:=by unfold prepE;rw [p,if_pos hs]
  have r:testE n rs pool l [] v=([],specE n rs):=by unfold testE;rw [q,if_pos hs]
  rw [r]
 ·rw [if_neg hs,if_neg (fun h=>h hn)]
  have hx:nextE n rs pool l [] v=(0,(testE n rs pool l [] v).2):=by
   by_cases hp:prepE n rs pool l [] v≠0
   ·have r:testE n rs pool l [] v=([],prepE n rs pool l [] v):=by unfold testE;rw [if_pos hp]
    rw [r]
    unfold nextE
    rw [if_pos hp]
   ·unfold nextE
    have h0:¬n≤((([]:List Int).length:Nat):Int):=by
     rw [←hn]
     simp only [List.length_cons,List.length_nil]
     omega
    rw [if_neg hp,if_neg h0,if_pos he]
  unfold wlkE
  rw [hx,if_pos he]
theorem wlk_ok {n:Int} {rs:List RuleV} {pool:List PI} {l:List (Int × Int)}:∀(vs:List (List Int)) (v given:List Int),(testE n rs pool l given v).2=0→(∀u∈vs,u.length=pool.length∧u.any badV=false)→((given.length+(vs.length+1):Nat):Int)=n→∃L t,wlkE n rs pool l (v :: vs) given=(L,0)∧(L.length:Int)=n∧broE n rs pool l t=([],0)∧risesB t=true∧L.Perm t
 | [],v,given,h,hv,hn=>by
  obtain ⟨a,r,e1,e2,ha,hg⟩:=next_ok h (by rw [←hn];simp only [List.length_nil];omega)
  obtain ⟨hp,⟨a1,a2,a3,a4,a5⟩,_⟩:=test_ok h
  obtain ⟨p1,p2,p3⟩:=prep_ok hp
  have hnd:(given ++ [a]).Nodup:=by
   rw [List.nodup_append]
   exact ⟨p3,by simp,fun c hc d hd e=>hg (by rw [List.mem_singleton.1 hd]at e;rw [←e];exact hc)⟩
  have hsub:∀x∈given ++ [a],x∈(testE n rs pool l given v).1:=fun x hx=>by
   rcases List.mem_append.1 hx with hx|hx
   ·exact a2 x hx
   ·rw [List.mem_singleton.1 hx];exact ha
  have hl:=left_len (rises_nodup a4) hnd hsub
  have hle:(given ++ [a]).length=given.length+1:=by simp
  have h0:leftE (testE n rs pool l given v).1 (given ++ [a])=[]:=by
   refine List.length_eq_zero_iff.1 ?_
   have hn2:((given.length+1:Nat):Int)=n:=by simpa using hn
   omega
  refine ⟨given ++ [a],(testE n rs pool l given v).1,?_,?_,a3,a4,?_⟩
  ·unfold wlkE
   rw [e2,if_neg (by simp)]
   rfl
  ·rw [hle];simpa using hn
  ·refine (List.perm_ext_iff_of_nodup hnd (rises_nodup a4)).2 fun x=>⟨hsub x,fun hx=>?_⟩
   by_cases hxg:x∈given ++ [a]
   ·exact hxg
   ·have:=(left_mem _ _ x).2 ⟨hx,hxg⟩
    rw [h0]at this
    exact absurd this List.not_mem_nil
 | u :: vs,v,given,h,hv,hn=>by
  obtain ⟨a,r,e1,e2,ha,hg⟩:=next_ok h (by rw [←hn];simp only [List.length_cons];omega)
  obtain ⟨u1,u2⟩:=hv u (by simp)
  have h2:=test_goes h ha hg u1 u2
  obtain ⟨L,t,b1,b2,b3,b4,b5⟩:=wlk_ok vs u (given ++ [a]) h2 (fun x hx=>hv x (by simp [hx])) (by rw [←hn,List.length_append];simp only [List.length_cons,List.length_nil];congr 1;omega)
  refine ⟨L,t,?_,b2,b3,b4,b5⟩
  rw [←b1]
  conv=>lhs;unfold wlkE
  rw [e2,if_neg (by simp)]
theorem sort_uniq {s t L:List Int} (hs:s.Perm L) (hp:s.Pairwise (·≤·)) (ht:risesB t=true) (h:L.Perm t):s=t:=by
 have hst:=hs.trans h
 have hnd:s.Nodup:=hst.nodup_iff.2 (rises_nodup ht)
 refine srt_uniq (lt:=fun a b=>decide (a<b)) (fun a=>by simp) (fun a b c h1 h2=>by simp at *;omega) hst ?_ ?_
 ·refine (hp.and hnd).imp fun {a b} hab=>?_
  simp
  have:=hab.2
  omega
 ·clear hst hnd hp hs h
  induction t with
  | nil=>exact List.Pairwise.nil
  | cons c cs ih =>
   obtain ⟨h1,h2⟩:=rises_cons ht
   exact List.pairwise_cons.2 ⟨fun d hd=>by simp;exact h2 d hd,ih h1⟩
theorem ns_ok {n:Int} {rs:List RuleV} {pool:List PI} {l:List (Int × Int)} {v:List Int} {vs:List (List Int)} (hn:(((v :: vs).length:Nat):Int)=n) (hv:∀u∈vs,u.length=pool.length∧u.any badV=false) (h:(testE n rs pool l [] v).2=0) :
  ∃L,walkE n rs pool l (v :: vs)=(L,0)∧(L.length:Int)=n∧∀s:List Int,s.Perm L→s.Pairwise (·≤·)→broE n rs pool l s=([],0):=by
 obtain ⟨L,t,b1,b2,b3,b4,b5⟩:=wlk_ok vs v [] h hv (by rw [←hn];simp)
 refine ⟨L,?_,b2,fun s hs hp=>?_⟩
 ·unfold walkE
  have hs:specE n rs=0:=(task_in (prob_len (prep_ok (test_ok h).1).1).1).1
  rw [if_neg (by simp [hs]),if_neg (fun h=>h hn),b1]
 ·rw [sort_uniq hs hp b4 b5]
  exact b3
def rngP (k:Nat) (v:List Int):Bool:=decide (v.length=k) && !v.any badV
theorem ranged_w {w:World} {Z:Zone} {vals:List (List Int)} {u:Value} (h:Rep w Z (rowsA vals) u) (hl:vals.length≤1048576) (hll:∀v∈vals,v.length≤1048576) (n:Nat) (hn:n≤1048576) :
  Calls Tryz.prog 21 #[u,.int .i64 n] w fun e w'=>e=.returned (.bool (vals.all (rngP n)))∧w'=w:=by
 obtain ⟨Av,cv,rfl,hval⟩:=h.row1 (fun d hd=>by obtain ⟨z,_,rfl⟩:=List.mem_map.1 hd;rfl)
 rw [List.length_map]at *
 have g0:((vals.length:Nat):Int)≤1048576:=by omega
 have gn:((n:Nat):Int)≤1048576:=by omega
 obtain ⟨R,hR⟩:∃R,R=vals.all (rngP n):=⟨_,rfl⟩
 rw [←hR]
 have HR:=Lib.hid hR
 clear hR h
 go_enter Tryz.func21,Tryz.ntmps21
 go_wp2
 go_loopw [11] (fun i wl=>∃k:Nat,i=.int .i64 k∧k≤vals.length∧wl=w∧(vals.take k).all (rngP n)=true) (fun i _=>vals.length-(intOf i).toNat)
 case atStart=>exact ⟨0,rfl,Nat.zero_le _,rfl,by simp⟩
 case round =>
  obtain ⟨k,rfl,hk,hw,hno⟩:=hrel
  subst wr
  by_cases hlt:k<vals.length
  ·obtain ⟨b1,o1,u1,rfl,c1,_,hrp⟩:=hval k (by rw [List.length_map];exact hlt)
   rw [List.getElem_map]at hrp
   have g1:((k:Nat):Int)<((vals.length:Nat):Int):=by omega
   have htk:=List.take_succ_eq_append_getElem hlt
   have hin:vals[k]∈vals:=List.getElem_mem hlt
   have hlk:=hll _ hin
   obtain ⟨z,hz⟩:∃z,z=vals[k]:=⟨_,rfl⟩
   rw [←hz]at hrp htk hin hlk
   obtain ⟨A,c,rfl,_,hA⟩:=SlI.of_rep hrp
   have HT:=Lib.hid htk
   have HIN:=Lib.hid hin
   have gz:((z.length:Nat):Int)≤1048576:=by omega
   clear hz htk hin hval hrp
   by_cases hx:z.length=n
   ·have g2:(((z.length:Nat):Int) != ((n:Nat):Int))=false:=by simp [hx]
    have HX:=Lib.hid hx
    have HN0:=Lib.hid hno
    clear hx hno
    go_wp2
    go_loopw [21] (fun i wl=>∃j:Nat,i=.int .i64 j∧j≤z.length∧wl=w∧(z.take j).any badV=false) (fun i _=>z.length-(intOf i).toNat)
    case atStart=>exact ⟨0,rfl,Nat.zero_le _,rfl,by simp⟩
    case round =>
     obtain ⟨j,rfl,hj,hw,hno⟩:=hrel
     subst wr
     by_cases hjl:j<z.length
     ·obtain ⟨b2,o2,rfl,_,c2⟩:=hA j hjl
      have g3:((j:Nat):Int)<((z.length:Nat):Int):=by omega
      have htj:=List.take_succ_eq_append_getElem hjl
      have hjn:z[j]∈z:=List.getElem_mem hjl
      obtain ⟨y,hy⟩:∃y,y=z[j]:=⟨_,rfl⟩
      rw [←hy]at c2 htj hjn
      have HTJ:=Lib.hid htj
      clear hy htj hA
      by_cases h1:y < -1000000
      ·have e:R=false:=by
        rw [HR.out,List.all_eq_false]
        refine ⟨z,HIN.out,?_⟩
        unfold rngP
        have:z.any badV=true:=List.any_eq_true.2 ⟨y,hjn,by unfold badV;simp [h1]⟩
        rw [this];simp
       subst e
       go_wp2
       go_ret
       exact ⟨rfl,rfl⟩
      ·by_cases h2:1000000<y
       ·have e:R=false:=by
         rw [HR.out,List.all_eq_false]
         refine ⟨z,HIN.out,?_⟩
         unfold rngP
         have:z.any badV=true:=List.any_eq_true.2 ⟨y,hjn,by unfold badV;simp [h2]⟩
         rw [this];simp
        subst e
        go_wp2
        go_ret
        exact ⟨rfl,rfl⟩
       ·go_wp2
        refine ⟨⟨j+1,by simp,by omega,by simp,?_⟩,?_⟩
        ·rw [HTJ.out,List.any_append,hno]
         simp [badV,h1,h2]
        ·simp only [intOf]
         omega
     ·obtain rfl:j=z.length:=by omega
      have g3:¬((z.length:Nat):Int)<((z.length:Nat):Int):=by omega
      rw [List.take_length]at hno
      have HNO:=Lib.hid hno
      clear hno
      go_wp2
      refine ⟨⟨k+1,by simp,by omega,by simp,?_⟩,?_⟩
      ·rw [HT.out,List.all_append,HN0.out]
       simp [rngP,HX.out,HNO.out]
      ·simp only [intOf]
       omega
   ·have g2:(((z.length:Nat):Int) != ((n:Nat):Int))=true:=by simp;omega
    have e:R=false:=by
     rw [HR.out,List.all_eq_false]
     refine ⟨z,HIN.out,?_⟩
     unfold rngP
     simp [hx]
    subst e
    go_wp2
    go_ret
    exact ⟨rfl,rfl⟩
  ·obtain rfl:k=vals.length:=by omega
   have g1:¬((vals.length:Nat):Int)<((vals.length:Nat):Int):=by omega
   rw [List.take_length]at hno
   have e:R=true:=by rw [HR.out];exact hno
   subst e
   go_wp2
   go_ret
   exact ⟨rfl,rfl⟩
theorem own_set {w:World} {B g n c:Nat} {xs:List Int} {i:Nat} (h:w.ownsRow B 3 1 (.slice (some ⟨g,0,none⟩) n c) n (xs.map (Value.int .i64))) (z:Int):(w.setCell ⟨g,i,none⟩ (.int .i64 z)).ownsRow B 3 1 (.slice (some ⟨g,0,none⟩) n c) n ((xs.set i z).map (Value.int .i64)):=by
 obtain ⟨hl,hh⟩:=h
 rcases hh with ⟨h0,_⟩|⟨g',cap',cur,e,a2,a3,a4,a5,a6,a7⟩
 ·cases h0
 ·cases e
  refine ⟨by simpa using hl,.inr ⟨g,c,cur.setIfInBounds i (.int .i64 z),rfl,a2,heap_setCell_same _ _ _ _ _ _ a3,a4,a5,by simpa using a6,?_⟩⟩
  rw [Array.toList_setIfInBounds,List.take_set,a7,List.map_set]
theorem own_at_blk {w:World} {B g n c:Nat} {xs:List Value} (h:w.ownsRow B 3 1 (.slice (some ⟨g,0,none⟩) n c) n xs):∃cur,w.heap[g]? = some (.cells cur 3 (0,0))∧B≤g:=by
 obtain ⟨_,hh⟩:=h
 rcases hh with ⟨h0,_⟩|⟨g',cap',cur,e,a2,a3,_⟩
 ·cases h0
 ·cases e
  exact ⟨cur,a3,a2⟩
theorem own_cell {w:World} {B g n c:Nat} {xs:List Int} (h:w.ownsRow B 3 1 (.slice (some ⟨g,0,none⟩) n c) n (xs.map (Value.int .i64))) {i:Nat} {z:Int} (hi:xs[i]? = some z):w.cell? ⟨g,i,none⟩=some (.int .i64 z):=by
 have:=h.cells (g:=g) rfl i (.int .i64 z) (by rw [List.getElem?_map,hi];rfl)
 rw [show (⟨g,0,none⟩:Addr).add i=⟨g,i,none⟩by unfold Addr.add;split <;> simp_all]at this
 exact this
theorem swp (y z:Int) (D:List Int):∀P:List Int,((P ++ y :: z :: D).set (P.length+1) y).set P.length z=P ++ z :: y :: D
 | []=>rfl
 | a :: P=>by simp
theorem ins_pair {P D:List Int} {z:Int} (h:(P ++ D).Pairwise (·≤·)) (hD:∀y∈D,z≤y) (hP:∀y∈P,y≤z):(P ++ z :: D).Pairwise (·≤·):=by
 obtain ⟨h1,h2,h3⟩:=List.pairwise_append.1 h
 refine List.pairwise_append.2 ⟨h1,List.pairwise_cons.2 ⟨hD,h2⟩,fun a ha b hb=>?_⟩
 rcases List.mem_cons.1 hb with rfl|hb
 ·exact hP a ha
 ·exact h3 a ha b hb
theorem last_le {P D:List Int} {y z:Int} (h:((P ++ [y]) ++ D).Pairwise (·≤·)) (hy:y≤z):∀x∈P ++ [y],x≤z:=fun x hx=>by
 have h1:=(List.pairwise_append.1 h).1
 have h2:=(List.pairwise_append.1 h1).2.2
 rcases List.mem_append.1 hx with hx|hx
 ·have:=h2 x hx y (by simp)
  omega
 ·rw [List.mem_singleton.1 hx];exact hy
theorem sorted_w {w:World} {ex:Nat→Prop} {u:Value} {l:List Int} (h:SlI w ex u l) (hl:l.length≤1048576) :
  Calls Tryz.prog 23 #[u] w fun e w'=>∃(v:Value) (S:List Int),e=.returned v∧Below w.heap.size w w'∧S.Perm l∧S.Pairwise (·≤·)∧w'.ownsRow w.heap.size 3 1 v S.length (S.map (Value.int .i64)):=by
 obtain ⟨A,c,rfl,_,hA⟩:=h
 have g0:((l.length:Nat):Int)≤1048576:=by omega
 go_enter Tryz.func23,Tryz.ntmps23
 go_wp2
 go_loopw [3,9] (fun g i wl=>∃(k:Nat) (S:List Int),i=.int .i64 k∧k≤l.length∧S.length=k∧Below w.heap.size w wl∧wl.ownsRow w.heap.size 3 1 g S.length (S.map (Value.int .i64))∧S.Perm (l.take k)∧S.Pairwise (·≤·)) (fun _ i _=>l.length-(intOf i).toNat)
 case atStart=>exact ⟨0,[],rfl,Nat.zero_le _,rfl,Below.refl _ _,World.ownsRow_nil _ _ _ _,by simp,List.Pairwise.nil⟩
 case round =>
  obtain ⟨k,S,rfl,hk,hS,hbl,hown,hperm,hpw⟩:=hrel
  by_cases hlt:k<l.length
  ·obtain ⟨b1,o1,rfl,_,c1⟩:=hA k hlt
   have d1:=cell_same (w':=wr) c1 fun h=>hbl.block _ h
   have g1:((k:Nat):Int)<((l.length:Nat):Int):=by omega
   have htk:=List.take_succ_eq_append_getElem hlt
   obtain ⟨z,hz⟩:∃z,z=l[k]:=⟨_,rfl⟩
   rw [←hz]at d1 htk
   have HT:=Lib.hid htk
   have HS:=Lib.hid hS
   have HP:=Lib.hid hperm
   have HW:=Lib.hid hpw
   have hs3:=hbl.size
   clear hz htk c1 hA hperm hpw hS
   have gS:S.length≤1048576:=by have:=HS.out;omega
   go_wp2_with (at_builtin;(refine app_int (B0:=w.heap.size) (w0:=w) rfl _ _ rfl w.heap.size _ S.length _ rfl (hown.alloc _) z wr.heap.size rfl ?f1 (hbl.alloc hbl.size _) (Nat.le_refl _) ?f2 (by omega) ?_))
   case f1=>rw [Lib.cell_of_heap (heap_alloc_new wr _)];rfl
   case f2=>first|omega|(simp;omega)
   intro v' w4 hown4 hB4 _
   have hown4:w4.ownsRow w.heap.size 3 1 v' (S.length+1) ((S ++ [z]).map (Value.int .i64)):=by rw [List.map_append];exact hown4
   obtain ⟨g,cg,rfl⟩:∃g cg,v'=.slice (some ⟨g,0,none⟩) (S.length+1) cg:=by
    rcases hown4.2 with ⟨_,e⟩|⟨g,cap,cur,e,_⟩
    ·simp at e
    ·exact ⟨g,cap,e⟩
   clear hown d1
   go_wp2
   go_loopw [6] (fun i wl=>∃(P D:List Int),i=.int .i64 (P.length:Nat)∧S=P ++ D∧Below w.heap.size w wl∧wl.ownsRow w.heap.size 3 1 (.slice (some ⟨g,0,none⟩) (S.length+1) cg) (S.length+1) ((P ++ z :: D).map (Value.int .i64))∧∀y∈D,z≤y) (fun i _=>(intOf i).toNat)
   case atStart=>exact ⟨S,[],by simp,by simp,hB4,hown4,by simp⟩
   case round =>
    obtain ⟨P,D,rfl,hPD,hbl5,hown5,hD⟩:=hrel
    have HPD:=Lib.hid hPD
    clear hPD hown4 hB4
    have fin:(∀y∈P,y≤z)→∃S':List Int,S'.length=k+1∧S'=P ++ z :: D∧S'.Perm (l.take (k+1))∧S'.Pairwise (·≤·)∧S.length+1=S'.length:=fun hP=>by
     have h1:=HPD.out
     have h2:=HW.out
     have h3:=HP.out
     have h4:=HS.out
     rw [h1]at h2 h3
     have h5:(P ++ z :: D).length=S.length+1:=by rw [h1];simp;omega
     refine ⟨P ++ z :: D,by omega,rfl,?_,ins_pair h2 hD hP,h5.symm⟩
     rw [HT.out]
     exact List.perm_middle.trans ((h3.cons z).trans (List.perm_append_comm (l₁:=[z])))
    have HF:=Lib.hid fin
    clear fin
    rcases List.eq_nil_or_concat P with hnil|⟨P',y,hcon⟩
    ·subst hnil
     obtain ⟨S',f1,f2,f3,f4,f5⟩:=HF.out fun y hy=>absurd hy List.not_mem_nil
     go_wp2
     go_quiet (fail)
     go_wp2
     refine ⟨⟨k+1,S',by simp,by omega,f1,below_drewN hbl5 _,?_,f3,f4⟩,?_⟩
     ·rw [←f5,f2]
      exact own_at hown5 fun _ _ _=>rfl
     ·simp only [intOf]
      omega
    ·rw [List.concat_eq_append]at hcon
     subst hcon
     obtain ⟨m,hm⟩:∃m,m=P'.length:=⟨_,rfl⟩
     obtain ⟨j,hj⟩:∃j,j=m+1:=⟨_,rfl⟩
     have hPl:(P' ++ [y]).length=j:=by simp;omega
     have hSl:S.length=j+D.length:=by rw [HPD.out];simp;omega
     have cj:wr.cell? ⟨g,j,none⟩=some (.int .i64 z):=own_cell hown5 (by rw [List.getElem?_append_right (by omega),hPl];simp)
     have cm:wr.cell? ⟨g,m,none⟩=some (.int .i64 y):=own_cell hown5 (by rw [List.append_assoc,List.getElem?_append_right (by omega),hm];simp)
     rw [hPl]
     have gj:((j:Nat):Int)<((S.length:Nat):Int)+1:=by omega
     have gj2:j<S.length+1:=by omega
     have gj0:(0:Int)<((j:Nat):Int):=by omega
     have gm:((j:Nat):Int)-1=((m:Nat):Int):=by omega
     have gm0:((m:Nat):Int)<((S.length:Nat):Int)+1:=by omega
     have gm2:m<S.length+1:=by omega
     have gjn:0<j:=by omega
     have GL:=Lib.hid hPl
     have GS:=Lib.hid hSl
     have GM:=Lib.hid hm
     have GJ:=Lib.hid hj
     clear hPl hSl hm hj
     by_cases hzy:z<y
     ·go_wp2
      go_quiet (fail)
      go_wp2
      obtain ⟨w6,hw6⟩:∃w6,w6=wr.drewN nq:=⟨_,rfl⟩
      rw [←hw6]
      have own6:w6.ownsRow w.heap.size 3 1 (.slice (some ⟨g,0,none⟩) (S.length+1) cg) (S.length+1) ((P' ++ [y] ++ z :: D).map (Value.int .i64)):=by rw [hw6];exact own_at hown5 fun _ _ _=>rfl
      have hbl6:Below w.heap.size w w6:=by rw [hw6];exact below_drewN hbl5 _
      have cj6:w6.cell? ⟨g,j,none⟩=some (.int .i64 z):=by rw [hw6];exact cj
      have cm6:w6.cell? ⟨g,m,none⟩=some (.int .i64 y):=by rw [hw6];exact cm
      obtain ⟨cur,hg6,hgB⟩:=own_at_blk own6
      have fj6:w6.frozen? ⟨g,j,none⟩=false:=frozen_of_row _ _ _ _ _ hg6
      have fm6:w6.frozen? ⟨g,m,none⟩=false:=frozen_of_row _ _ _ _ _ hg6
      have o7:=own_set (i:=j) own6 y
      have o8:=own_set (i:=m) o7 z
      have b7:=below_setCell (i:=j) hbl6 hgB hg6 (.int .i64 y)
      obtain ⟨cur7,hg7,_⟩:=own_at_blk o7
      have b8:=below_setCell (i:=m) b7 hgB hg7 (.int .i64 z)
      have e8:((P' ++ [y] ++ z :: D).set j y).set m z=P' ++ z :: y :: D:=by
       rw [GJ.out,GM.out,List.append_assoc]
       exact swp y z D P'
      rw [e8]at o8
      have O8:=Lib.hid o8
      have B8:=Lib.hid b8
      clear hw6 hbl5 cj cm hown5 hg6 hown4 own6 o7 o8 b7 b8 hg7 e8 hbl6
      go_region
      go_wp2
      refine ⟨⟨P',y :: D,by rw [←GM.out],by rw [HPD.out];simp,B8.out.drew,own_at O8.out fun _ _ _=>rfl,fun x hx=>?_⟩,?_⟩
      ·rcases List.mem_cons.1 hx with rfl|hx
       ·omega
       ·exact hD x hx
      ·simp only [intOf]
       omega
     ·obtain ⟨S',f1,f2,f3,f4,f5⟩:=HF.out (last_le (by rw [←HPD.out];exact HW.out) (by omega))
      have F1:=Lib.hid f1
      have F2:=Lib.hid f2
      have F5:=Lib.hid f5
      clear f1 f2 f5
      go_wp2
      go_quiet (fail)
      go_wp2
      refine ⟨⟨k+1,S',by simp,by omega,F1.out,below_drewN hbl5 _,?_,f3,f4⟩,?_⟩
      ·rw [←F5.out,F2.out]
       exact own_at hown5 fun _ _ _=>rfl
      ·simp only [intOf]
       omega
  ·obtain rfl:k=l.length:=by omega
   have g1:¬((l.length:Nat):Int)<((l.length:Nat):Int):=by omega
   rw [List.take_length]at hperm
   go_wp2
   go_ret
   exact ⟨_,rfl,hbl,S,hperm,hpw,hown⟩
theorem never_c (n:Int) (rs:List RuleV) (pool:List PI) (l:List (Int × Int)) (vals:List (List Int)) (hr:∀r∈rs,RIn r) (hrl:rs.length≤1048576) (hl:pool.length≤1048576) (hll:l.length≤1048576) (hvl:vals.length≤1048576) (hvv:∀v∈vals,v.length≤1048576) :
  AC 6 [.agg [i64 n,rulesA rs],.sl 9 (pool.map itA),.sl 2 (l.map prA),rowsA vals] (boo true):=by
 refine ⟨⟨_,Tryz.func6,by kernel_rfl,by kernel_rfl⟩,fun w Z vs hE hz hal hrep=>?_⟩
 have hal:AllLimbs Z w:=hal rfl
 obtain ⟨v1,v2,v3,v4,rfl,q1,q2,q3,q4⟩:=rps4 hrep
 obtain ⟨x,rfl,qr⟩:=spec_val q1
 obtain ⟨Ar,cr,rfl,_,_⟩:=rules_row qr
 obtain ⟨Ap,cp,rfl,_⟩:=items_row3 q2
 obtain ⟨Av,cv,rfl,hval⟩:=q4.row1 (fun d hd=>by obtain ⟨z,_,rfl⟩:=List.mem_map.1 hd;rfl)
 rw [List.length_map]at *
 clear hrep q1
 change Calls Tryz.prog _ _ w _
 have AW:∀X,Below w.heap.size w X→Calls Tryz.prog 11 #[] X fun e w'=>e=.returned (.bool true)∧Below X.heap.size X w':=fun X hX=>by
  refine (ac_call hE hz hal awake_c X _ hX (.agg rfl fun j hj=>absurd hj (by simp))).mono ?_
  rintro e w2 ⟨u,rfl,hb2,hr2⟩
  obtain rfl:=hr2.lit_eq
  exact ⟨rfl,hb2⟩
 have HAW:=Lib.hid AW
 obtain ⟨W1,hW1⟩:∃W1,W1=w.alloc (.cells #[.int .i64 n,.slice Ar rs.length cr] 24):=⟨_,rfl⟩
 have hB1:Below w.heap.size w W1:=by rw [hW1];exact (Below.refl _ _).alloc (Nat.le_refl _) _
 have hS1:W1.heap[w.heap.size]? = some (.cells #[.int .i64 n,.slice Ar rs.length cr] 24 (0,0)):=by rw [hW1];exact heap_alloc_new w _
 have BO:=bounded_w (w:=W1) (n:=n) (A:=Ar) (B:=Ap) (c:=cr) (d:=cp) hrl hl
 have HBO:=Lib.hid BO
 have gvl:((vals.length:Nat):Int)≤1048576:=by omega
 clear AW BO
 have s0:W1.cell? ⟨w.heap.size,0,none⟩=some (.int .i64 n):=by rw [Lib.cell_of_heap hS1];rfl
 have s1:W1.cell? ⟨w.heap.size,1,none⟩=some (.slice Ar rs.length cr):=by rw [Lib.cell_of_heap hS1];rfl
 obtain ⟨bd,hbd⟩:∃bd,bd=(decide (pool.length≤9) && decide (rs.length≤6)):=⟨_,rfl⟩
 rw [←hbd]at HBO
 have HBD:=Lib.hid hbd
 have HVAL:=Lib.hid hval
 clear hbd hval
 go_enter Tryz.func6,Tryz.ntmps6
 go_upto_region 1 with fail
 rw [←hW1]
 clear hW1
 go_wp2_with (go_at_call 10;go_loud (refine HBO.out.mono ?_))
 intro e w2 h0
 first|(have hb2:=And.right h0;have he:=And.left h0)|(intro hb2;have he:=h0)
 subst he
 have hB2:Below w.heap.size w w2:=hB1.trans (hb2.mono hB1.size)
 have hS2:=blk_call hS1 hb2
 have HA:=Lib.hid (HAW.out w2 hB2)
 cases bd with
 | false =>
  clear s0 s1
  go_wp2_with (go_at_call 11;go_loud (refine HA.out.mono ?_))
  intro e w3 h0
  first|(have hb3:=And.right h0;have he:=And.left h0)|(intro hb3;have he:=h0)
  subst he
  go_wp2
  go_ret
  exact ⟨_,rfl,hB2.trans (hb3.mono hB2.size),.lit rfl⟩
 | true =>
  have hbd:=HBD.out.symm
  rw [Bool.and_eq_true,decide_eq_true_eq,decide_eq_true_eq]at hbd
  obtain ⟨hp9,hr6⟩:=hbd
  have h20:varsE rs pool<20:=by
   have:=setsN_le rs
   unfold varsE
   omega
  have s0:w2.cell? ⟨w.heap.size,0,none⟩=some (.int .i64 n):=by rw [Lib.cell_of_heap hS2];rfl
  have s1:w2.cell? ⟨w.heap.size,1,none⟩=some (.slice Ar rs.length cr):=by rw [Lib.cell_of_heap hS2];rfl
  by_cases hlen:((vals.length:Nat):Int)=n
  case neg =>
   have g1:(((vals.length:Nat):Int) != n)=true:=by simpa using hlen
   clear hlen
   go_wp2_with (go_at_call 11;go_loud (refine HA.out.mono ?_))
   intro e w3 h0
   first|(have hb3:=And.right h0;have he:=And.left h0)|(intro hb3;have he:=h0)
   subst he
   go_wp2
   go_ret
   exact ⟨_,rfl,hB2.trans (hb3.mono hB2.size),.lit rfl⟩
  have g1:(((vals.length:Nat):Int) != n)=false:=by simpa using hlen
  have HLEN:=Lib.hid hlen
  have gp:((pool.length:Nat):Int)≤1048576:=by omega
  have CR:=ranged_w (q4.keep (Keeps.ofBelow hB2) (Z':=grown Z w w2) fun _ _ h=>.inl h) hvl hvv pool.length hl
  obtain ⟨R,hR⟩:∃R,R=vals.all (rngP pool.length):=⟨_,rfl⟩
  rw [←hR]at CR
  have HCR:=Lib.hid CR
  have HR:=Lib.hid hR
  clear hlen CR hR
  go_wp2_with (go_at_call 21;go_loud (refine HCR.out.mono ?_))
  intro e w3 h0
  first|(have he:=And.left h0;have hw:=And.right h0)|(intro hw;have he:=h0)
  subst he
  subst w3
  cases R with
  | false =>
   go_wp2_with (go_at_call 11;go_loud (refine HA.out.mono ?_))
   intro e w3 h0
   first|(have hb3:=And.right h0;have he:=And.left h0)|(intro hb3;have he:=h0)
   subst he
   go_wp2
   go_ret
   exact ⟨_,rfl,hB2.trans (hb3.mono hB2.size),.lit rfl⟩
  | true =>
   by_cases hn1:n<1
   ·go_wp2_with (go_at_call 11;go_loud (refine HA.out.mono ?_))
    intro e w3 h0
    first|(have hb3:=And.right h0;have he:=And.left h0)|(intro hb3;have he:=h0)
    subst he
    go_wp2
    go_ret
    exact ⟨_,rfl,hB2.trans (hb3.mono hB2.size),.lit rfl⟩
   have hv0:0<vals.length:=by have:=HLEN.out;omega
   obtain ⟨bv,ov,u0,rfl,c0,_,hr0⟩:=HVAL.out 0 (by rw [List.length_map];exact hv0)
   rw [List.getElem_map]at hr0
   have c0:w2.cell? ⟨bv,ov,none⟩=some u0:=cell_same (w':=w2) c0 fun hb=>hB2.block _ hb
   obtain ⟨v0,tl,hvs⟩:∃v0 tl,vals=v0 :: tl:=by
    cases vals with
    | nil=>simp at hv0
    | cons v0 tl=>exact ⟨v0,tl,rfl⟩
   have e0:vals[0]=v0:=by simp [hvs]
   rw [e0]at hr0
   have gv0:(0:Int)<((vals.length:Nat):Int):=by omega
   have hall:∀u∈vals,u.length=pool.length∧u.any badV=false:=fun u hu=>by
    have:=List.all_eq_true.1 HR.out.symm u hu
    unfold rngP at this
    rw [Bool.and_eq_true,decide_eq_true_eq]at this
    exact ⟨this.1,by simpa using this.2⟩
   have hvl0:v0.length≤1048576:=hvv v0 (by rw [hvs];simp)
   have hlen1:(((v0 :: tl).length:Nat):Int)=n:=by rw [←hvs];exact HLEN.out
   have HALL:=Lib.hid hall
   have HVS:=Lib.hid hvs
   have HL1:=Lib.hid hlen1
   have grz:∀{X:World},Below w.heap.size w X→∀b o,grown Z w X b o→b<X.heap.size:=fun {X} hX b o h=>by
    rcases h with h|h
    ·exact Nat.lt_of_lt_of_le (hz b o h) hX.size
    ·exact h.2
   have hB3:Below w.heap.size w w2.drew:=hB2.drew
   have T1:=at_call hE (stest_c n rs pool l [] v0 hl hvl0 (by simp) hr h20) w2.drew (grown Z w w2.drew) #[.agg #[.int .i64 n,.slice Ar rs.length cr],.slice Ap pool.length cp,v3,.slice none 0 0,u0] hB3 (grz hB3) (rep_5 (spec2_of (qr.keep (Keeps.ofBelow hB3) fun _ _ h=>.inl h)) (q2.keep (Keeps.ofBelow hB3) fun _ _ h=>.inl h) (q3.keep (Keeps.ofBelow hB3) fun _ _ h=>.inl h) .nil (hr0.keep (Keeps.ofBelow hB3) fun _ _ h=>.inl h))
   obtain ⟨A0,k0,eu0,_⟩:=SlI.of_rep hr0
   subst eu0
   generalize (testE n rs pool l [] v0).1=TL at T1
   obtain ⟨E,hEr⟩:∃E,E=(testE n rs pool l [] v0).2:=⟨_,rfl⟩
   rw [←hEr]at T1
   have HT1:=Lib.hid T1
   have HER:=Lib.hid hEr
   have KK:∀X,Below w2.heap.size w2 X→X.cell? ⟨w.heap.size,0,none⟩=some (.int .i64 n)∧X.cell? ⟨w.heap.size,1,none⟩=some (.slice Ar rs.length cr)∧X.cell? ⟨bv,ov,none⟩=some (.slice A0 v0.length k0):=fun X hX=>by
    have hS:=blk_call hS2 hX
    exact ⟨by rw [Lib.cell_of_heap hS];rfl,by rw [Lib.cell_of_heap hS];rfl,cell_same c0 fun h=>hX.block _ h⟩
   have HKK:=Lib.hid KK
   have bd:Below w2.heap.size w2 w2.drew:=(Below.refl _ _).drew
   clear T1 hall hvs hlen1 e0 hr0 KK hEr
   go_wp2
   go_upto_region 3 with fail
   go_cut [10] (fun m wx=>m=.int .i64 E∧Below w2.heap.size w2 wx)
   case first =>
    go_region_held3 (fun w'=>w'.cell? ⟨w.heap.size,0,none⟩=some (.int .i64 n)∧w'.cell? ⟨w.heap.size,1,none⟩=some (.slice Ar rs.length cr)∧w'.cell? ⟨bv,ov,none⟩=some (.slice A0 v0.length k0)) (with_reducible first|exact HKK.out _ (Below.refl _ _)|exact HKK.out _ bd|exact HKK.out _ b3) (first|(go_at_call 12;refine HT1.out.mono ?_;rintro e w4 ⟨v,rfl,hb3,hr3⟩;have b3:=bd.trans (hb3.mono bd.size);obtain ⟨tv,te,rfl,r1,r2⟩:=tup2_val hr3;obtain rfl:=r2.lit_eq))
    all_goals (go_wp2_with fail;go_meet)
    all_goals exact ⟨rfl,b3⟩
   case rest =>
    obtain ⟨rfl,hbc⟩:=hcut
    have hB4:Below w.heap.size w wc:=hB2.trans (hbc.mono hB2.size)
    have hS4:=blk_call hS2 hbc
    clear s0 s1 c0 hB3 bd HKK HT1
    have s0:wc.cell? ⟨w.heap.size,0,none⟩=some (.int .i64 n):=by rw [Lib.cell_of_heap hS4];rfl
    have s1:wc.cell? ⟨w.heap.size,1,none⟩=some (.slice Ar rs.length cr):=by rw [Lib.cell_of_heap hS4];rfl
    have WA:=at_call hE (swalk_c n rs pool l vals hl hvl hvv hr h20) wc (grown Z w wc) #[.agg #[.int .i64 n,.slice Ar rs.length cr],.slice Ap pool.length cp,v3,.slice (some ⟨bv,ov,none⟩) vals.length cv] hB4 (grz hB4) (rep_4 (spec2_of (qr.keep (Keeps.ofBelow hB4) fun _ _ h=>.inl h)) (q2.keep (Keeps.ofBelow hB4) fun _ _ h=>.inl h) (q3.keep (Keeps.ofBelow hB4) fun _ _ h=>.inl h) (q4.keep (Keeps.ofBelow hB4) fun _ _ h=>.inl h))
    by_cases hE0:E≠0
    ·have he:=ns_err (vs:=tl) HL1.out (by rw [←HER.out];exact hE0)
     rw [←HER.out,←HVS.out]at he
     rw [he]at WA
     have HWA:=Lib.hid WA
     have g3:(E != 0)=true:=by simpa using hE0
     clear WA he hE0
     go_wp2_with (go_at_call 19;go_loud (refine HWA.out.mono ?_))
     first|rintro e w5 v rfl hb5 hr5|rintro e w5 ⟨v,rfl,hb5,hr5⟩
     obtain ⟨tv,te,rfl,r1,r2⟩:=tup2_val hr5
     obtain rfl:=r2.lit_eq
     obtain ⟨Al,cl,el⟩:=sl_len r1
     have el:tv=.slice Al 0 cl:=el
     subst el
     have hB5:Below w.heap.size w w5:=hB4.trans (hb5.mono hB4.size)
     have HA5:=Lib.hid (HAW.out w5 hB5)
     clear hr5 r1 r2 s0 s1
     go_wp2_with (go_at_call 11;go_loud (refine HA5.out.mono ?_))
     intro e w6 h0
     first|(have hb6:=And.right h0;have he:=And.left h0)|(intro hb6;have he:=h0)
     subst he
     go_wp2
     go_ret
     exact ⟨_,rfl,hB5.trans (hb6.mono hB5.size),.lit rfl⟩
    have hE1:E=0:=Classical.not_not.1 hE0
    obtain ⟨L,hw,hLn,hbro⟩:=ns_ok (vs:=tl) HL1.out (fun u hu=>HALL.out u (by rw [HVS.out];simp [hu])) (by rw [←HER.out];exact hE1)
    rw [←HVS.out]at hw
    rw [hw]at WA
    have HWA:=Lib.hid WA
    have g2:((L.length:Nat):Int)=n:=hLn
    have g4:(((L.length:Nat):Int) != n)=false:=by simpa using hLn
    have hL:L.length≤1048576:=by have:=HLEN.out;omega
    have HBRO:=Lib.hid hbro
    clear WA hw hE0 hLn hbro g2
    subst hE1
    go_wp2_with (go_at_call 19;go_loud (refine HWA.out.mono ?_))
    first|rintro e w5 v rfl hb5 hr5|rintro e w5 ⟨v,rfl,hb5,hr5⟩
    obtain ⟨tv,te,rfl,r1,r2⟩:=tup2_val hr5
    obtain rfl:=r2.lit_eq
    have hsl:=SlI.of_rep r1
    obtain ⟨Al,cl,rfl⟩:=hsl.len
    have hB5:Below w.heap.size w w5:=hB4.trans (hb5.mono hB4.size)
    have hS5:=blk_call hS4 hb5
    clear hr5 r2 s0 s1
    have s0:w5.cell? ⟨w.heap.size,0,none⟩=some (.int .i64 n):=by rw [Lib.cell_of_heap hS5];rfl
    have s1:w5.cell? ⟨w.heap.size,1,none⟩=some (.slice Ar rs.length cr):=by rw [Lib.cell_of_heap hS5];rfl
    have SO:=sorted_w (w:=w5.drew) (hsl.keep fun b h1 h2=>⟨rfl,h1⟩) hL (ex:=fun b=>b<w5.heap.size)
    have BR:∀(w6:World) (v:Value) (S:List Int),Below w5.drew.heap.size w5.drew w6→S.Perm L→S.Pairwise (·≤·)→w6.ownsRow w5.drew.heap.size 3 1 v S.length (S.map (Value.int .i64))→Calls Tryz.prog 22 #[.agg #[.int .i64 n,.slice Ar rs.length cr],.slice Ap pool.length cp,v3,v] w6 fun e w7=>∃Ab cb,e=.returned (.tuple #[.slice Ab 0 cb,.int .i64 0])∧Below w6.heap.size w6 w7:=fun w6 v S hb6 hp hs ho=>by
     have hB6:Below w.heap.size w w6:=hB5.drew.trans (hb6.mono hB5.drew.size)
     have C:=bro_c n rs pool l S hr hl hll (by rw [hp.length_eq];exact hL)
     rw [HBRO.out S hp hs]at C
     refine (ac_call hE hz hal C w6 #[.agg #[.int .i64 n,.slice Ar rs.length cr],.slice Ap pool.length cp,v3,v] hB6 (rep_4 (spec2_of (qr.keep (Keeps.ofBelow hB6) fun _ _ h=>.inl h)) (q2.keep (Keeps.ofBelow hB6) fun _ _ h=>.inl h) (q3.keep (Keeps.ofBelow hB6) fun _ _ h=>.inl h) (own_rep rfl ho hB5.drew.size))).mono ?_
     rintro e w7 ⟨u,rfl,hb7,hr7⟩
     obtain ⟨bv,be,rfl,t1,t2⟩:=tup2_val hr7
     obtain rfl:=t2.lit_eq
     obtain ⟨Ab,cb,eb⟩:=sl_len t1
     have eb:bv=.slice Ab 0 cb:=eb
     subst eb
     exact ⟨Ab,cb,rfl,hb7⟩
    have HSO:=Lib.hid SO
    have HBR:=Lib.hid BR
    have KK:∀X,Below w5.heap.size w5 X→X.cell? ⟨w.heap.size,0,none⟩=some (.int .i64 n)∧X.cell? ⟨w.heap.size,1,none⟩=some (.slice Ar rs.length cr):=fun X hX=>by
     have hS:=blk_call hS5 hX
     exact ⟨by rw [Lib.cell_of_heap hS];rfl,by rw [Lib.cell_of_heap hS];rfl⟩
    have HKK:=Lib.hid KK
    have bd:Below w5.heap.size w5 w5.drew:=(Below.refl _ _).drew
    clear SO BR KK r1 hsl
    go_wp2
    go_upto_region 9 with fail
    go_cut [13,14] (fun m e' wx=>(∃A c,m=.slice A 0 c)∧e'=.int .i64 0∧Below w5.heap.size w5 wx)
    case first =>
     go_region_held3 (fun w'=>w'.cell? ⟨w.heap.size,0,none⟩=some (.int .i64 n)∧w'.cell? ⟨w.heap.size,1,none⟩=some (.slice Ar rs.length cr)) (with_reducible first|exact HKK.out _ (Below.refl _ _)|exact HKK.out _ bd|exact HKK.out _ b6|exact HKK.out _ b7) (first|(go_at_call 23;refine HSO.out.mono ?_;rintro e w6 ⟨v6,S6,rfl,hb6,hp6,hs6,ho6⟩;have b6:=bd.trans (hb6.mono bd.size))|(go_at_call 22;refine (HBR.out _ _ _ hb6 hp6 hs6 ho6).mono ?_;rintro e w7 ⟨Ab,cb,rfl,hb7⟩;have b7:=b6.trans (hb7.mono b6.size)))
     all_goals (go_wp2_with fail;go_meet)
     all_goals exact ⟨⟨_,_,rfl⟩,rfl,b7⟩
    case rest =>
     obtain ⟨⟨A9,c9,rfl⟩,rfl,hb9⟩:=hcut
     have hB9:Below w.heap.size w wc:=hB5.trans (hb9.mono hB5.size)
     have HA9:=Lib.hid (HAW.out wc hB9)
     clear s0 s1
     go_wp2_with (go_at_call 11;go_loud (refine HA9.out.mono ?_))
     intro e w6 h0
     first|(have hb6:=And.right h0;have he:=And.left h0)|(intro hb6;have he:=h0)
     subst he
     go_wp2
     go_ret
     exact ⟨_,rfl,hB9.trans (hb6.mono hB9.size),.lit rfl⟩
theorem snever.law (as':List AV) (h:OkA 1048576 [shSp,.sl shPI,.sl shPr,.sl (.sl shI)] as'):AC 6 as' (boo true):=by
 obtain ⟨a,r1,rfl,h1,q1⟩:=okA_more h
 obtain ⟨b,r2,rfl,h2,q2⟩:=okA_more q1
 obtain ⟨c,r3,rfl,h3,q3⟩:=okA_more q2
 obtain ⟨d,rfl,h4⟩:=okA_one q3
 obtain ⟨⟨n,rs⟩,rfl,hn,hrl,hr⟩:=h1.den
 obtain ⟨pool,rfl,hpl,_⟩:=h2.den
 obtain ⟨l,rfl,hll,_⟩:=h3.den
 obtain ⟨vals,rfl,hvl,hvv⟩:=h4.den
 have:=never_c n (rs.map toRu) pool l vals (fun r hr'=>by
  obtain ⟨x,hx,rfl⟩:=List.mem_map.1 hr'
  obtain ⟨_,q2,q3,q4,q5⟩:=hr x hx
  exact ⟨i64_z q2,i64_z q3,i64_z q4,q5⟩) (Nat.le_trans (Nat.le_of_eq (List.length_map toRu)) hrl) hpl hll hvl (fun v hv=>(hvv v hv).1)
 exact ac_swap (specs_den n rs) (pool_top pool) this
end Go.Proofs.YtmekiphpjpblpaaGreat
namespace Go.Proofs.YtmekiphpjpblpaaGreat
open Go.ChangeShapes Go.WideShapes Go.ChangeAt Go.RowKit Lim
namespace snever
theorem own:ownKnob Tryz.prog.godebug=none:=by kernel_rfl
theorem laidOut:laidOutB Tryz.prog=true:=by kernel_rfl
theorem env_of {W:World} (hs:W.ShapedOpen Tryz.prog):Env W :=
 ⟨Go.Proofs.cell_of_shapedOpen_int (zero:=#[.int .i64 0]) (t:=3) hs (of_decide_eq_true (by kernel_rfl)) (by kernel_rfl) rfl (by kernel_rfl) (by kernel_rfl) Tryz.underlying3,fun _ _ h=>by cases h⟩
def arg0:Array Value:=#[.agg #[.int .i64 0,.slice none 0 0],.slice none 0 0,.slice none 0 0,.slice none 0 0]
theorem laid_met (os:Os):laidMetH Tryz.prog Rows.shadowNeverStuckUptoRow.laid ((World.laidAll Tryz.prog os Rows.shadowNeverStuckUptoRow.laid).forCall (fun _ _=>0) ⟨#[],arg0,[]⟩).memory:=by
 rw [MakeChecks.laidMetH_plain _ _ _ (by kernel_rfl)]
 exact laidMet_laidAll _ (by kernel_rfl) (by kernel_rfl)
theorem reads (os:Os) {H:Type} (enc:TypeId × Value→H):∃places,DataW.whole enc Tryz.prog ((World.laidAll Tryz.prog os Rows.shadowNeverStuckUptoRow.laid).forCall (fun _ _=>0) ⟨#[],arg0,[]⟩).memory Tryz.f6.params.toList Rows.shadowNeverStuckSpec.vars false arg0.toList 8=some ([.agg [.lit (.int .i64 0),.nil],.nil,.nil,.nil],[],places) :=
 ⟨[],by kernel_rfl⟩
theorem contract (H:Type) (enc:TypeId × Value→H) (W:World) (base:Nat) (args:Array Value) (ds gs:List (DataW H)) (before:List MemPlace)
  (hval:∀(j:Nat) t v,Tryz.f6.params[j]? = some t→args[j]? = some v→Value.okWide Tryz.prog W .any base t v)
  (hW:DataW.Whole enc Tryz.prog Tryz.f6.params.toList Rows.shadowNeverStuckSpec.vars false W args.toList ds gs before) (hE:Env W) (hu:Rows.uptoSmall H (ds ++ gs)=true) :
  Calls Tryz.prog 6 args W fun e W'=>∃v,e=.returned v∧Rows.shadowNeverStuckSpec.post enc Tryz.prog Tryz.f6 false true false false W args v W' :=
 law_row laidOut Tryz.underlying4 rfl (by kernel_rfl) (by kernel_rfl) [shSp,(.sl shPI),(.sl shPr),(.sl (.sl shI))] (by kernel_rfl) (fun ds hd=>by
  match ds,hd with
  | [d0,d1,d2,d3],_=>rfl) law hval hW hE hu
theorem liftedUpto (os:Os) (started:os.Started) (H:Type) (enc:TypeId × Value→H) (F:Stop.Interp) :
  ReturnsInHanded {} Tryz.checked os 6 .any ((Rows.OpenSpec.upto Rows.shadowNeverStuckSpec).preRow enc Tryz.prog Tryz.f6 Rows.shadowNeverStuckUptoRow.domain false Rows.shadowNeverStuckUptoRow.laid) (((Rows.OpenSpec.upto Rows.shadowNeverStuckSpec).at F).post enc Tryz.prog Tryz.f6 false true false false):=by
 obtain ⟨places,hx⟩:=reads os enc
 refine returnsInHanded_of_row (C:=Tryz.checked) (s:=Rows.OpenSpec.upto Rows.shadowNeverStuckSpec) own started (by kernel_rfl) Tryz.func6
  (witness_row_at (enc:=enc) (C:=Tryz.checked) false (World.laidAll Tryz.prog os Rows.shadowNeverStuckUptoRow.laid) arg0 (World.laidAll_os _ _ _) (by kernel_rfl) (by kernel_rfl) (by kernel_rfl)
   (OpenSpec.preRow_of_cond 8 hx (by kernel_rfl) (fun k hk=>by cases hk;kernel_rfl) (by kernel_rfl) (laid_met os))) ?_
 intro W base args ds gs before hval hW _ hcond _ hL hsh _
 exact contract H enc W base args ds gs before hval hW (env_of hsh) (hcond _ rfl)
theorem saidUpto:Rows.ShadowNeverStuckUptoSaid :=
 OpenClaim.holds_of_cond 6 Tryz.f6 rfl rfl rfl rfl rfl rfl rfl ⟨rfl,rfl,rfl,rfl,rfl⟩ rfl rfl rfl rfl rfl (by kernel_rfl) Tryz.func6 (by kernel_rfl)
  (of_decide_eq_true (by kernel_rfl)) (by unfold Func.isWrapper;first|(rw [if_pos (by decide +kernel)];kernel_rfl)|(rw [if_neg (by decide +kernel)];exact ⟨rfl,rfl⟩))
  (fun os started H enc _ F=>by rw [OpenClaim.pre_eq_preRow];exact liftedUpto os started H enc F)
end snever
end Go.Proofs.YtmekiphpjpblpaaGreat
