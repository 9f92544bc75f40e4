import Derived.Test.YtmekiphpjpblpaaGreatC3
/- Texts merged: Ph Su. -/
set_option linter.unusedSimpArgs false
set_option linter.unusedVariables false
set_option maxHeartbeats 40000000
set_option maxRecDepth 100000
namespace Go.Proofs.YtmekiphpjpblpaaGreat
open Go.RowKit Lim
def PRes (n:Int) (rs:List RuleV) (pool:List PI) (l:List (Int × Int)) (val:List Int) (w0 w:World) (Z:Zone) (v:Value):Prop :=
 Rep w (grown Z w0 w) (.tup [prbR n rs pool l val,i64 (probE n rs pool l val)]) v∧(probE n rs pool l val=0→∃x y G,v=.tuple #[.agg #[x,y,.slice (some ⟨G,0,none⟩) (varsE rs pool) (varsE rs pool)],.int .i64 0]∧w0.heap.size≤G∧w.heap[G]? = some (.cells ((fixE rs pool (varsE rs pool)).map (Value.int .i64)).toArray 3 (0,0)) ∧
  Rep w (fun b o=>grown Z w0 w b o∧b≠G) (.sl 1 ((valE val (varsE rs pool)).map fun z=>i64 z)) x∧Rep w (fun b o=>grown Z w0 w b o∧b≠G) (.sl 3 ((consE n rs pool (varsE rs pool) pool.length l).map rwA)) y)
theorem perr2 {w0 w:World} {Z:Zone} {n:Int} {rs:List RuleV} {pool:List PI} {l:List (Int × Int)} {val:List Int} {e:Int} (h:probE n rs pool l val=e) (he:e≠0):PRes n rs pool l val w0 w Z (.tuple #[.agg #[.slice none 0 0,.slice none 0 0,.slice none 0 0],.int .i64 e]) :=
 ⟨prob_err h he,fun h0=>absurd (h.symm.trans h0) he⟩
theorem prob_s (n:Int) (rs:List RuleV) (pool:List PI) (l:List (Int × Int)) (val:List Int) (hl:pool.length≤1048576) (hvl:val.length≤1048576) (hr:∀r∈rs,RIn r) :
  ∀(w:World) (Z:Zone) (vs:Array Value),Env w→(∀b o,Z b o→b<w.heap.size)→Rep w Z (.agg [.agg [i64 n,rulesA rs],.sl 9 (pool.map itA),.sl 2 (l.map prA),.sl 1 (val.map fun z=>i64 z)]) (.agg vs)→Calls Tryz.prog 44 vs w fun e w'=>∃v,e=.returned v∧Below w.heap.size w w'∧PRes n rs pool l val w w' Z v:=by
 intro w Z vs hE hz hrep
 obtain ⟨v1,v2,v3,v4,rfl,q1,q2,q3,q4⟩:=reps4 hrep
 obtain ⟨x,rfl,qr⟩:=spec_val q1
 obtain ⟨Av,cv,rfl,hval⟩:=q4.row1 (fun d hd=>by obtain ⟨z,_,rfl⟩:=List.mem_map.1 hd;rfl)
 rw [List.length_map]at *
 obtain ⟨Ap,cp,rfl,hpg⟩:=items_row3 q2
 clear hrep q1
 change Calls Tryz.prog _ _ w _
 obtain ⟨W1,hW1⟩:∃W1,W1=(w.alloc (.cells #[.int .i64 n,x] 24)).alloc prob0:=⟨_,rfl⟩
 have hB1:Below w.heap.size w W1:=by rw [hW1];exact ((Below.refl _ _).alloc (Nat.le_refl _) _).alloc (by simp) _
 have hs1:W1.heap[w.heap.size]? = some (.cells #[.int .i64 n,x] 24 (0,0)):=by rw [hW1,Lib.alloc_old _ _ _ (by simp)];exact heap_alloc_new w _
 have hp1:W1.heap[w.heap.size+1]? = some prob0:=by
  rw [hW1]
  have:=heap_alloc_new (w.alloc (.cells #[.int .i64 n,x] 24)) prob0
  rw [show (w.alloc (.cells #[.int .i64 n,x] 24)).heap.size=w.heap.size+1 by simp]at this
  exact this
 have hsz:w.heap.size+1<W1.heap.size:=(Array.getElem?_eq_some_iff.1 hp1).1
 go_enter Tryz.func44,Tryz.ntmps44
 go_wp2_with (go_at_call 40;go_loud (rw [←hW1];refine (at_call hE (task_w n rs pool l hl) W1 Z _ hB1 (fun b o h=>Nat.lt_of_lt_of_le (hz b o h) hB1.size) (rep_3 (spec2_of (qr.keep (Keeps.ofBelow hB1) fun _ _ h=>h)) (q2.keep (Keeps.ofBelow hB1) fun _ _ h=>h) (q3.keep (Keeps.ofBelow hB1) fun _ _ h=>h))).mono ?_))
 rintro e w2 ⟨ve,rfl,hb2,hr2⟩
 obtain rfl:=hr2.lit_eq
 clear hr2 hW1
 have hB2:Below w.heap.size w w2:=hB1.trans (hb2.mono hB1.size)
 have hs2:=(hb2.block _ (Nat.lt_of_succ_lt hsz)).trans hs1
 have hp2:=(hb2.block _ hsz).trans hp1
 clear hb2 hs1 hp1 hsz hB1
 obtain ⟨pe,hpe⟩:∃pe,pe=probE n rs pool l val:=⟨_,rfl⟩
 have hpe':=hpe
 unfold probE at hpe'
 by_cases ht:taskE n rs pool l=0
 case neg =>
  rw [if_pos ht]at hpe'
  obtain ⟨te,hte⟩:∃te,te=taskE n rs pool l:=⟨_,rfl⟩
  rw [←hte]at ht hpe' ⊢
  clear hte
  go_wp2_with (refine wpList_store_row rfl tProb (.tmp 8) _ rfl (w.heap.size+1) #[.slice none 0 0,.slice none 0 0,.slice none 0 0] rfl rfl _ _ hp2 prob_info rfl all_prob ?_)
  go_wp2
  try simp only [Exit.inBlock,Exit.then]
  refine prob_ret rfl rfl rfl (setRow_heap _ _ _ _ _ _ hp2) ?_
  exact ⟨_,rfl,below_setRow hB2 (by omega) _,perr2 (hpe.symm.trans hpe') ht⟩
 rw [if_neg (by simp [ht])]at hpe'
 rw [ht]
 obtain ⟨h18,h20,h400,hok⟩:=ptask_ok ht
 by_cases hlen:val.length=pool.length
 case neg =>
  rw [if_pos hlen]at hpe'
  have gI:((val.length:Nat):Int)≠((pool.length:Nat):Int):=by omega
  clear hval hpg
  go_wp2_with (refine wpList_store_row rfl tProb (.tmp 8) _ rfl (w.heap.size+1) #[.slice none 0 0,.slice none 0 0,.slice none 0 0] rfl rfl _ _ hp2 prob_info rfl all_prob ?_)
  go_wp2
  try simp only [Exit.inBlock,Exit.then]
  refine prob_ret rfl rfl rfl (setRow_heap _ _ _ _ _ _ hp2) ?_
  exact ⟨_,rfl,below_setRow hB2 (by omega) _,perr2 (hpe.symm.trans hpe') (by decide)⟩
 rw [if_neg (by simp [hlen])]at hpe'
 have gI:((val.length:Nat):Int)=((pool.length:Nat):Int):=by omega
 have gl:((val.length:Nat):Int)≤18:=by omega
 go_upto_region 6 with fail
 go_wp2
 go_loopw [35] (fun i wl=>∃k:Nat,i=.int .i64 k∧k≤val.length∧wl=w2∧∀j (hj:j<val.length),j<k→badV (val[j]'hj)=false) (fun i _=>val.length-(intOf i).toNat)
 case atStart=>exact ⟨0,rfl,Nat.zero_le _,rfl,fun _ _ h=>absurd h (Nat.not_lt_zero _)⟩
 case round =>
  obtain ⟨k,rfl,hk,hw,hgood⟩:=hrel
  subst hw
  by_cases hlt:k<val.length
  ·obtain ⟨b,off,u,rfl,hc,_,hrp⟩:=hval k (by rw [List.length_map];exact hlt)
   rw [List.getElem_map]at hrp
   obtain rfl:=hrp.lit_eq
   have hc2:=(hB2.cell (p:=⟨b,off+k,none⟩) (World.block_lt_of_cell? w _ hc)).trans hc
   have hbad:badV (val[k]'hlt)=true→val.any badV=true:=fun h=>List.any_eq_true.2 ⟨_,List.getElem_mem hlt,h⟩
   have hgd:badV (val[k]'hlt)=false→∀j (hj:j<val.length),j<k+1→badV (val[j]'hj)=false:=fun h j hj hj2=>by
    by_cases e:j=k
    ·subst e;exact h
    ·exact hgood j hj (by omega)
   clear hc hrp hval hpg hgood
   generalize val[k]=z at *
   have g2:((k:Nat):Int)<((val.length:Nat):Int):=by omega
   by_cases c1:z < -1000000
   ·rw [if_pos (hbad (by simp [badV,c1]))]at hpe'
    go_wp2_with (refine wpList_store_row rfl tProb (.tmp 8) _ rfl (w.heap.size+1) #[.slice none 0 0,.slice none 0 0,.slice none 0 0] rfl rfl _ _ hp2 prob_info rfl all_prob ?_)
    go_wp2
    try simp only [Exit.inBlock,Exit.then]
    refine prob_ret rfl rfl rfl (setRow_heap _ _ _ _ _ _ hp2) ?_
    exact ⟨_,rfl,below_setRow hB2 (by omega) _,perr2 (hpe.symm.trans hpe') (by decide)⟩
   by_cases c2:1000000<z
   ·rw [if_pos (hbad (by simp [badV,c2]))]at hpe'
    go_wp2_with (refine wpList_store_row rfl tProb (.tmp 8) _ rfl (w.heap.size+1) #[.slice none 0 0,.slice none 0 0,.slice none 0 0] rfl rfl _ _ hp2 prob_info rfl all_prob ?_)
    go_wp2
    try simp only [Exit.inBlock,Exit.then]
    refine prob_ret rfl rfl rfl (setRow_heap _ _ _ _ _ _ hp2) ?_
    exact ⟨_,rfl,below_setRow hB2 (by omega) _,perr2 (hpe.symm.trans hpe') (by decide)⟩
   go_wp2
   refine ⟨⟨k+1,by simp,by omega,by simp,hgd (by simp [badV];omega)⟩,?_⟩
   simp only [intOf]
   omega
  ·obtain rfl:k=pool.length:=by omega
   have g2:¬((pool.length:Nat):Int)<((pool.length:Nat):Int):=by omega
   have hany:val.any badV=false:=by
    rw [←Bool.not_eq_true,List.any_eq_true]
    rintro ⟨z,hz1,hz2⟩
    obtain ⟨j,hj,rfl⟩:=List.mem_iff_getElem.1 hz1
    rw [hgood j hj (by omega)]at hz2
    exact absurd hz2 (by simp)
   rw [if_neg (by rw [hany];simp)]at hpe'
   clear hgood hval hany gl hk hlt g2
   obtain ⟨Ar,cr,rfl,_,hrul⟩:=rules_row qr
   have hlen20:((rs.length:Nat):Int)≤20:=by omega
   have hplen:((pool.length:Nat):Int)≤18:=by omega
   have c0:wr.cell? ⟨w.heap.size,0,none⟩=some (.int .i64 n):=by rw [Lib.cell_of_heap hs2];rfl
   have c1:wr.cell? ⟨w.heap.size,1,none⟩=some (.slice Ar rs.length cr):=by rw [Lib.cell_of_heap hs2];rfl
   go_upto_region 13 with fail
   obtain ⟨F,hF⟩:∃F,F=wr.heap.size:=⟨_,rfl⟩
   obtain ⟨W3,hW3⟩:∃W3,W3=wr.alloc (.cells #[Value.int .i64 n,.slice Ar rs.length cr,.slice Ap pool.length cp,.int .i64 (pool.length:Nat),.int .i64 (pool.length:Nat)] 104):=⟨_,rfl⟩
   have hbA:Below wr.heap.size wr W3:=by rw [hW3];exact (Below.refl _ _).alloc (Nat.le_refl _) _
   have hf3:W3.heap[F]? = some (.cells #[Value.int .i64 n,.slice Ar rs.length cr,.slice Ap pool.length cp,.int .i64 (pool.length:Nat),.int .i64 (pool.length:Nat)] 104 (0,0)):=by rw [hW3,hF];exact heap_alloc_new wr _
   have hFl:w.heap.size+1<F:=by rw [hF];exact (Array.getElem?_eq_some_iff.1 hp2).1
   have hB3:Below w.heap.size w W3:=hB2.trans (hbA.mono hB2.size)
   have hp3:=(hbA.block _ (by omega)).trans hp2
   have hs3:=(hbA.block _ (by omega)).trans hs2
   rw [←hW3,←hF]
   clear hW3 hF hbA hp2 hs2 hB2 c0 c1
   have c1:W3.cell? ⟨w.heap.size,1,none⟩=some (.slice Ar rs.length cr):=by rw [Lib.cell_of_heap hs3];rfl
   clear hs3
   go_wp2
   go_loopw [57] (fun i wl=>∃k:Nat,i=.int .i64 k∧k≤rs.length∧Below w.heap.size w wl∧wl.heap[w.heap.size+1]? = some prob0∧wl.heap[F]? = some (.cells #[Value.int .i64 n,.slice Ar rs.length cr,.slice Ap pool.length cp,.int .i64 (pool.length+setsN (rs.take k):Nat),.int .i64 (pool.length:Nat)] 104 (0,0))) (fun i _=>rs.length-(intOf i).toNat)
   case atStart=>exact ⟨0,rfl,Nat.zero_le _,hB3,hp3,hf3⟩
   case round =>
    obtain ⟨k,rfl,hk,hbw,hpw,hfw⟩:=hrel
    by_cases hlt:k<rs.length
    ·obtain ⟨b,off,rfl,hcell⟩:=hrul k hlt
     have htk:=setsN_app (rs.take k) rs[k]
     rw [←List.take_succ_eq_append_getElem hlt]at htk
     have hsl:setsN (rs.take k)≤20:=by
      have:=setsN_le (rs.take k)
      rw [List.length_take]at this
      omega
     clear hrul
     generalize rs[k]=r at *
     obtain ⟨r1,r2,r3,r4,r5⟩:=r
     have cf:∀j u,(ruleVs ⟨r1,r2,r3,r4,r5⟩)[j]? = some u→wr.cell? ⟨b,off+k*5+j,none⟩=some u:=fun j u h=>(hbw.cell (p:=⟨b,off+k*5+j,none⟩) (World.block_lt_of_cell? w _ (hcell j u h))).trans (hcell j u h)
     have d0:=cf 0 _ rfl
     have d1:=cf 1 _ rfl
     have d2:=cf 2 _ rfl
     have d3:=cf 3 _ rfl
     have d4:=cf 4 _ rfl
     rw [Nat.add_zero]at d0
     clear cf hcell
     have g2:((k:Nat):Int)<((rs.length:Nat):Int):=by omega
     go_upto_region 16 with fail
     obtain ⟨R,hR⟩:∃R,R=wr.heap.size:=⟨_,rfl⟩
     obtain ⟨w4,hw4⟩:∃w4,w4=wr.alloc (.cells #[.int .i64 r1,.int .i64 r2,.int .i64 r3,.int .i64 r4,.string (bs r5)] 91):=⟨_,rfl⟩
     have hbA:Below wr.heap.size wr w4:=by rw [hw4];exact (Below.refl _ _).alloc (Nat.le_refl _) _
     have hr4:w4.heap[R]? = some (.cells #[.int .i64 r1,.int .i64 r2,.int .i64 r3,.int .i64 r4,.string (bs r5)] 91 (0,0)):=by rw [hw4,hR];exact heap_alloc_new wr _
     have hf4:=(hbA.block _ (Array.getElem?_eq_some_iff.1 hfw).1).trans hfw
     have hp4:=(hbA.block _ (Array.getElem?_eq_some_iff.1 hpw).1).trans hpw
     have hB4:Below w.heap.size w w4:=hbw.trans (hbA.mono hbw.size)
     rw [←hw4,←hR]
     clear hw4 hR hbA d0 d1 d2 d3 d4 hfw hpw hbw hf3 c1 hp3 hB3
     obtain ⟨sk,hsk⟩:∃sk,sk=pool.length+setsN (rs.take k):=⟨_,rfl⟩
     have hskl:sk≤1000:=by omega
     have hsk2:pool.length+setsN (rs.take (k+1))=sk+if r1=6 then 1 else 0:=by rw [htk,hsk,Nat.add_assoc]
     have wq:IntKind.i64.wrap ((sk:Int)+oneI (r1 == 6))=((pool.length+setsN (rs.take (k+1)):Nat):Int):=by
      rw [hsk2]
      by_cases h6:r1=6
      ·rw [if_pos h6,show (r1 == 6)=true by simpa using h6]
       show IntKind.i64.wrap ((sk:Int)+1)=_
       rw [IntWalk.i64_in _ (by omega)]
       omega
      ·rw [if_neg h6,show (r1 == 6)=false by simpa using h6]
       show IntKind.i64.wrap ((sk:Int)+0)=_
       rw [IntWalk.i64_in _ (by omega)]
       omega
     rw [←hsk]at hf4
     clear hsk hsk2 htk
     have c3:w4.cell? ⟨F,3,none⟩=some (.int .i64 (sk:Int)):=by rw [Lib.cell_of_heap hf4];rfl
     have e0:w4.cell? ⟨R,0,none⟩=some (.int .i64 r1):=by rw [Lib.cell_of_heap hr4];rfl
     have hfs:F<w4.heap.size:=(Array.getElem?_eq_some_iff.1 hf4).1
     clear hr4
     go_region_with (go_at_call 62;refine (one_w (r1 == 6) hE (below_drewN hB4 1)).mono ?_;rintro e w7 ⟨rfl,hb7⟩;have hf7:=(hb7.block F hfs).trans hf4;have c7:w7.cell? ⟨F,3,none⟩=some (.int .i64 (sk:Int)):=(Lib.cell_of_heap hf7 3).trans rfl;have f7:w7.frozen? ⟨F,3,none⟩=false:=frozen_of_row _ _ _ _ _ hf7)
     all_goals
      have hb7':Below w4.heap.size w4 w7:=⟨hb7.os,hb7.tape,hb7.output,hb7.size,hb7.block⟩
      have hB7:Below w.heap.size w w7:=hB4.trans (hb7'.mono hB4.size)
      have hp7:=(hb7'.block _ (Array.getElem?_eq_some_iff.1 hp4).1).trans hp4
      clear hb7 c3 e0 c7 f7 hf4 hp4 hb7'
      go_wp2
      refine ⟨⟨k+1,by simp,by omega,below_setCell hB7 (by omega) hf7 _,?_,?_⟩,?_⟩
      ·rw [heap_setCell_other _ _ _ _ (by simp;omega)];exact hp7
      ·rw [heap_setCell_same _ _ _ _ _ _ hf7]
       simp
      ·simp only [intOf]
       omega
    ·obtain rfl:k=rs.length:=by omega
     rw [List.take_length]at hfw
     have g2:¬((rs.length:Nat):Int)<((rs.length:Nat):Int):=by omega
     clear hf3 c1 hp3 hB3 hrul
     obtain ⟨wa,rfl⟩:∃wa,wa=wr:=⟨_,rfl⟩
     obtain ⟨va,hva⟩:∃va,va=varsE rs pool:=⟨_,rfl⟩
     have hva2:pool.length+setsN rs=va:=hva.symm
     have hvl:va≤38:=by
      have:=setsN_le rs
      omega
     rw [hva2]at hfw
     have hFw:F<wa.heap.size:=(Array.getElem?_eq_some_iff.1 hfw).1
     have KF:∀X,Below wa.heap.size wa X→X.heap[F]? = some (.cells #[Value.int .i64 n,.slice Ar rs.length cr,.slice Ap pool.length cp,.int .i64 (va:Nat),.int .i64 (pool.length:Nat)] 104 (0,0)):=fun X hX=>(hX.block _ hFw).trans hfw
     have CONS:∀X,Below wa.heap.size wa X→Calls Tryz.prog 63 #[.agg #[Value.int .i64 n,.slice Ar rs.length cr,.slice Ap pool.length cp,.int .i64 (va:Nat),.int .i64 (pool.length:Nat)],v3] X fun e w'=>∃A c,e=.returned (.slice A (consE n rs pool va pool.length l).length c)∧Below X.heap.size X w'∧Below wa.heap.size wa w'∧Rep w' (grown Z X w') (.sl 3 ((consE n rs pool va pool.length l).map rwA)) (.slice A (consE n rs pool va pool.length l).length c):=fun X hX=>by
      have hbX:=hbw.trans (hX.mono hbw.size)
      refine (at_call hE (cons_c n rs pool va pool.length l (by omega) (by omega) h20 hr hok (by omega) h400) X Z _ hbX (fun b o h=>Nat.lt_of_lt_of_le (hz b o h) hbX.size) (rep_2 (frame_rep (qr.keep (Keeps.ofBelow hbX) fun _ _ h=>h) (q2.keep (Keeps.ofBelow hbX) fun _ _ h=>h)) (q3.keep (Keeps.ofBelow hbX) fun _ _ h=>h))).mono ?_
      rintro e w2 ⟨v,h1,h2,h3⟩
      obtain ⟨A,c,rfl⟩:=sl_len h3
      rw [List.length_map]at *
      exact ⟨A,c,h1,h2,hX.trans (h2.mono hX.size),h3⟩
     have hinf:(Tryz.prog.info? 3).map (fun i=>(i.zero,i.size,i.bytes))=some (some (.int .i64 0),1,8):=by kernel_rfl
     have hmk:=run_make_row' (P:=Tryz.prog) 27 3 (.int .i64 0) 8 Tryz.underlying27 hinf rfl .i64 .i64 va (by omega) (by omega)
     have cF:∀X,Below wa.heap.size wa X→X.cell? ⟨F,0,none⟩=some (.int .i64 n)∧X.cell? ⟨F,1,none⟩=some (.slice Ar rs.length cr)∧X.cell? ⟨F,2,none⟩=some (.slice Ap pool.length cp)∧X.cell? ⟨F,3,none⟩=some (.int .i64 (va:Nat))∧X.cell? ⟨F,4,none⟩=some (.int .i64 (pool.length:Nat)):=fun X hX=>by
      have h:=KF X hX
      exact ⟨by rw [Lib.cell_of_heap h];rfl,by rw [Lib.cell_of_heap h];rfl,by rw [Lib.cell_of_heap h];rfl,by rw [Lib.cell_of_heap h];rfl,by rw [Lib.cell_of_heap h];rfl⟩
     obtain ⟨f0,f1,f2,f3,f4⟩:=cF wa (Below.refl _ _)
     have KK:=Lib.hid cF
     have CN:=Lib.hid CONS
     have hM:consE n rs pool (varsE rs pool) pool.length l=consE n rs pool va pool.length l:=by rw [hva]
     rw [hM,←hva]at hpe'
     clear cF CONS KF hM
     generalize hM:consE n rs pool va pool.length l=M at *
     go_upto_region 18 with fail
     go_cut [16] (fun p wx=>PCut wa Z va M p wx)
     case first =>
      have hzW:∀b o,Z b o→b<wa.heap.size:=fun b o h=>Nat.lt_of_lt_of_le (hz b o h) hbw.size
      clear hva hva2 hinf hpe' hpe ht h18 h20 h400 hok hlen gI hlen20 hplen hFl hk hlt g2 hpg q2 q3 q4 qr hr hl hvl hbw hM
      go_region_held3 (fun w'=>w'.cell? ⟨F,0,none⟩=some (.int .i64 n)∧w'.cell? ⟨F,1,none⟩=some (.slice Ar rs.length cr)∧w'.cell? ⟨F,2,none⟩=some (.slice Ap pool.length cp)∧w'.cell? ⟨F,3,none⟩=some (.int .i64 (va:Nat))∧w'.cell? ⟨F,4,none⟩=some (.int .i64 (pool.length:Nat))) (with_reducible first|exact ⟨f0,f1,f2,f3,f4⟩|(refine KK.out _ ?_;repeat' (first|exact Below.refl _ _|exact hX7|refine Below.drew ?_|refine below_alloc ?_ _|refine Below.setCell ?_ ?_ _|exact Nat.le_refl _|(dsimp only;omega)|omega)))
       (first|(go_at_call 63;(with_reducible refine (CN.out _ (by with_reducible repeat' (first|exact Below.refl _ _|refine Below.drew ?_|refine below_alloc ?_ _))).mono ?_);rintro e w7 ⟨A7,c7,rfl,hb7,hX7,hr7⟩;have z7:=hb7.size;(try simp at z7);have zX:=hX7.size;(try (have hx:=pat_call hb7;have nx1:=pne hx 0;have nx2:=pne hx 1;have nx3:=pne hx 2;(try simp only [Nat.add_zero]at nx1);have e0:=pcell0 hx;have e1:=pcell1 hx;have e2:=pcell2 hx;have g0:=pfroz hx 0;have g1:=pfroz hx 1;have g2:=pfroz hx 2)))|fail)
      all_goals (go_wp2_with fail;go_meet)
      all_goals
       (refine pcut_mk hb7 hX7 hr7 hzW _ ?_ ?_ (by omega) (by omega) ⟨rfl,rfl,rfl⟩ (by simp <;> omega) (fun b hb hne=>?_) ?_ ?_ ?_ ?_ ?_ ?_
        rotate_left 3
        (repeat (with_reducible refine (alloc_ne ?_).trans ?_;first|omega|(simp <;> omega)))
        first|(with_reducible refine at_new ?_;first|(simp;done)|(simp <;> omega))|with_reducible exact set3_at hx _ _ _
        all_goals (first|omega|skip)
        all_goals (repeat (with_reducible refine (alloc_ne ?_).trans ?_;first|omega|(simp <;> omega)))
        all_goals (first|with_reducible rfl|(with_reducible refine at_new ?_;first|(simp;done)|(simp <;> omega))|with_reducible exact set3_ne hne _ _ _|skip)
        all_goals (first|(with_reducible refine (set3_ne ?_ _ _ _).trans ?_;omega)|skip)
        all_goals (refine (hb7.block _ ?_).trans ?_;first|(simp;done)|(simp <;> omega))
        all_goals (repeat (first|(with_reducible refine (alloc_ne ?_).trans ?_;first|omega|(simp <;> omega))|(with_reducible refine (drew_get _ _).trans ?_)))
        all_goals (with_reducible refine at_new ?_;first|(simp;done)|(simp <;> omega)))
     case rest =>
      obtain ⟨P,G1,G2,A7,c7,rfl,hbc,⟨hP,hG1,hG2,n1,n2,n3⟩,hcP,hcG1,hcG2,hrows⟩:=hcut
      have hB:=hbw.trans (hbc.mono hbw.size)
      have hpC:=(hbc.block _ (by omega)).trans hpw
      have hfC:=(hbc.block _ hFw).trans hfw
      clear f0 f1 f2 f3 f4 KK CN hmk hinf hpw hfw
      have HV:=Lib.hid hva
      have HG:=Lib.hid hlen
      clear hva hva2 gI
      have f3:wc.cell? ⟨F,3,none⟩=some (.int .i64 (va:Nat)):=by rw [Lib.cell_of_heap hfC];rfl
      have p0:wc.cell? ⟨P,0,none⟩=some (.slice (some ⟨G1,0,none⟩) va va):=by rw [Lib.cell_of_heap hcP];rfl
      have p1:wc.cell? ⟨P,1,none⟩=some (.slice A7 M.length c7):=by rw [Lib.cell_of_heap hcP];rfl
      have p2:wc.cell? ⟨P,2,none⟩=some (.slice (some ⟨G2,0,none⟩) va va):=by rw [Lib.cell_of_heap hcP];rfl
      by_cases h24:24<va
      ·clear hpg q2 q3 q4 qr hrows hcG1 hcG2 hfC hok hr
       rw [if_pos (.inl h24)]at hpe'
       have g24:(24:Int)<((va:Nat):Int):=by omega
       go_wp2_with (refine wpList_store_row rfl tProb (.tmp 8) _ rfl (w.heap.size+1) #[.slice none 0 0,.slice none 0 0,.slice none 0 0] rfl rfl _ _ hpC prob_info rfl all_prob ?_)
       go_wp2
       try simp only [Exit.inBlock,Exit.then]
       refine prob_ret rfl rfl rfl (setRow_heap _ _ _ _ _ _ hpC) ?_
       exact ⟨_,rfl,below_setRow hB (by omega) _,perr2 (hpe.symm.trans hpe') (by decide)⟩
      have g24:¬(24:Int)<((va:Nat):Int):=by omega
      by_cases h60:60<M.length
      ·clear hpg q2 q3 q4 qr hrows hcG1 hcG2 hfC hok hr
       rw [if_pos (.inr h60)]at hpe'
       have g60:(60:Int)<((M.length:Nat):Int):=by omega
       go_wp2_with (refine wpList_store_row rfl tProb (.tmp 8) _ rfl (w.heap.size+1) #[.slice none 0 0,.slice none 0 0,.slice none 0 0] rfl rfl _ _ hpC prob_info rfl all_prob ?_)
       go_wp2
       try simp only [Exit.inBlock,Exit.then]
       refine prob_ret rfl rfl rfl (setRow_heap _ _ _ _ _ _ hpC) ?_
       exact ⟨_,rfl,below_setRow hB (by omega) _,perr2 (hpe.symm.trans hpe') (by decide)⟩
      have g60:¬(60:Int)<((M.length:Nat):Int):=by omega
      rw [if_neg (by omega)]at hpe'
      have hq4:Rep wc Z (.sl 1 (val.map fun z=>i64 z)) (.slice Av val.length cv):=q4.keep (Keeps.ofBelow hB) fun _ _ h=>h
      have hpv:pool.length≤va:=by have:=HV.out;unfold varsE at this;omega
      have hvl2:val.length≤va:=by have:=HG.out;omega
      obtain ⟨wd,hcp,hon,hv1⟩:=copy_vals 3 G1 va Av cv val hvl2 hcG1 hq4
      rw [hlen]at hcp
      have hPs:P<wc.heap.size:=(Array.getElem?_eq_some_iff.1 hcP).1
      have hG1s:G1<wc.heap.size:=(Array.getElem?_eq_some_iff.1 hcG1).1
      have hG2s:G2<wc.heap.size:=(Array.getElem?_eq_some_iff.1 hcG2).1
      have hFs:F<wc.heap.size:=(Array.getElem?_eq_some_iff.1 hfC).1
      have hps:w.heap.size+1<wc.heap.size:=(Array.getElem?_eq_some_iff.1 hpC).1
      have hszd:=hon.size
      have hBd:Below w.heap.size w wd:=hB.trans (hon.below (by have:=hbw.size;omega))
      have hdP:=(hon.block P n1).trans hcP
      have hdG2:=(hon.block G2 n3.symm).trans hcG2
      have hdF:=(hon.block F (by omega)).trans hfC
      have hdp:=(hon.block (w.heap.size+1) (by omega)).trans hpC
      have e2:wd.cell? ⟨P,2,none⟩=some (.slice (some ⟨G2,0,none⟩) va va):=by rw [Lib.cell_of_heap hdP];rfl
      clear hlen hq4
      go_wp2
      clear p0 p1 p2 f3 e2 hcp
      go_loopw [97] (fun i wl=>∃k:Nat,i=.int .i64 k∧k≤va∧Below w.heap.size w wl∧Exc G2 wd wl∧wl.heap[G2]? = some (.cells (fixK rs pool va k).toArray 3 (0,0))) (fun i _=>va-(intOf i).toNat)
      case atStart=>exact ⟨0,rfl,Nat.zero_le _,hBd,Exc.refl _ _,by rw [fixK_0];exact hdG2⟩
      case round =>
       obtain ⟨k,rfl,hk3,hbl,hex,hg2⟩:=hrel
       have hP3:=(hex.block P (by omega) n2).trans hdP
       have hF3:=(hex.block F (by omega) (by omega)).trans hdF
       have p2:wr.cell? ⟨P,2,none⟩=some (.slice (some ⟨G2,0,none⟩) va va):=by rw [Lib.cell_of_heap hP3];rfl
       by_cases hlt3:k<va
       ·have g3:((k:Nat):Int)<((va:Nat):Int):=by omega
        have k2:wr.cell? ⟨G2,k,none⟩=some (.int .i64 0):=by rw [Lib.cell_of_heap hg2];simpa using fixK_at (rs:=rs) hpv hlt3
        have z2:wr.frozen? ⟨G2,k,none⟩=false:=frozen_of_row _ _ _ _ _ hg2
        go_upto_region 26 with fail
        obtain ⟨W,hW⟩:∃W,W=wr.setCell ⟨G2,k,none⟩ (.int .i64 (-1)):=⟨_,rfl⟩
        have hbW:Below w.heap.size w W:=by rw [hW];exact below_setCell hbl (by have:=hbw.size;omega) hg2 _
        have hxW:Exc G2 wd W:=by rw [hW];exact hex.set k _
        have hgW:W.heap[G2]? = some (.cells ((fixK rs pool va k).set k (.int .i64 (-1))).toArray 3 (0,0)):=by
         rw [hW,heap_setCell_same _ _ _ _ _ _ hg2]
         simp
        rw [←hW]
        clear hW hex hbl hP3 hF3 p2 k2 z2 hg2
        by_cases hlp:k<pool.length
        ·have g4:¬((pool.length:Nat):Int)≤((k:Nat):Int):=by omega
         obtain ⟨b,off,v8,rfl,hcell,_,A8,n8,c8,rfl⟩:=hpg k hlp
         have hfe:=fixE_in (rs:=rs) (va:=va) hlp
         have hks:=fun z=>fixK_set (rs:=rs) (z:=z) hpv hlt3
         clear hpg
         generalize pool[k]=t at *
         obtain ⟨y1,y2,y3,y4,y5,y6,y7,y8,y9⟩:=t
         have d0:=hcell 0 _ rfl
         rw [Nat.add_zero]at d0
         have d0:=(hbW.cell (p:=⟨b,off+k*9,none⟩) (World.block_lt_of_cell? w _ d0)).trans d0
         have hPW:=(hxW.block P (by omega) n2).trans hdP
         have hFW:=(hxW.block F (by omega) (by omega)).trans hdF
         have p2:W.cell? ⟨P,2,none⟩=some (.slice (some ⟨G2,0,none⟩) va va):=by rw [Lib.cell_of_heap hPW];rfl
         have f0:W.cell? ⟨F,0,none⟩=some (.int .i64 n):=by rw [Lib.cell_of_heap hFW];rfl
         have f1:W.cell? ⟨F,1,none⟩=some (.slice Ar rs.length cr):=by rw [Lib.cell_of_heap hFW];rfl
         have f2:W.cell? ⟨F,2,none⟩=some (.slice (some ⟨b,off,none⟩) pool.length cp):=by rw [Lib.cell_of_heap hFW];rfl
         have f3:W.cell? ⟨F,3,none⟩=some (.int .i64 (va:Nat)):=by rw [Lib.cell_of_heap hFW];rfl
         have f4:W.cell? ⟨F,4,none⟩=some (.int .i64 (pool.length:Nat)):=by rw [Lib.cell_of_heap hFW];rfl
         have NM:∀(X:World) (kd:Int),Below w.heap.size w X→Calls Tryz.prog 64 #[.agg #[Value.int .i64 n,.slice Ar rs.length cr,.slice (some ⟨b,off,none⟩) pool.length cp,.int .i64 (va:Nat),.int .i64 (pool.length:Nat)],.int .i64 kd,.int .i64 y1] X fun e w'=>e=.returned (.bool (namB rs kd y1))∧Below X.heap.size X w':=fun X kd hX=>by
          refine (at_call hE (names_c n rs pool (va:Nat) (pool.length:Nat) kd y1 (by omega)) X Z _ hX (fun b o h=>Nat.lt_of_lt_of_le (hz b o h) hX.size) (rep_3 (frame_rep (qr.keep (Keeps.ofBelow hX) fun _ _ h=>h) (q2.keep (Keeps.ofBelow hX) fun _ _ h=>h)) (.lit rfl) (.lit rfl))).mono ?_
          rintro e w2 ⟨u,rfl,hb2,hr2⟩
          obtain rfl:=hr2.lit_eq
          exact ⟨rfl,hb2⟩
         have N7:=NM W 7 hbW
         have N8:=Lib.hid NM
         have hfe:(fixE rs pool va)[k]? = some (if namB rs 7 y1 then 1 else if namB rs 8 y1 then 0 else -1):=hfe
         clear NM hcell
         cases h7:namB rs 7 y1 with
         | true =>
          rw [h7]at N7
          rw [h7,if_pos rfl]at hfe
          go_wp2_with (go_at_call 64;refine N7.mono ?_)
          intro e w5 h5
          first|(have hb5:=And.right h5;have he5:=And.left h5)|(intro hb5;have he5:=h5)
          subst he5
          have hx5:=hxW.call hb5
          have hB5:=hbW.trans (hb5.mono hbW.size)
          have hg5:=(hb5.block G2 (Array.getElem?_eq_some_iff.1 hgW).1).trans hgW
          have hP5:=(hx5.block P (by omega) n2).trans hdP
          have p2:w5.cell? ⟨P,2,none⟩=some (.slice (some ⟨G2,0,none⟩) va va):=by rw [Lib.cell_of_heap hP5];rfl
          have k2:w5.cell? ⟨G2,k,none⟩=some (.int .i64 (-1)):=by rw [Lib.cell_of_heap hg5];simp [fixK_len hpv (Nat.le_of_lt hlt3),hlt3]
          have z2:w5.frozen? ⟨G2,k,none⟩=false:=frozen_of_row _ _ _ _ _ hg5
          go_wp2
          refine ⟨⟨k+1,by simp,by omega,below_setCell hB5 (by have:=hbw.size;omega) hg5 _,hx5.set k _,?_⟩,?_⟩
          ·rw [heap_setCell_same _ _ _ _ _ _ hg5,←hks _ hfe]
           simp
          ·simp only [intOf]
           omega
         | false =>
          rw [h7]at N7
          rw [h7,if_neg (by simp)]at hfe
          go_wp2_with (go_at_call 64;refine N7.mono ?_)
          intro e w5 h5
          first|(have hb5:=And.right h5;have he5:=And.left h5)|(intro hb5;have he5:=h5)
          subst he5
          have hx5:=hxW.call hb5
          have hB5:=hbW.trans (hb5.mono hbW.size)
          have hg5:=(hb5.block G2 (Array.getElem?_eq_some_iff.1 hgW).1).trans hgW
          have hP5:=(hx5.block P (by omega) n2).trans hdP
          have hF5:=(hx5.block F (by omega) (by omega)).trans hdF
          clear p2 f0 f1 f2 f3 f4
          have f0:w5.cell? ⟨F,0,none⟩=some (.int .i64 n):=by rw [Lib.cell_of_heap hF5];rfl
          have f1:w5.cell? ⟨F,1,none⟩=some (.slice Ar rs.length cr):=by rw [Lib.cell_of_heap hF5];rfl
          have f2:w5.cell? ⟨F,2,none⟩=some (.slice (some ⟨b,off,none⟩) pool.length cp):=by rw [Lib.cell_of_heap hF5];rfl
          have f3:w5.cell? ⟨F,3,none⟩=some (.int .i64 (va:Nat)):=by rw [Lib.cell_of_heap hF5];rfl
          have f4:w5.cell? ⟨F,4,none⟩=some (.int .i64 (pool.length:Nat)):=by rw [Lib.cell_of_heap hF5];rfl
          have N8:=N8.out w5 8 hB5
          cases h8:namB rs 8 y1 with
          | true =>
           rw [h8]at N8
           rw [h8,if_pos rfl]at hfe
           go_wp2_with (go_at_call 64;refine N8.mono ?_)
           intro e w6 h6
           first|(have hb6:=And.right h6;have he6:=And.left h6)|(intro hb6;have he6:=h6)
           subst he6
           have hx6:=hx5.call hb6
           have hB6:=hB5.trans (hb6.mono hB5.size)
           have hg6:=(hb6.block G2 (Array.getElem?_eq_some_iff.1 hg5).1).trans hg5
           have hP6:=(hx6.block P (by omega) n2).trans hdP
           have p2:w6.cell? ⟨P,2,none⟩=some (.slice (some ⟨G2,0,none⟩) va va):=by rw [Lib.cell_of_heap hP6];rfl
           have k2:w6.cell? ⟨G2,k,none⟩=some (.int .i64 (-1)):=by rw [Lib.cell_of_heap hg6];simp [fixK_len hpv (Nat.le_of_lt hlt3),hlt3]
           have z2:w6.frozen? ⟨G2,k,none⟩=false:=frozen_of_row _ _ _ _ _ hg6
           go_wp2
           refine ⟨⟨k+1,by simp,by omega,below_setCell hB6 (by have:=hbw.size;omega) hg6 _,hx6.set k _,?_⟩,?_⟩
           ·rw [heap_setCell_same _ _ _ _ _ _ hg6,←hks _ hfe]
            simp
           ·simp only [intOf]
            omega
          | false =>
           rw [h8]at N8
           rw [h8,if_neg (by simp)]at hfe
           go_wp2_with (go_at_call 64;refine N8.mono ?_)
           intro e w6 h6
           first|(have hb6:=And.right h6;have he6:=And.left h6)|(intro hb6;have he6:=h6)
           subst he6
           have hx6:=hx5.call hb6
           have hB6:=hB5.trans (hb6.mono hB5.size)
           have hg6:=(hb6.block G2 (Array.getElem?_eq_some_iff.1 hg5).1).trans hg5
           go_wp2
           refine ⟨⟨k+1,by simp,by omega,hB6,hx6,?_⟩,?_⟩
           ·rw [hg6,←hks _ hfe]
           ·simp only [intOf]
            omega
        ·have g4:((pool.length:Nat):Int)≤((k:Nat):Int):=by omega
         have hfe:=fixE_out (rs:=rs) (va:=va) (Nat.le_of_not_lt hlp) hlt3
         go_wp2
         refine ⟨⟨k+1,by simp,by omega,hbW,hxW,?_⟩,?_⟩
         ·rw [hgW,←fixK_set hpv hlt3 hfe]
         ·simp only [intOf]
          omega
       ·obtain rfl:k=va:=by omega
        have g3:¬((k:Nat):Int)<((k:Nat):Int):=by omega
        rw [fixK_end hpv]at hg2
        have p0:wr.cell? ⟨P,0,none⟩=some (.slice (some ⟨G1,0,none⟩) k k):=by rw [Lib.cell_of_heap hP3];rfl
        have p1:wr.cell? ⟨P,1,none⟩=some (.slice A7 M.length c7):=by rw [Lib.cell_of_heap hP3];rfl
        have hp3:=(hex.block (w.heap.size+1) (by omega) (by omega)).trans hdp
        have hv3:=(hex.block G1 (by omega) n3).trans hv1
        have hall:(#[Value.slice (some ⟨G1,0,none⟩) k k,.slice A7 M.length c7,.slice (some ⟨G2,0,none⟩) k k]:Array Value).all (·.oneCell')=true:=by simp [Value.oneCell']
        go_wp2_with (refine wpList_store_row rfl tProb (.tmp 8) _ rfl (w.heap.size+1) #[Value.slice (some ⟨G1,0,none⟩) k k,.slice A7 M.length c7,.slice (some ⟨G2,0,none⟩) k k] rfl rfl _ _ hp3 prob_info rfl hall ?_)
        go_wp2
        try simp only [Exit.inBlock,Exit.then]
        refine prob_ret rfl rfl rfl (setRow_heap _ _ _ _ _ _ hp3) ?_
        refine ⟨_,rfl,below_setRow hbl (by omega) _,?_⟩
        have hv4:(wr.setRow (w.heap.size+1) #[Value.slice (some ⟨G1,0,none⟩) k k,.slice A7 M.length c7,.slice (some ⟨G2,0,none⟩) k k]).heap[G1]? = _:=(setRow_other _ _ _ _ (by omega)).trans hv3
        have hg4:(wr.setRow (w.heap.size+1) #[Value.slice (some ⟨G1,0,none⟩) k k,.slice A7 M.length c7,.slice (some ⟨G2,0,none⟩) k k]).heap[G2]? = _:=(setRow_other _ _ _ _ (by omega)).trans hg2
        have hvl3:(valE val k).length=k:=by unfold valE;simp;omega
        have hfl3:(fixE rs pool k).length=k:=fixE_len hpv
        have r1:=cells_rep (Z:=fun b o=>grown Z w (wr.setRow (w.heap.size+1) #[Value.slice (some ⟨G1,0,none⟩) k k,.slice A7 M.length c7,.slice (some ⟨G2,0,none⟩) k k]) b o∧b≠G2) hv4 (by omega) fun o=>⟨.inr ⟨by have:=hbw.size;omega,by have:=hex.size;rw [size_setRow];omega⟩,n3⟩
        have r2:=cells_rep (Z:=grown Z w (wr.setRow (w.heap.size+1) #[Value.slice (some ⟨G1,0,none⟩) k k,.slice A7 M.length c7,.slice (some ⟨G2,0,none⟩) k k])) hg4 (by omega) fun o=>.inr ⟨by have:=hbw.size;omega,by have:=hex.size;rw [size_setRow];omega⟩
        rw [hvl3]at r1
        rw [hfl3]at r2
        have r3:Rep (wr.setRow (w.heap.size+1) #[Value.slice (some ⟨G1,0,none⟩) k k,.slice A7 M.length c7,.slice (some ⟨G2,0,none⟩) k k]) (fun b o=>grown Z w (wr.setRow (w.heap.size+1) #[Value.slice (some ⟨G1,0,none⟩) k k,.slice A7 M.length c7,.slice (some ⟨G2,0,none⟩) k k]) b o∧b≠G2) (.sl 3 (M.map rwA)) (.slice A7 M.length c7):=by
         refine hrows.keep ⟨?_,fun b o u hZ hc=>?_⟩ fun b o hZ=>?_
         ·have:=hex.size;rw [size_setRow];omega
         ·have hb1:b<wc.heap.size:=World.block_lt_of_cell? wc _ hc
          have hb2:b≠w.heap.size+1∧b≠G1∧b≠G2:=by
           have:=hbw.size
           rcases hZ with hZ|hZ
           ·have:=hz b o hZ;omega
           ·have:=hFw;omega
          refine (World.cell?_of_block (a:=⟨b,o,none⟩) ?_).trans hc
          show (wr.setRow _ _).heap[b]? = _
          rw [setRow_other _ _ _ _ hb2.1]
          exact (hex.block b (by omega) hb2.2.2).trans (hon.block b hb2.2.1)
         ·rcases hZ with hZ|hZ
          ·exact ⟨.inl hZ,by have:=hbw.size;have:=hz b o hZ;omega⟩
          ·refine ⟨.inr ⟨by have:=hbw.size;omega,?_⟩,hZ.2.2.2.2⟩
           have:=hex.size;rw [size_setRow];omega
        have hpe2:probE n rs pool l val=0:=hpe.symm.trans hpe'
        have hpr:prbR n rs pool l val=prbA (valE val k) M (fixE rs pool k):=by
         unfold prbR
         rw [if_pos hpe2,←HV.out,hM]
        unfold PRes
        rw [hpr,hpe2]
        refine ⟨prob_out (r1.keep (Keeps.refl _ _) fun _ _ h=>h.1) (r3.keep (Keeps.refl _ _) fun _ _ h=>h.1) r2,fun _=>?_⟩
        rw [←HV.out,hM]
        exact ⟨_,_,G2,rfl,by have:=hbw.size;omega,hg4,r1,r3⟩
abbrev nilP:Value:=.agg #[.slice none 0 0,.slice none 0 0,.slice none 0 0]
def PrepR (n:Int) (rs:List RuleV) (pool:List PI) (l:List (Int × Int)) (given val:List Int) (w0 w:World) (v:Value):Prop :=
 (prepE n rs pool l given val≠0∧v=.tuple #[nilP,.int .i64 (prepE n rs pool l given val)]) ∨
 (prepE n rs pool l given val=0∧∃(A1 A2:Option Addr) (n1 c1 n2 c2 G:Nat),v=.tuple #[.agg #[.slice A1 n1 c1,.slice A2 n2 c2,.slice (some ⟨G,0,none⟩) (varsE rs pool) (varsE rs pool)],.int .i64 0]∧w0.heap.size≤G∧w.heap[G]? = some (.cells (ints (fixE rs pool (varsE rs pool))) 3 (0,0)) ∧
  SlI w (fun b=>b≠G∧b<w.heap.size) (.slice A1 n1 c1) (valE val (varsE rs pool))∧SlR w (fun b=>b≠G∧b<w.heap.size) (.slice A2 n2 c2) (consE n rs pool (varsE rs pool) pool.length l))
theorem prep_ret {R:Ending→World→Prop} {a:Act} {w':World} {g:Nat} {x y z e:Value} (hd:a.defers=[]) (hp:a.tmps.getD 10 undef=.pointer (some ⟨g,0,none⟩)) (h4:a.tmps.getD 11 undef=e) (hg:w'.heap[g]? = some (.cells #[x,y,z] tProb (0,0)))
  (hR:R (.returned (.tuple #[.agg #[x,y,z],e])) w'):bodyPost Tryz.prog Tryz.f27 R .ret a w':=by
 subst h4
 exact bodyPost_ret (results_cell1 (fn:=Tryz.f27) rfl a.tmps w' g tProb #[x,y,z] (0,0) _ hp hg Tryz.underlying53 rfl prob_info) hd hR
theorem perr_form {w:World} {Z:Zone} {n:Int} {rs:List RuleV} {pool:List PI} {l:List (Int × Int)} {val:List Int} {v:Value} (h:Rep w Z (.tup [prbR n rs pool l val,i64 (probE n rs pool l val)]) v) (he:probE n rs pool l val≠0) :
  ∃A1 c1 A2 c2 A3 c3,v=.tuple #[.agg #[.slice A1 0 c1,.slice A2 0 c2,.slice A3 0 c3],.int .i64 (probE n rs pool l val)]:=by
 obtain ⟨x,y,rfl,h1,h2⟩:=tup2_val h
 obtain rfl:=h2.lit_eq
 unfold prbR at h1
 rw [if_neg he]at h1
 obtain ⟨a,b,c,rfl,q1,q2,q3⟩:=agg3 h1
 obtain ⟨A1,c1,rfl⟩:=sl_len q1
 obtain ⟨A2,c2,rfl⟩:=sl_len q2
 obtain ⟨A3,c3,rfl⟩:=sl_len q3
 exact ⟨A1,c1,A2,c2,A3,c3,rfl⟩
theorem prep_s (n:Int) (rs:List RuleV) (pool:List PI) (l:List (Int × Int)) (given val:List Int) (hl:pool.length≤1048576) (hvl:val.length≤1048576) (hgl:given.length≤1048576) (hr:∀r∈rs,RIn r) :
  ∀(w:World) (Z:Zone) (vs:Array Value),Env w→(∀b o,Z b o→b<w.heap.size)→Rep w Z (.agg [.agg [i64 n,rulesA rs],.sl 9 (pool.map itA),.sl 2 (l.map prA),.sl 1 (given.map fun z=>i64 z),.sl 1 (val.map fun z=>i64 z)]) (.agg vs)→Calls Tryz.prog 27 vs w fun e w'=>∃v,e=.returned v∧Below w.heap.size w w'∧PrepR n rs pool l given val w w' v:=by
 intro w Z vs hE hz hrep
 obtain ⟨v1,v2,v3,v4,v5,rfl,q1,q2,q3,q4,q5⟩:=rps5 hrep
 obtain ⟨x,rfl,qr⟩:=spec_val q1
 have hgs:=SlI.of_rep q4
 obtain ⟨Ag,cg,eg⟩:=hgs.len
 subst eg
 clear hrep q1
 change Calls Tryz.prog _ _ w _
 obtain ⟨pe,hpe⟩:∃pe,pe=prepE n rs pool l given val:=⟨_,rfl⟩
 have hpe':=hpe
 unfold prepE at hpe'
 obtain ⟨W1,hW1⟩:∃W1,W1=(w.alloc (.cells #[.int .i64 n,x] 24)).alloc prob0:=⟨_,rfl⟩
 have hB1:Below w.heap.size w W1:=by rw [hW1];exact ((Below.refl _ _).alloc (Nat.le_refl _) _).alloc (by simp) _
 have hp1:W1.heap[w.heap.size+1]? = some prob0:=by rw [hW1];exact at_new (by simp)
 have hsz:w.heap.size+1<W1.heap.size:=(Array.getElem?_eq_some_iff.1 hp1).1
 go_enter Tryz.func27,Tryz.ntmps27
 go_wp2_with (go_at_call 44;go_loud (rw [←hW1];refine (prob_s n rs pool l val hl hvl hr W1 Z _ (env_below hE hB1) (fun b o h=>Nat.lt_of_lt_of_le (hz b o h) hB1.size) (rep_4 (spec2_of (qr.keep (Keeps.ofBelow hB1) fun _ _ h=>h)) (q2.keep (Keeps.ofBelow hB1) fun _ _ h=>h) (q3.keep (Keeps.ofBelow hB1) fun _ _ h=>h) (q5.keep (Keeps.ofBelow hB1) fun _ _ h=>h))).mono ?_))
 rintro e w2 ⟨v,rfl,hb2,hpr⟩
 clear hW1
 have hB2:Below w.heap.size w w2:=hB1.trans (hb2.mono hB1.size)
 have hp2:=(hb2.block _ hsz).trans hp1
 have hsz2:w.heap.size+1<w2.heap.size:=blk_lt hp2
 by_cases h0:probE n rs pool l val=0
 case neg =>
  rw [if_pos h0]at hpe'
  obtain ⟨A1,c1,A2,c2,A3,c3,rfl⟩:=perr_form hpr.1 h0
  obtain ⟨qe,hqe⟩:∃qe,qe=probE n rs pool l val:=⟨_,rfl⟩
  rw [←hqe]at h0 hpe' ⊢
  have hp3:(w2.alloc (.cells #[.slice A1 0 c1,.slice A2 0 c2,.slice A3 0 c3] tProb)).heap[w.heap.size+1]? = some prob0:=(Lib.alloc_old _ _ _ hsz2).trans hp2
  clear hqe hpr hgs
  go_wp2_with (refine wpList_store_row rfl tProb (.tmp 10) _ rfl (w.heap.size+1) #[.slice none 0 0,.slice none 0 0,.slice none 0 0] rfl rfl _ _ hp3 prob_info rfl all_prob ?_)
  go_wp2
  try simp only [Exit.inBlock,Exit.then]
  refine prep_ret rfl rfl rfl (setRow_heap _ _ _ _ _ _ hp3) ?_
  refine ⟨_,rfl,below_setRow (hB2.alloc hB2.size _) (by omega) _,.inl ⟨by rw [←hpe,hpe'];exact h0,?_⟩⟩
  rw [←hpe,hpe']
  rfl
 rw [if_neg (by simp [h0])]at hpe'
 obtain ⟨xv,yv,G,rfl,hG,hGh,rx,ry⟩:=hpr.2 h0
 have ex0:∀b,((∃o,grown Z W1 w2 b o∧b≠G)∧b<w2.heap.size)→b<w2.heap.size→w2.heap[b]? = w2.heap[b]?∧b≠G∧b≠w.heap.size+1∧b<w2.heap.size:=fun b h1 h2=>by
  obtain ⟨⟨o,h3,h4⟩,_⟩:=h1
  refine ⟨rfl,h4,?_,h2⟩
  rcases h3 with h3|h3
  ·have:=hz b o h3;omega
  ·have:=h3.1;omega
 have rx2:SlI w2 (fun b=>b≠G∧b≠w.heap.size+1∧b<w2.heap.size) xv (valE val (varsE rs pool)):=(SlI.of_repZ rx).keep ex0
 have ry2:SlR w2 (fun b=>b≠G∧b≠w.heap.size+1∧b<w2.heap.size) yv (consE n rs pool (varsE rs pool) pool.length l):=(SlR.of_repZ ry).keep ex0
 obtain ⟨A1,c1,ex1⟩:=rx2.len
 obtain ⟨A2,c2,ey1,_⟩:=ry2
 have ry2:SlR w2 (fun b=>b≠G∧b≠w.heap.size+1∧b<w2.heap.size) yv (consE n rs pool (varsE rs pool) pool.length l):=(SlR.of_repZ ry).keep ex0
 obtain ⟨n1,hn1⟩:∃n1,n1=(valE val (varsE rs pool)).length:=⟨_,rfl⟩
 obtain ⟨n2,hn2⟩:∃n2,n2=(consE n rs pool (varsE rs pool) pool.length l).length:=⟨_,rfl⟩
 rw [←hn1]at ex1
 rw [←hn2]at ey1
 subst ex1 ey1
 clear hpr rx ry ex0 hn1 hn2
 change w2.heap[G]? = some (.cells (ints (fixE rs pool (varsE rs pool))) 3 (0,0))at hGh
 obtain ⟨m,hm⟩:∃m,m=varsE rs pool:=⟨_,rfl⟩
 rw [←hm]at rx2 ry2 hGh ⊢
 have HM:=Lib.hid hm
 have HPE:=Lib.hid hpe
 have HPE':=Lib.hid hpe'
 clear hm hpe hpe'
 have HGH:=Lib.hid hGh
 have HRX:=Lib.hid rx2
 have HRY:=Lib.hid ry2
 clear hGh rx2 ry2
 obtain ⟨P,hP⟩:∃P,P=w2.heap.size:=⟨_,rfl⟩
 obtain ⟨W,hW⟩:∃W,W=w2.alloc (.cells #[.slice A1 n1 c1,.slice A2 n2 c2,.slice (some ⟨G,0,none⟩) m m] tProb):=⟨_,rfl⟩
 have hBW2:Below w2.heap.size w2 W:=by rw [hW];exact (Below.refl _ _).alloc (Nat.le_refl _) _
 have hBW:Below w.heap.size w W:=hB2.trans (hBW2.mono hB2.size)
 have hpW:W.heap[w.heap.size+1]? = some prob0:=(hBW2.block _ hsz2).trans hp2
 have hPW:W.heap[P]? = some (.cells #[.slice A1 n1 c1,.slice A2 n2 c2,.slice (some ⟨G,0,none⟩) m m] tProb (0,0)):=by rw [hW];exact at_new hP
 have hWs:w2.heap.size<W.heap.size:=by rw [←hP];exact blk_lt hPW
 have POS:∀X,Below w.heap.size w X→∀id,Calls Tryz.prog 45 #[v2,.int .i64 id] X fun e w'=>e=.returned (.int .i64 (posI pool id))∧Below X.heap.size X w':=fun X hX id=>pos_w hE hz hl q2 X hX id
 have HAS:∀X,Below w.heap.size w X→∀k,k≤given.length→∀id,Calls Tryz.prog 46 #[.slice Ag k cg,.int .i64 id] X fun e w'=>e=.returned (.bool (decide (id∈given.take k)))∧w'=X:=fun X hX k hk id=>has_w hgs hgl X hX hk id
 have HPOS:=Lib.hid POS
 have HHAS:=Lib.hid HAS
 obtain ⟨Ag',cg',eg,hcg,hgg⟩:=hgs
 cases eg
 have hggl:((given.length:Nat):Int)≤1048576:=by omega
 clear POS HAS
 go_upto_region 2 with fail
 rw [←hW,←hP]
 clear hW hP
 go_wp2
 go_loopw [32] (fun i wl=>∃k:Nat,i=.int .i64 k∧k≤given.length∧Below W.heap.size W wl∧∀j (hj:j<given.length),j<k→0≤posI pool (given[j]'hj)) (fun i _=>given.length-(intOf i).toNat)
 case atStart=>exact ⟨0,rfl,Nat.zero_le _,Below.refl _ _,fun _ _ h=>absurd h (Nat.not_lt_zero _)⟩
 case round =>
  obtain ⟨k,rfl,hk,hbl,hgood⟩:=hrel
  have hbw:Below w.heap.size w wr:=hBW.trans (hbl.mono hBW.size)
  by_cases hlt:k<given.length
  ·
   as_aux_lemma =>
    obtain ⟨b1,o1,rfl,hb1,d0⟩:=hgg k hlt
    have f0:=cell_same (w':=wr) d0 fun hb=>hbw.block _ hb
    have g1:((k:Nat):Int)<((given.length:Nat):Int):=by omega
    have hbad:posI pool given[k]<0→given.any (fun id=>decide (posI pool id<0))=true:=fun h=>List.any_eq_true.2 ⟨_,List.getElem_mem hlt,decide_eq_true h⟩
    have hgd:¬posI pool given[k]<0→∀j (hj:j<given.length),j<k+1→0≤posI pool (given[j]'hj):=fun h j hj hj2=>by
     by_cases e:j=k
     ·subst e;omega
     ·exact hgood j hj (by omega)
    have HP1:=HPOS.out wr hbw given[k]
    obtain ⟨z,hz⟩:∃z,z=given[k]:=⟨_,rfl⟩
    rw [←hz]at f0 HP1 hbad hgd
    obtain ⟨p,hp⟩:∃p,p=posI pool z:=⟨_,rfl⟩
    rw [←hp]at HP1 hbad hgd
    have HBAD:=Lib.hid hbad
    have HGD:=Lib.hid hgd
    have HP2:=Lib.hid HP1
    clear hz hp d0 hgood hbad hgd HP1 hgg
    by_cases hneg:p<0
    ·go_wp2_with (go_at_call 45;refine HP2.out.mono ?_)
     intro e w3 h3
     first|(have hb3:=And.right h3;have he3:=And.left h3)|(intro hb3;have he3:=h3)
     subst he3
     have hbl3:=hbl.trans (hb3.mono hbl.size)
     have hp3:=(hbl3.block _ (by omega)).trans hpW
     go_wp2_with (refine wpList_store_row rfl tProb (.tmp 10) _ rfl (w.heap.size+1) #[.slice none 0 0,.slice none 0 0,.slice none 0 0] rfl rfl _ _ hp3 prob_info rfl all_prob ?_)
     go_wp2
     try simp only [Exit.inBlock,Exit.then]
     refine prep_ret rfl rfl rfl (setRow_heap _ _ _ _ _ _ hp3) ?_
     have e6:=HPE'.out
     rw [if_pos (HBAD.out hneg)]at e6
     have e7:=HPE.out.symm.trans e6
     exact ⟨_,rfl,below_setRow (hBW.trans (hbl3.mono hBW.size)) (by omega) _,.inl ⟨by rw [e7];decide,by rw [e7];rfl⟩⟩
    ·go_wp2_with (go_at_call 45;refine HP2.out.mono ?_;rintro e w3 ⟨rfl,hb3⟩)
     have hbl3:=hbl.trans (hb3.mono hbl.size)
     go_wp2
     refine ⟨⟨k+1,by simp,by omega,hbl3,HGD.out hneg⟩,?_⟩
     simp only [intOf]
     omega
  ·obtain rfl:k=given.length:=by omega
   have g1:¬((given.length:Nat):Int)<((given.length:Nat):Int):=by omega
   have hany:given.any (fun id=>decide (posI pool id<0))=false:=by
    rw [←Bool.not_eq_true,List.any_eq_true]
    rintro ⟨z,hz,h⟩
    obtain ⟨j,hj,rfl⟩:=List.getElem_of_mem hz
    have:=hgood j hj hj;have:=of_decide_eq_true h;omega
   have e1:=HPE'.out
   rw [hany,if_neg (by simp)]at e1
   have HE1:=Lib.hid e1
   clear hany e1 hgood
   go_wp2
   go_loopw [44] (fun i wl=>∃k:Nat,i=.int .i64 k∧k≤given.length∧Below W.heap.size W wl∧(given.take k).Nodup) (fun i _=>given.length-(intOf i).toNat)
   case atStart=>exact ⟨0,rfl,Nat.zero_le _,hbl,by simp⟩
   case round =>
    clear hbl hbw
    obtain ⟨k,rfl,hk,hbl,hnd⟩:=hrel
    have hbw:Below w.heap.size w wr:=hBW.trans (hbl.mono hBW.size)
    by_cases hlt:k<given.length
    ·
     as_aux_lemma =>
      obtain ⟨b1,o1,rfl,hb1,d0⟩:=hgg k hlt
      have f0:=cell_same (w':=wr) d0 fun hb=>hbw.block _ hb
      have g1:((k:Nat):Int)<((given.length:Nat):Int):=by omega
      have hnt:=nodup_take hlt
      have HH:=HHAS.out wr hbw k hk given[k]
      obtain ⟨z,hz⟩:∃z,z=given[k]:=⟨_,rfl⟩
      rw [←hz]at f0 HH hnt
      obtain ⟨q,hq⟩:∃q,q=decide (z∈given.take k):=⟨_,rfl⟩
      rw [←hq]at HH
      have HNT:=Lib.hid hnt
      have HQ:=Lib.hid hq
      have HH2:=Lib.hid HH
      clear hz hq d0 HH hgg hnt
      have hcgk:k≤cg:=by omega
      cases q with
      | true =>
       go_wp2_with (go_at_call 46;refine HH2.out.mono ?_)
       intro e w3 h3
       first|(have hb3:=And.right h3;have he3:=And.left h3)|(intro hb3;have he3:=h3)
       subst he3 hb3
       have hp3:=(hbl.block _ (by omega)).trans hpW
       go_wp2_with (refine wpList_store_row rfl tProb (.tmp 10) _ rfl (w.heap.size+1) #[.slice none 0 0,.slice none 0 0,.slice none 0 0] rfl rfl _ _ hp3 prob_info rfl all_prob ?_)
       go_wp2
       try simp only [Exit.inBlock,Exit.then]
       refine prep_ret rfl rfl rfl (setRow_heap _ _ _ _ _ _ hp3) ?_
       have e7:=HE1.out
       rw [if_neg (fun h=>((HNT.out.1 (nodup_of_take h)).2 (of_decide_eq_true HQ.out.symm)))]at e7
       have e7:=HPE.out.symm.trans e7
       exact ⟨_,rfl,below_setRow hbw (by omega) _,.inl ⟨by rw [e7];decide,by rw [e7];rfl⟩⟩
      | false =>
       go_wp2_with (go_at_call 46;refine HH2.out.mono ?_;rintro e w3 ⟨rfl,rfl⟩)
       go_wp2
       refine ⟨⟨k+1,by simp,by omega,hbl,HNT.out.2 ⟨hnd,of_decide_eq_false HQ.out.symm⟩⟩,?_⟩
       simp only [intOf]
       omega
    ·obtain rfl:k=given.length:=by omega
     have g1:¬((given.length:Nat):Int)<((given.length:Nat):Int):=by omega
     rw [List.take_length]at hnd
     have hp3:=(hbl.block _ (by omega)).trans hpW
     have hP3:=blk_call hPW hbl
     have p0:wr.cell? ⟨P,0,none⟩=some (.slice A1 n1 c1):=by rw [Lib.cell_of_heap hP3];rfl
     have p1:wr.cell? ⟨P,1,none⟩=some (.slice A2 n2 c2):=by rw [Lib.cell_of_heap hP3];rfl
     have p2:wr.cell? ⟨P,2,none⟩=some (.slice (some ⟨G,0,none⟩) m m):=by rw [Lib.cell_of_heap hP3];rfl
     go_wp2_with (refine wpList_store_row rfl tProb (.tmp 10) _ rfl (w.heap.size+1) #[.slice A1 n1 c1,.slice A2 n2 c2,.slice (some ⟨G,0,none⟩) m m] rfl rfl _ _ hp3 prob_info rfl (by simp [Value.oneCell']) ?_)
     go_wp2
     try simp only [Exit.inBlock,Exit.then]
     refine prep_ret rfl rfl rfl (setRow_heap _ _ _ _ _ _ hp3) ?_
     have e7:=HE1.out
     rw [if_pos hnd]at e7
     have e7:=HPE.out.symm.trans e7
     have hs2:=hbl.size
     have hGs:=blk_lt HGH.out
     have hne:G≠w.heap.size+1:=by omega
     refine ⟨_,rfl,below_setRow hbw (by omega) _,.inr ⟨e7,A1,A2,n1,c1,n2,c2,G,by rw [←HM.out];rfl,by have:=hB1.size;omega,?_,?_,?_⟩⟩
     ·rw [←HM.out,setRow_other _ _ _ _ hne]
      exact (hbl.block _ (by omega)).trans ((hBW2.block _ hGs).trans HGH.out)
     ·rw [←HM.out]
      exact HRX.out.keep fun b hb hlt=>⟨by rw [setRow_other _ _ _ _ hb.2.1];exact (hbl.block _ (by omega)).trans (hBW2.block _ hlt),hb.1,by rw [size_setRow];omega⟩
     ·rw [←HM.out]
      exact HRY.out.keep fun b hb hlt=>⟨by rw [setRow_other _ _ _ _ hb.2.1];exact (hbl.block _ (by omega)).trans (hBW2.block _ hlt),hb.1,by rw [size_setRow];omega⟩
end Go.Proofs.YtmekiphpjpblpaaGreat
