import Derived.Test.YtmekiphpjpblpaaGreatC3
/- Texts merged: So Sp Ss. -/
set_option linter.unusedSimpArgs false
set_option linter.unusedVariables false
set_option maxHeartbeats 40000000
set_option maxRecDepth 100000
namespace Go.Proofs.YtmekiphpjpblpaaGreat
open Go.RowKit Lim
theorem newS_w {w:World} {pv pr pf fr:Value} {v f:List Int} {R:List RowP} {fl:List Nat} {n:Nat} (hpv:SlI w (fun b=>b<w.heap.size) pv v) (hpr:SlR w (fun b=>b<w.heap.size) pr R) (hpf:SlI w (fun b=>b<w.heap.size) pf f) (hfr:SlI w (fun b=>b<w.heap.size) fr (natL fl)) (hvl:v.length=n) (hfl:f.length=n) (n20:n<20) (hR:ROK R n) (hv:Rng v) (hf:Tri f) (hfn:fl.Nodup) (hflt:∀i∈fl,i<n) :
  Calls Tryz.prog 111 #[.agg #[pv,pr,pf],fr] w fun e w'=>∃K s bv,e=.returned (.pointer (some ⟨K.S,0,none⟩))∧SAt K s w (x0 f) (dotE v (x0 f)) (sumsL s (x0 f)) ⟨0,[],0,false⟩ bv w'∧s.v=v∧s.R=R∧s.free=fl∧s.one=false∧s.once=false∧SOK s n:=by
 subst hvl
 have HFL:=Lib.hid hfl
 clear hfl
 obtain ⟨W1,hW1⟩:∃W1,W1=(w.alloc (.cells #[pv,pr,pf] 53)).alloc (.cells #[fr] 27):=⟨_,rfl⟩
 have hB1:Below w.heap.size w W1:=by rw [hW1];exact ((Below.refl _ _).alloc (Nat.le_refl _) _).alloc (by simp) _
 have hP1:W1.heap[w.heap.size]? = some (.cells #[pv,pr,pf] 53 (0,0)):=by rw [hW1,Lib.alloc_old _ _ _ (by simp)];exact heap_alloc_new w _
 have hF1:W1.heap[w.heap.size+1]? = some (.cells #[fr] 27 (0,0)):=by rw [hW1];exact at_new (by simp)
 obtain ⟨Av,cv,ev,hcv,hgv⟩:=hpv
 obtain ⟨Ar,cr,er,hgr⟩:=hpr
 obtain ⟨Af,cf,ef,hcf,hgf⟩:=hpf
 obtain ⟨Al,cl,el,hcl,hgl⟩:=hfr
 have hpv:SlI w (fun b=>b<w.heap.size) pv v:=⟨Av,cv,ev,hcv,hgv⟩
 have hpr:SlR w (fun b=>b<w.heap.size) pr R:=⟨Ar,cr,er,hgr⟩
 have hpf:SlI w (fun b=>b<w.heap.size) pf f:=⟨Af,cf,ef,hcf,hgf⟩
 have hfr:SlI w (fun b=>b<w.heap.size) fr (natL fl):=⟨Al,cl,el,hcl,hgl⟩
 subst ev er ef el
 have WD:∀X,Below w.heap.size w X→Calls Tryz.prog 136 #[.agg #[.slice Av v.length cv,.slice Ar R.length cr,.slice Af f.length cf]] X fun e w'=>∃wd:Int,e=.returned (.int .i64 wd)∧Below X.heap.size X w'∧WideOK R wd:=fun X hX =>
  widest_w (ex:=fun b=>b<w.heap.size) (hpr.keep fun b he hlt=>⟨hX.block b hlt,he⟩) rfl rfl hR (by omega)
 have HWD:=Lib.hid WD
 clear WD
 go_enter Tryz.func111,Tryz.ntmps111
 go_upto_region 1 with fail
 rw [←hW1]
 clear hW1
 have p0:W1.cell? ⟨w.heap.size,0,none⟩=some (.slice Av v.length cv):=by rw [Lib.cell_of_heap hP1];rfl
 have p1:W1.cell? ⟨w.heap.size,1,none⟩=some (.slice Ar R.length cr):=by rw [Lib.cell_of_heap hP1];rfl
 have p2:W1.cell? ⟨w.heap.size,2,none⟩=some (.slice Af f.length cf):=by rw [Lib.cell_of_heap hP1];rfl
 have q0:W1.cell? ⟨w.heap.size+1,0,none⟩=some (.slice Al (natL fl).length cl):=by rw [Lib.cell_of_heap hF1];rfl
 go_cut [5] (fun t wx=>NCut W1 (.slice Av v.length cv) (.slice Ar R.length cr) (.slice Af f.length cf) (.slice Al (natL fl).length cl) R t wx)
 case first =>
  as_aux_lemma =>
   have HB1:=Lib.hid hB1
   clear hpv hpr hpf hfr hgv hgr hgf hgl hB1 hflt hfn
   go_region_law
    (first|(go_simp;go_at_call 136;refine (HWD.out _ (below_drewN HB1.out 1)).mono ?_;rintro e w7 ⟨wd,rfl,hb7,hwd⟩;have hP7:=(hb7.block _ (Array.getElem?_eq_some_iff.1 hP1).1).trans hP1;have hF7:=(hb7.block _ (Array.getElem?_eq_some_iff.1 hF1).1).trans hF1;have s0:w7.cell? ⟨w.heap.size,0,none⟩=some (.slice Av v.length cv):=(Lib.cell_of_heap hP7 0).trans rfl;have s1:w7.cell? ⟨w.heap.size,1,none⟩=some (.slice Ar R.length cr):=(Lib.cell_of_heap hP7 1).trans rfl;have s2:w7.cell? ⟨w.heap.size,2,none⟩=some (.slice Af f.length cf):=(Lib.cell_of_heap hP7 2).trans rfl;have s3:w7.cell? ⟨w.heap.size+1,0,none⟩=some (.slice Al (natL fl).length cl):=(Lib.cell_of_heap hF7 0).trans rfl)|fail)
   all_goals (go_wp2_with fail;go_meet)
   all_goals exact ⟨_,wd,rfl,hb7.size,Below.alloc (⟨hb7.os,hb7.tape,hb7.output,hb7.size,hb7.block⟩:Below W1.heap.size W1 w7) hb7.size _,heap_alloc_new w7 _,hwd⟩
 case rest =>
  obtain ⟨S,wd,rfl,hS1,hB2,hS,hwd⟩:=hcut
  obtain ⟨P,hPd⟩:∃P,P=w.heap.size:=⟨_,rfl⟩
  have nb:NB w P (P+1) S #[.slice Av v.length cv,.slice Ar R.length cr,.slice Af f.length cf] (.slice Al (natL fl).length cl) (nsC (.slice Av v.length cv) (.slice Ar R.length cr) (.slice Af f.length cf) (.slice Al (natL fl).length cl) wd (.slice none 0 0) 0 (.slice none 0 0) (.slice none 0 0) (.slice none 0 0) (.slice none 0 0)) wc:=by
   rw [hPd]
   exact ⟨hB1.trans (hB2.mono hB1.size),blk_call hP1 hB2,blk_call hF1 hB2,hS⟩
  have hPS:P+1<S:=by
   have:=blk_lt hF1
   omega
  have hPw:w.heap.size≤P:=by omega
  rw [←hPd]
  have HPD:=Lib.hid hPd
  clear hPd hB1 hB2 hP1 hF1 p0 p1 p2 q0 hS hS1 HWD
  have hinf:(Tryz.prog.info? 3).map (fun i=>(i.zero,i.size,i.bytes))=some (some (.int .i64 0),1,8):=by kernel_rfl
  have hmk:=run_make_row' (P:=Tryz.prog) 27 3 (.int .i64 0) 8 Tryz.underlying27 hinf rfl .i64 .i64 v.length (by omega) (by omega)
  have c0:wc.cell? ⟨P,0,none⟩=some (.slice Av v.length cv):=nb.cP 0
  have nbA:=nb.alloc (.cells (madeCells #[.int .i64 0] v.length) 3)
  have c6:(wc.alloc (.cells (madeCells #[.int .i64 0] v.length) 3)).cell? ⟨S,6,none⟩=some (.slice none 0 0):=nbA.cS 6
  have f6:=nbA.fS 6
  have hv20:((v.length:Nat):Int)≤20:=by omega
  have hSc:S<wc.heap.size:=blk_lt nb.hS
  go_upto_region 3 with fail
  obtain ⟨X,hX⟩:∃X,X=wc.heap.size:=⟨_,rfl⟩
  have nb3:=(nb.setS (by omega) (by omega) (by omega) 6 (.slice (some ⟨X,0,none⟩) v.length v.length)).alloc (.cells (madeCells #[.int .i64 0] v.length) 3)
  have hSX:S<X:=by omega
  have hX3:((wc.setCell ⟨S,6,none⟩ (.slice (some ⟨X,0,none⟩) v.length v.length)).alloc (.cells (madeCells #[.int .i64 0] v.length) 3)).heap[X]? = some (.cells (madeCells #[.int .i64 0] v.length) 3 (0,0)):=at_new (by simp;exact hX)
  obtain ⟨W3,hW3⟩:∃W3,W3=(wc.setCell ⟨S,6,none⟩ (.slice (some ⟨X,0,none⟩) v.length v.length)).alloc (.cells (madeCells #[.int .i64 0] v.length) 3):=⟨_,rfl⟩
  rw [←hW3]at nb3 hX3
  rw [←hX,←hW3]
  rw [ints_made,←HFL.out,←x0K_0]at hX3
  clear hW3 nbA nb c0 c6 f6 hSc hX hmk
  replace nb3:NB w P (P+1) S #[.slice Av v.length cv,.slice Ar R.length cr,.slice Af f.length cf] (.slice Al (natL fl).length cl) (nsC (.slice Av v.length cv) (.slice Ar R.length cr) (.slice Af f.length cf) (.slice Al (natL fl).length cl) wd (.slice (some ⟨X,0,none⟩) v.length v.length) 0 (.slice none 0 0) (.slice none 0 0) (.slice none 0 0) (.slice none 0 0)) W3:=nb3
  have c2:W3.cell? ⟨P,2,none⟩=some (.slice Af f.length cf):=nb3.cP 2
  have hf20:((f.length:Nat):Int)≤20:=by have:=HFL.out;omega
  go_wp2
  go_loopw [33] (fun i wl=>∃k:Nat,i=.int .i64 k∧k≤f.length∧NB w P (P+1) S #[.slice Av v.length cv,.slice Ar R.length cr,.slice Af f.length cf] (.slice Al (natL fl).length cl) (nsC (.slice Av v.length cv) (.slice Ar R.length cr) (.slice Af f.length cf) (.slice Al (natL fl).length cl) wd (.slice (some ⟨X,0,none⟩) v.length v.length) 0 (.slice none 0 0) (.slice none 0 0) (.slice none 0 0) (.slice none 0 0)) wl∧wl.heap[X]? = some (.cells (ints (x0K f k)) 3 (0,0))) (fun i _=>f.length-(intOf i).toNat)
  case atStart=>exact ⟨0,rfl,Nat.zero_le _,nb3,hX3⟩
  case round =>
   clear nb3 hX3 c2
   obtain ⟨k,rfl,hk,nb,hX⟩:=hrel
   by_cases hlt:k<f.length
   ·
    as_aux_lemma =>
     obtain ⟨b1,o1,rfl,hb1,c1⟩:=hgf k hlt
     have d1:=cell_same (w':=wr) c1 fun hb=>nb.below.block _ hb
     have hset:=x0K_set hlt
     obtain ⟨z,hz⟩:∃z,z=f[k]:=⟨_,rfl⟩
     rw [←hz]at d1 hset
     have hxl:=x0K_len f hk
     have c6:wr.cell? ⟨S,6,none⟩=some (.slice (some ⟨X,0,none⟩) v.length v.length):=nb.cS 6
     have cx:wr.cell? ⟨X,k,none⟩=some (.int .i64 ((x0K f k)[k]'(by omega))):=by
      rw [Lib.cell_of_heap hX]
      simp [ints,hxl,hlt]
     have fx:wr.frozen? ⟨X,k,none⟩=false:=frozen_of_row _ _ _ _ _ hX
     have g1:((k:Nat):Int)<((f.length:Nat):Int):=by omega
     have g2:((k:Nat):Int)<((v.length:Nat):Int):=by have:=HFL.out;omega
     clear hz c1 hgf hgl hgr hgv
     go_wp2
     refine ⟨⟨k+1,by simp,by omega,nb.set hX (by omega) (by omega) (by omega) (by omega),?_⟩,?_⟩
     ·rw [heap_setCell_same _ _ _ _ _ _ hX,ints_set,hset]
     ·simp only [intOf]
      omega
   ·obtain rfl:k=f.length:=by omega
    have g1:¬((f.length:Nat):Int)<((f.length:Nat):Int):=by omega
    rw [x0K_end]at hX
    have hx0l:(x0 f).length=v.length:=by unfold x0;rw [List.length_map];exact HFL.out
    have hx0b:=x0_bin hf
    obtain ⟨x,hx⟩:∃x,x=x0 f:=⟨_,rfl⟩
    rw [←hx]at hX hx0l hx0b
    have HX0:=Lib.hid hx
    have PR:∀(W:World),Below w.heap.size w W→W.heap[X]? = some (.cells (ints x) 3 (0,0))→∀(u:Value) (c:List Int),SlI w (fun b=>b<w.heap.size) u c→c.length=v.length→Rng c→Calls Tryz.prog 137 #[u,.slice (some ⟨X,0,none⟩) v.length v.length] W fun e w'=>e=.returned (.int .i64 (dotE c x))∧w'=W:=fun W hW hXW u c hu hc hr =>
     prod_w (ex:=fun b=>b<w.heap.size) (hu.keep fun b he hlt=>⟨hW.block b hlt,he⟩) (SlI.of_heap hXW hx0l) (by omega) (by omega) hr hx0b
    have HPR:=Lib.hid PR
    have HX0L:=Lib.hid hx0l
    have C1:=PR wr.drew nb.drew.below hX _ v hpv rfl hv
    clear hx PR hx0l hlt hk hgf hcf
    have c0:wr.cell? ⟨P,0,none⟩=some (.slice Av v.length cv):=nb.cP 0
    have c6:wr.cell? ⟨S,6,none⟩=some (.slice (some ⟨X,0,none⟩) v.length v.length):=nb.cS 6
    have c7:wr.cell? ⟨S,7,none⟩=some (.int .i64 0):=nb.cS 7
    have f7:=nb.fS 7
    go_upto_region 8 with fail
    refine wp_region_still_tail 10 (by kernel_rfl) (by kernel_rfl) ?_
    simp only [List.take_succ_cons,List.take_zero,List.drop_succ_cons,List.drop_zero]
    change wpStill _ _ wr.drew _ _ _
    repeat still_step
    still_call C1
    repeat still_step
    refine wpStill_nil ?_
    change wpList _ _ _ _ _ wr.drew
    go_upto_region 9 with fail
    obtain ⟨val,hval⟩:∃val,val=dotE v x:=⟨_,rfl⟩
    have nb4:=(nb.setS (by omega) (by omega) (by omega) 7 (.int .i64 (dotE v x))).drew
    have hX4:(wr.setCell ⟨S,7,none⟩ (.int .i64 (dotE v x))).drew.heap[X]? = _:=blk_set (i:=7) (u:=.int .i64 (dotE v x)) hX (show X≠S by omega)
    obtain ⟨W4,hW4⟩:∃W4,W4=(wr.setCell ⟨S,7,none⟩ (.int .i64 (dotE v x))).drew:=⟨_,rfl⟩
    rw [←hW4]at nb4 hX4 ⊢
    rw [←hval]at nb4 ⊢
    have HVAL:=Lib.hid hval
    clear hW4 hval nb hX c0 c6 c7 f7 C1
    replace nb4:NB w P (P+1) S #[.slice Av v.length cv,.slice Ar R.length cr,.slice Af f.length cf] (.slice Al (natL fl).length cl) (nsC (.slice Av v.length cv) (.slice Ar R.length cr) (.slice Af f.length cf) (.slice Al (natL fl).length cl) wd (.slice (some ⟨X,0,none⟩) v.length v.length) val (.slice none 0 0) (.slice none 0 0) (.slice none 0 0) (.slice none 0 0)) W4:=nb4
    have hmk:=run_make_row' (P:=Tryz.prog) 27 3 (.int .i64 0) 8 Tryz.underlying27 hinf rfl .i64 .i64 R.length (by have:=hR.n60;omega) (by have:=hR.n60;omega)
    have c1:W4.cell? ⟨P,1,none⟩=some (.slice Ar R.length cr):=nb4.cP 1
    have nbA:=nb4.alloc (.cells (madeCells #[.int .i64 0] R.length) 3)
    have c8:(W4.alloc (.cells (madeCells #[.int .i64 0] R.length) 3)).cell? ⟨S,8,none⟩=some (.slice none 0 0):=nbA.cS 8
    have f8:=nbA.fS 8
    have hn60:((R.length:Nat):Int)≤60:=by have:=hR.n60;omega
    have hXs:X<W4.heap.size:=blk_lt hX4
    have hSc:S<W4.heap.size:=blk_lt nb4.hS
    go_upto_region 10 with fail
    obtain ⟨M,hM⟩:∃M,M=W4.heap.size:=⟨_,rfl⟩
    have nb5:=(nb4.setS (by omega) (by omega) (by omega) 8 (.slice (some ⟨M,0,none⟩) R.length R.length)).alloc (.cells (madeCells #[.int .i64 0] R.length) 3)
    have hXM:X<M:=by omega
    have hM5:((W4.setCell ⟨S,8,none⟩ (.slice (some ⟨M,0,none⟩) R.length R.length)).alloc (.cells (madeCells #[.int .i64 0] R.length) 3)).heap[M]? = some (.cells (madeCells #[.int .i64 0] R.length) 3 (0,0)):=at_new (by simp;exact hM)
    have hX5:((W4.setCell ⟨S,8,none⟩ (.slice (some ⟨M,0,none⟩) R.length R.length)).alloc (.cells (madeCells #[.int .i64 0] R.length) 3)).heap[X]? = some (.cells (ints x) 3 (0,0)):=(alloc_ne (by simp;omega)).trans (blk_set hX4 (by omega))
    obtain ⟨W5,hW5⟩:∃W5,W5=(W4.setCell ⟨S,8,none⟩ (.slice (some ⟨M,0,none⟩) R.length R.length)).alloc (.cells (madeCells #[.int .i64 0] R.length) 3):=⟨_,rfl⟩
    rw [←hW5]at nb5 hM5 hX5
    rw [←hM,←hW5]
    rw [ints_made,←smK_0 R x]at hM5
    clear hW5 nbA nb4 hX4 c1 c8 f8 hM hmk hXs hSc
    replace nb5:NB w P (P+1) S #[.slice Av v.length cv,.slice Ar R.length cr,.slice Af f.length cf] (.slice Al (natL fl).length cl) (nsC (.slice Av v.length cv) (.slice Ar R.length cr) (.slice Af f.length cf) (.slice Al (natL fl).length cl) wd (.slice (some ⟨X,0,none⟩) v.length v.length) val (.slice (some ⟨M,0,none⟩) R.length R.length) (.slice none 0 0) (.slice none 0 0) (.slice none 0 0)) W5:=nb5
    have c1:W5.cell? ⟨P,1,none⟩=some (.slice Ar R.length cr):=nb5.cP 1
    go_wp2
    go_loopw [67] (fun i wl=>∃k:Nat,i=.int .i64 k∧k≤R.length∧NB w P (P+1) S #[.slice Av v.length cv,.slice Ar R.length cr,.slice Af f.length cf] (.slice Al (natL fl).length cl) (nsC (.slice Av v.length cv) (.slice Ar R.length cr) (.slice Af f.length cf) (.slice Al (natL fl).length cl) wd (.slice (some ⟨X,0,none⟩) v.length v.length) val (.slice (some ⟨M,0,none⟩) R.length R.length) (.slice none 0 0) (.slice none 0 0) (.slice none 0 0)) wl∧wl.heap[X]? = some (.cells (ints x) 3 (0,0))∧wl.heap[M]? = some (.cells (ints (smK R x k)) 3 (0,0))) (fun i _=>R.length-(intOf i).toNat)
    case atStart=>exact ⟨0,rfl,Nat.zero_le _,nb5,hX5,hM5⟩
    case round =>
     clear nb5 hM5 hX5 c1
     obtain ⟨k,rfl,hk,nb,hX,hM⟩:=hrel
     by_cases hlt:k<R.length
     ·
      as_aux_lemma =>
       obtain ⟨b1,o1,_,rfl,hb1,d0,d1,d2,hcs⟩:=hgr k hlt
       obtain ⟨Ac,cc,rfl,hcc,hcf⟩:=hcs
       have hcs:SlI w (fun b=>b<w.heap.size) (.slice Ac R[k].1.length cc) R[k].1:=⟨Ac,cc,rfl,hcc,hcf⟩
       have hm:=List.getElem_mem hlt
       have hcl':=hR.len _ hm
       have hcr:=hR.rng _ hm
       have mv:∀{b o:Nat} {u:Value},w.cell? ⟨b,o,none⟩=some u→wr.cell? ⟨b,o,none⟩=some u:=fun hc=>cell_same hc fun hb=>nb.below.block _ hb
       have e0:=mv d0
       have e1:=mv d1
       have e2:=mv d2
       have hset:=smK_set (x:=x) hlt
       have hml:=smK_len R x hk
       obtain ⟨mn,hmn⟩:∃mn,mn=R[k].2.1:=⟨_,rfl⟩
       obtain ⟨mx,hmx⟩:∃mx,mx=R[k].2.2:=⟨_,rfl⟩
       rw [←hmn]at e1
       rw [←hmx]at e2
       have HSET:=Lib.hid hset
       have HCL:=Lib.hid hcl'
       have g1:((k:Nat):Int)<((R.length:Nat):Int):=by omega
       clear hmn hmx d0 d1 d2 hset hcf hgr hgl hgv hm hcl'
       generalize R[k].1=c at *
       go_upto_region 13 with fail
       obtain ⟨V,hV⟩:∃V,V=wr.heap.size:=⟨_,rfl⟩
       have nb6:=nb.alloc (.cells #[.slice Ac c.length cc,.int .i64 mn,.int .i64 mx] 110)
       have hX6:(wr.alloc (.cells #[.slice Ac c.length cc,.int .i64 mn,.int .i64 mx] 110)).heap[X]? = _:=blk_call hX ((Below.refl _ _).alloc (Nat.le_refl _) _)
       have hM6:(wr.alloc (.cells #[.slice Ac c.length cc,.int .i64 mn,.int .i64 mx] 110)).heap[M]? = _:=blk_call hM ((Below.refl _ _).alloc (Nat.le_refl _) _)
       have v0:(wr.alloc (.cells #[.slice Ac c.length cc,.int .i64 mn,.int .i64 mx] 110)).cell? ⟨V,0,none⟩=some (.slice Ac c.length cc):=by rw [hV,Lib.cell_of_heap (heap_alloc_new wr _)];rfl
       obtain ⟨W6,hW6⟩:∃W6,W6=wr.alloc (.cells #[.slice Ac c.length cc,.int .i64 mn,.int .i64 mx] 110):=⟨_,rfl⟩
       rw [←hW6]at nb6 hX6 hM6 v0 ⊢
       rw [←hV]
       clear hW6 hV e0 e1 e2 nb hX hM mv
       have C1:=HPR.out W6.drew nb6.drew.below hX6 _ c hcs HCL.out hcr
       have c6:W6.cell? ⟨S,6,none⟩=some (.slice (some ⟨X,0,none⟩) v.length v.length):=nb6.cS 6
       have c8:W6.cell? ⟨S,8,none⟩=some (.slice (some ⟨M,0,none⟩) R.length R.length):=nb6.cS 8
       have fm:W6.frozen? ⟨M,k,none⟩=false:=frozen_of_row _ _ _ _ _ hM6
       have cm:W6.cell? ⟨M,k,none⟩=some (.int .i64 ((smK R x k)[k]'(by omega))):=by
        rw [Lib.cell_of_heap hM6]
        simp [ints,hml,hlt]
       refine wp_region_still_tail 13 (by kernel_rfl) (by kernel_rfl) ?_
       simp only [List.take_succ_cons,List.take_zero,List.drop_succ_cons,List.drop_zero]
       change wpStill _ _ W6.drew _ _ _
       repeat still_step
       still_call C1
       repeat still_step
       refine wpStill_nil ?_
       change wpList _ _ _ _ _ W6.drew
       go_wp2
       refine ⟨⟨k+1,by simp,by omega,(nb6.set hM6 (by omega) (by omega) (by omega) (by omega)).drew,blk_set hX6 (by omega),?_⟩,?_⟩
       ·show (W6.setCell _ _).heap[M]? = _
        rw [heap_setCell_same _ _ _ _ _ _ hM6,ints_set,HSET.out]
       ·simp only [intOf]
        omega
     ·obtain rfl:k=R.length:=by omega
      have g1:¬((R.length:Nat):Int)<((R.length:Nat):Int):=by omega
      rw [smK_end]at hM
      have hnl:=natL_len fl
      rw [hnl]at nb
      have hl20:fl.length≤v.length:=by
       have:∀(m:Nat) (l:List Nat),l.Nodup→(∀i∈l,i<m)→l.length≤m:=by
        intro m
        induction m with
        | zero =>
         intro l _ h
         cases l with
         | nil=>simp
         | cons a l=>exact absurd (h a (by simp)) (Nat.not_lt_zero a)
        | succ m ih =>
         intro l hn h
         have h1:=ih (l.erase m) (hn.erase m) fun i hi=>by
          have h2:=h i (List.mem_of_mem_erase hi)
          have:i≠m:=fun e=>by rw [e]at hi;exact (List.Nodup.not_mem_erase hn) hi
          omega
         rw [List.length_erase]at h1
         split at h1 <;> omega
       exact this _ _ hfn hflt
      have hl20z:((fl.length:Nat):Int)≤20:=by omega
      have hinf2:(Tryz.prog.info? 27).map (fun i=>(i.zero,i.size,i.bytes))=some (some (.slice none 0 0),1,24):=by kernel_rfl
      have hmk:=run_make_row' (P:=Tryz.prog) 39 27 (.slice none 0 0) 24 Tryz.underlying39 hinf2 rfl .i64 .i64 (fl.length+1) (by omega) (by omega)
      have wn:IntKind.i64.wrap (((fl.length:Nat):Int)+1)=((fl.length+1:Nat):Int):=by rw [IntWalk.i64_in _ (by omega)];omega
      have cF:=nb.cF
      have nbA:=nb.alloc (.cells (madeCells #[.slice none 0 0] (fl.length+1)) 27)
      have c9:(wr.alloc (.cells (madeCells #[.slice none 0 0] (fl.length+1)) 27)).cell? ⟨S,9,none⟩=some (.slice none 0 0):=nbA.cS 9
      have f9:=nbA.fS 9
      have hSc:S<wr.heap.size:=blk_lt nb.hS
      rw [show ((fl.length+1:Nat):Int)=(fl.length:Int)+1 by omega]at hmk
      go_upto_region 17 with fail
      obtain ⟨LO,hLO⟩:∃LO,LO=wr.heap.size:=⟨_,rfl⟩
      have hMs:=blk_lt hM
      have nb5:=(nb.setS (by omega) (by omega) (by omega) 9 (.slice (some ⟨LO,0,none⟩) (fl.length+1) (fl.length+1))).alloc (.cells (madeCells #[.slice none 0 0] (fl.length+1)) 27)
      have hML:M<LO:=by omega
      have hL5:((wr.setCell ⟨S,9,none⟩ (.slice (some ⟨LO,0,none⟩) (fl.length+1) (fl.length+1))).alloc (.cells (madeCells #[.slice none 0 0] (fl.length+1)) 27)).heap[LO]? = some (.cells (madeCells #[.slice none 0 0] (fl.length+1)) 27 (0,0)):=at_new (by simp;exact hLO)
      have hX5:((wr.setCell ⟨S,9,none⟩ (.slice (some ⟨LO,0,none⟩) (fl.length+1) (fl.length+1))).alloc (.cells (madeCells #[.slice none 0 0] (fl.length+1)) 27)).heap[X]? = _:=(alloc_ne (by simp;omega)).trans (blk_set hX (by omega))
      have hM5:((wr.setCell ⟨S,9,none⟩ (.slice (some ⟨LO,0,none⟩) (fl.length+1) (fl.length+1))).alloc (.cells (madeCells #[.slice none 0 0] (fl.length+1)) 27)).heap[M]? = _:=(alloc_ne (by simp;omega)).trans (blk_set hM (by omega))
      obtain ⟨W5,hW5⟩:∃W5,W5=(wr.setCell ⟨S,9,none⟩ (.slice (some ⟨LO,0,none⟩) (fl.length+1) (fl.length+1))).alloc (.cells (madeCells #[.slice none 0 0] (fl.length+1)) 27):=⟨_,rfl⟩
      rw [←hW5]at nb5 hL5 hX5 hM5
      rw [←hLO,←hW5]
      clear hW5 nbA nb hX hM c9 f9 hSc hLO hMs cF
      replace nb5:NB w P (P+1) S #[.slice Av v.length cv,.slice Ar R.length cr,.slice Af f.length cf] (.slice Al fl.length cl) (nsC (.slice Av v.length cv) (.slice Ar R.length cr) (.slice Af f.length cf) (.slice Al fl.length cl) wd (.slice (some ⟨X,0,none⟩) v.length v.length) val (.slice (some ⟨M,0,none⟩) R.length R.length) (.slice (some ⟨LO,0,none⟩) (fl.length+1) (fl.length+1)) (.slice none 0 0) (.slice none 0 0)) W5:=nb5
      have nbA:=nb5.alloc (.cells (madeCells #[.slice none 0 0] (fl.length+1)) 27)
      have c10:(W5.alloc (.cells (madeCells #[.slice none 0 0] (fl.length+1)) 27)).cell? ⟨S,10,none⟩=some (.slice none 0 0):=nbA.cS 10
      have f10:=nbA.fS 10
      have hSc:S<W5.heap.size:=blk_lt nb5.hS
      go_upto_region 18 with fail
      obtain ⟨HI,hHI⟩:∃HI,HI=W5.heap.size:=⟨_,rfl⟩
      have hLs:=blk_lt hL5
      have nb:=(nb5.setS (by omega) (by omega) (by omega) 10 (.slice (some ⟨HI,0,none⟩) (fl.length+1) (fl.length+1))).alloc (.cells (madeCells #[.slice none 0 0] (fl.length+1)) 27)
      have hLH:LO<HI:=by omega
      have hH:((W5.setCell ⟨S,10,none⟩ (.slice (some ⟨HI,0,none⟩) (fl.length+1) (fl.length+1))).alloc (.cells (madeCells #[.slice none 0 0] (fl.length+1)) 27)).heap[HI]? = some (.cells (madeCells #[.slice none 0 0] (fl.length+1)) 27 (0,0)):=at_new (by simp;exact hHI)
      have hX:((W5.setCell ⟨S,10,none⟩ (.slice (some ⟨HI,0,none⟩) (fl.length+1) (fl.length+1))).alloc (.cells (madeCells #[.slice none 0 0] (fl.length+1)) 27)).heap[X]? = _:=(alloc_ne (by simp;omega)).trans (blk_set hX5 (by omega))
      have hM:((W5.setCell ⟨S,10,none⟩ (.slice (some ⟨HI,0,none⟩) (fl.length+1) (fl.length+1))).alloc (.cells (madeCells #[.slice none 0 0] (fl.length+1)) 27)).heap[M]? = _:=(alloc_ne (by simp;omega)).trans (blk_set hM5 (by omega))
      have hL:((W5.setCell ⟨S,10,none⟩ (.slice (some ⟨HI,0,none⟩) (fl.length+1) (fl.length+1))).alloc (.cells (madeCells #[.slice none 0 0] (fl.length+1)) 27)).heap[LO]? = _:=(alloc_ne (by simp;omega)).trans (blk_set hL5 (by omega))
      obtain ⟨W6,hW6⟩:∃W6,W6=(W5.setCell ⟨S,10,none⟩ (.slice (some ⟨HI,0,none⟩) (fl.length+1) (fl.length+1))).alloc (.cells (madeCells #[.slice none 0 0] (fl.length+1)) 27):=⟨_,rfl⟩
      rw [←hW6]at nb hH hX hM hL
      rw [←hHI,←hW6]
      clear hW6 nbA nb5 hX5 hM5 hL5 c10 f10 hSc hHI hLs hmk
      replace nb:NB w P (P+1) S #[.slice Av v.length cv,.slice Ar R.length cr,.slice Af f.length cf] (.slice Al fl.length cl) (nsC (.slice Av v.length cv) (.slice Ar R.length cr) (.slice Af f.length cf) (.slice Al fl.length cl) wd (.slice (some ⟨X,0,none⟩) v.length v.length) val (.slice (some ⟨M,0,none⟩) R.length R.length) (.slice (some ⟨LO,0,none⟩) (fl.length+1) (fl.length+1)) (.slice (some ⟨HI,0,none⟩) (fl.length+1) (fl.length+1)) (.slice none 0 0)) W6:=nb
      obtain ⟨TL,hTL⟩:∃TL:Nat→List Int,TL=fun d=>R.map fun r=>lowE r.1 (fl.drop d):=⟨_,rfl⟩
      obtain ⟨TH,hTH⟩:∃TH:Nat→List Int,TH=fun d=>R.map fun r=>highE r.1 (fl.drop d):=⟨_,rfl⟩
      have oL:Outer W6 LO HI fl R.length (fl.length+1) TL:=⟨_,by rw [hL,made_slices],by simp,fun d h1 h2=>by omega⟩
      have oH:Outer W6 HI HI fl R.length (fl.length+1) TH:=⟨_,by rw [hH,made_slices],by simp,fun d h1 h2=>by omega⟩
      have hmk:=run_make_row' (P:=Tryz.prog) 27 3 (.int .i64 0) 8 Tryz.underlying27 hinf rfl .i64 .i64 R.length (by have:=hR.n60;omega) (by have:=hR.n60;omega)
      have HTL:=Lib.hid hTL
      have HTH:=Lib.hid hTH
      clear hL hH hTL hTH
      go_wp2
      go_loopw [11] (fun i wl=>∃k:Nat,k≤fl.length+1∧i=.int .i64 ((fl.length:Int)-k)∧NB w P (P+1) S #[.slice Av v.length cv,.slice Ar R.length cr,.slice Af f.length cf] (.slice Al fl.length cl) (nsC (.slice Av v.length cv) (.slice Ar R.length cr) (.slice Af f.length cf) (.slice Al fl.length cl) wd (.slice (some ⟨X,0,none⟩) v.length v.length) val (.slice (some ⟨M,0,none⟩) R.length R.length) (.slice (some ⟨LO,0,none⟩) (fl.length+1) (fl.length+1)) (.slice (some ⟨HI,0,none⟩) (fl.length+1) (fl.length+1)) (.slice none 0 0)) wl∧wl.heap[X]? = some (.cells (ints x) 3 (0,0))∧wl.heap[M]? = some (.cells (ints (R.map fun r=>dotE r.1 x)) 3 (0,0))∧Outer wl LO HI fl R.length (fl.length+1-k) TL∧Outer wl HI HI fl R.length (fl.length+1-k) TH) (fun i _=>(intOf i+1).toNat)
      case atStart=>exact ⟨0,Nat.zero_le _,by simp,nb,hX,hM,oL,oH⟩
      case round =>
       clear nb hX hM oL oH
       obtain ⟨k,hk,rfl,nb,hX,hM,oL,oH⟩:=hrel
       by_cases hlt:k≤fl.length
       ·
        as_aux_lemma =>
         obtain ⟨d,hd⟩:∃d,fl.length=d+k:=⟨fl.length-k,by omega⟩
         have ed:((fl.length:Int)-k)=(d:Int):=by omega
         have ej:fl.length+1-k=d+1:=by omega
         rw [ed]
         rw [ej]at oL oH
         have hdl:d≤fl.length:=by omega
         have g0:(0:Int)≤(d:Int):=by omega
         have gd:(d:Int)<((fl.length+1:Nat):Int):=by omega
         have HD:=Lib.hid hd
         clear hd ed ej
         obtain ⟨LL,hLO,hLLl,hLL⟩:=oL
         have c9:wr.cell? ⟨S,9,none⟩=some (.slice (some ⟨LO,0,none⟩) (fl.length+1) (fl.length+1)):=nb.cS 9
         have c1:wr.cell? ⟨P,1,none⟩=some (.slice Ar R.length cr):=nb.cP 1
         go_upto_region 21 with fail
         have hLs:LO<wr.heap.size:=blk_lt hLO
         have cl9:(wr.alloc (.cells (madeCells #[.int .i64 0] R.length) 3)).cell? ⟨LO,d,none⟩=some (LL[d]'(by omega)):=by
          rw [Lib.cell_of_heap (blk_call (W:=wr) hLO ((Below.refl _ _).alloc (Nat.le_refl _) _))]
          simp
         have fl9:(wr.alloc (.cells (madeCells #[.int .i64 0] R.length) 3)).frozen? ⟨LO,d,none⟩=false:=frozen_of_row _ _ _ _ _ (blk_call (W:=wr) hLO ((Below.refl _ _).alloc (Nat.le_refl _) _))
         have nbA:=nb.alloc (.cells (madeCells #[.int .i64 0] R.length) 3)
         have c9A:(wr.alloc (.cells (madeCells #[.int .i64 0] R.length) 3)).cell? ⟨S,9,none⟩=some (.slice (some ⟨LO,0,none⟩) (fl.length+1) (fl.length+1)):=nbA.cS 9
         have c1A:(wr.alloc (.cells (madeCells #[.int .i64 0] R.length) 3)).cell? ⟨P,1,none⟩=some (.slice Ar R.length cr):=nbA.cP 1
         go_cut [11]from 101 to 190 (fun i wx=>i=.int .i64 (d:Int)∧QCut wr LO d R.length LL wx)
         case first =>
          go_region
          all_goals (go_wp2_with fail;go_meet)
          all_goals exact ⟨rfl,qcut_mk hLO (by first|rfl|simp) rfl rfl rfl⟩
         case rest =>
          obtain ⟨w1,rfl⟩:∃w1,w1=wc:=⟨_,rfl⟩
          obtain ⟨rfl,B1,hB1,hx1,hLO1,hBB1⟩:=hcut
          clear c9A c1A nbA cl9 fl9 c9 c1
          obtain ⟨LH,hHO,hLHl,hLH'⟩:=oH
          have nb1:=nb.ex1 hx1 (by omega) (by omega) (by omega) (by omega)
          have hX1:=blk_ex1 hX hx1 (by omega)
          have hM1:=blk_ex1 hM hx1 (by omega)
          have hHO1:=blk_ex1 hHO hx1 (by omega)
          have hHs:=blk_lt hHO
          have hHs1:HI<w1.heap.size:=blk_lt hHO1
          have hB1s:=blk_lt hBB1
          have c10:w1.cell? ⟨S,10,none⟩=some (.slice (some ⟨HI,0,none⟩) (fl.length+1) (fl.length+1)):=nb1.cS 10
          have c1:w1.cell? ⟨P,1,none⟩=some (.slice Ar R.length cr):=nb1.cP 1
          have nbA:=nb1.alloc (.cells (madeCells #[.int .i64 0] R.length) 3)
          have c10A:(w1.alloc (.cells (madeCells #[.int .i64 0] R.length) 3)).cell? ⟨S,10,none⟩=some (.slice (some ⟨HI,0,none⟩) (fl.length+1) (fl.length+1)):=nbA.cS 10
          have c1A:(w1.alloc (.cells (madeCells #[.int .i64 0] R.length) 3)).cell? ⟨P,1,none⟩=some (.slice Ar R.length cr):=nbA.cP 1
          have cl9:(w1.alloc (.cells (madeCells #[.int .i64 0] R.length) 3)).cell? ⟨HI,d,none⟩=some (LH[d]'(by omega)):=by
           rw [Lib.cell_of_heap (blk_call (W:=w1) hHO1 ((Below.refl _ _).alloc (Nat.le_refl _) _))]
           simp
          have fl9:(w1.alloc (.cells (madeCells #[.int .i64 0] R.length) 3)).frozen? ⟨HI,d,none⟩=false:=frozen_of_row _ _ _ _ _ (blk_call (W:=w1) hHO1 ((Below.refl _ _).alloc (Nat.le_refl _) _))
          go_upto_region 22 with fail
          go_cut [11]from 101 to 190 (fun i wx=>i=.int .i64 (d:Int)∧QCut w1 HI d R.length LH wx)
          case first =>
           go_region
           all_goals (go_wp2_with fail;go_meet)
           all_goals exact ⟨rfl,qcut_mk hHO1 (by first|rfl|simp) rfl rfl rfl⟩
          case rest =>
           obtain ⟨rfl,B2,hB2,hx2,hHO2,hBB2⟩:=hcut
           obtain ⟨w2,rfl⟩:∃w2,w2=wc:=⟨_,rfl⟩
           have nb2:=nb1.ex1 hx2 (by omega) (by omega) (by omega) (by omega)
           have hX2:=blk_ex1 hX1 hx2 (by omega)
           have hM2:=blk_ex1 hM1 hx2 (by omega)
           have hLO2:=blk_ex1 hLO1 hx2 (by omega)
           have hBB1':=blk_ex1 hBB1 hx2 (by omega)
           have hx1s:=hx1.size
           have holdL:∀d',d+1≤d'→d'≤fl.length→∃b,LL[d']? = some (.slice (some ⟨b,0,none⟩) R.length R.length)∧HI<b∧b<wr.heap.size∧w2.heap[b]? = some (.cells (ints (TL d')) 3 (0,0)):=fun d' h1 h2=>by
            obtain ⟨b,b1,b2,b3⟩:=hLL d' h1 h2
            exact ⟨b,b1,b2,blk_lt b3,blk_ex1 (blk_ex1 b3 hx1 (by omega)) hx2 (by omega)⟩
           have holdH:∀d',d+1≤d'→d'≤fl.length→∃b,LH[d']? = some (.slice (some ⟨b,0,none⟩) R.length R.length)∧HI<b∧b<wr.heap.size∧w2.heap[b]? = some (.cells (ints (TH d')) 3 (0,0)):=fun d' h1 h2=>by
            obtain ⟨b,b1,b2,b3⟩:=hLH' d' h1 h2
            exact ⟨b,b1,b2,blk_lt b3,blk_ex1 (blk_ex1 b3 hx1 (by omega)) hx2 (by omega)⟩
           clear hX1 hM1 hLO1 hBB1 nb1 hHO1 hHO hLO nb hX hM c10A c1A cl9 fl9 c10 c1 nbA hLL hLH'
           by_cases hdn:d=fl.length
           ·have gde:(((d:Nat):Int) == ((fl.length:Nat):Int))=true:=by rw [hdn];simp
            have hz:∀F:List Int→List Nat→Int,(∀c,F c []=0)→List.replicate R.length (0:Int)=R.map fun r=>F r.1 (fl.drop d):=fun F hF=>by
             rw [hdn,List.drop_length]
             refine List.ext_getElem (by simp) fun i h1 h2=>?_
             simp [hF]
            have oL:=Outer.step (T:=TL) hLO2 hLLl hdl (fun d' h1 h2=>by obtain ⟨b,b1,b2,_,b3⟩:=holdL d' h1 h2;exact ⟨b,b1,b2,b3⟩) (by omega) (by rw [HTL.out];have e:=hz lowE fun _=>rfl;rw [e]at hBB1';exact hBB1')
            have oH:=Outer.step (T:=TH) hHO2 hLHl hdl (fun d' h1 h2=>by obtain ⟨b,b1,b2,_,b3⟩:=holdH d' h1 h2;exact ⟨b,b1,b2,b3⟩) (by omega) (by rw [HTH.out];have e:=hz highE fun _=>rfl;rw [e]at hBB2;exact hBB2)
            have HDN:=Lib.hid hdn
            have hd18:(d:Int)≤20:=by omega
            clear hdn hz
            go_wp2
            refine ⟨⟨k+1,by omega,by congr 1;have:=HD.out;omega,nb2,hX2,hM2,by rw [show fl.length+1-(k+1)=d by have:=HD.out;omega];exact oL,by rw [show fl.length+1-(k+1)=d by have:=HD.out;omega];exact oH⟩,?_⟩
            simp only [intOf]
            omega
           ·have hdlt:d<fl.length:=by omega
            have gde:(((d:Nat):Int) == ((fl.length:Nat):Int))=false:=by rw [beq_eq_false_iff_ne];omega
            have hd18:(d:Int)≤20:=by omega
            obtain ⟨bL,hbL1,hbL2,hbL3,hbL4⟩:=holdL (d+1) (Nat.le_refl _) (by omega)
            obtain ⟨bH,hbH1,hbH2,hbH3,hbH4⟩:=holdH (d+1) (Nat.le_refl _) (by omega)
            obtain ⟨bf,of',rfl,hbf,cf0⟩:=hgl d (by rw [natL_len];exact hdlt)
            rw [natL_get hdlt]at cf0
            have hil:=hflt _ (List.getElem_mem hdlt)
            have hdrop:fl.drop d=fl[d] :: fl.drop (d+1):=List.drop_eq_getElem_cons hdlt
            obtain ⟨i,hi⟩:∃i,i=fl[d]:=⟨_,rfl⟩
            rw [←hi]at cf0 hil hdrop
            have eTL:TL (d+1)=R.map fun r=>lowE r.1 (fl.drop (d+1)):=by rw [HTL.out]
            have eTH:TH (d+1)=R.map fun r=>highE r.1 (fl.drop (d+1)):=by rw [HTH.out]
            have eTL2:TL d=R.map fun r=>min (at0 r.1 i) 0+lowE r.1 (fl.drop (d+1)):=by
             rw [HTL.out]
             show R.map (fun r=>lowE r.1 (fl.drop d))=_
             rw [hdrop]
             rfl
            have eTH2:TH d=R.map fun r=>max (at0 r.1 i) 0+highE r.1 (fl.drop (d+1)):=by
             rw [HTH.out]
             show R.map (fun r=>highE r.1 (fl.drop d))=_
             rw [hdrop]
             rfl
            obtain ⟨fd,hfd⟩:∃fd,fd=fl.drop (d+1):=⟨_,rfl⟩
            have hfdl:fd.length≤20:=by rw [hfd,List.length_drop];omega
            rw [←hfd]at eTL eTH eTL2 eTH2
            rw [eTL]at hbL4
            rw [eTH]at hbH4
            obtain ⟨FL,hFL⟩:∃FL:RowP→Int,FL=fun r=>min (at0 r.1 i) 0+lowE r.1 fd:=⟨_,rfl⟩
            obtain ⟨FH,hFH⟩:∃FH:RowP→Int,FH=fun r=>max (at0 r.1 i) 0+highE r.1 fd:=⟨_,rfl⟩
            rw [←hFL]at eTL2
            rw [←hFH]at eTH2
            rw [←rwK_0 R FL]at hBB1'
            rw [←rwK_0 R FH]at hBB2
            have HEL:=Lib.hid eTL2
            have HEH:=Lib.hid eTH2
            have HFL':=Lib.hid hFL
            have HFH':=Lib.hid hFH
            have c1:w2.cell? ⟨P,1,none⟩=some (.slice Ar R.length cr):=nb2.cP 1
            have hw2s:=blk_lt hBB2
            have b1w:w.heap.size≤B1:=by omega
            have b2w:w.heap.size≤B2:=by omega
            have b1P:P≠B1:=by omega
            have b2P:P≠B2:=by omega
            have b1F:P+1≠B1:=by omega
            have b2F:P+1≠B2:=by omega
            have b1S:S≠B1:=by omega
            have b2S:S≠B2:=by omega
            have b12:B2≠B1:=by omega
            have bH1:HI≠B1:=by omega
            have bh1:bH≠B1:=by omega
            clear eTL eTH eTL2 eTH2 hFL hFH hfd hdrop hi hdn
            go_wp2
            go_loopw [131] (fun i4 wl=>∃r:Nat,i4=.int .i64 r∧r≤R.length∧Ex2 B1 B2 w2 wl∧wl.heap[B1]? = some (.cells (ints (rwK R FL r)) 3 (0,0))∧wl.heap[B2]? = some (.cells (ints (rwK R FH r)) 3 (0,0))) (fun i4 _=>R.length-(intOf i4).toNat)
            case atStart=>exact ⟨0,rfl,Nat.zero_le _,Ex2.refl _ _ _,hBB1',hBB2⟩
            case round =>
             clear hBB1' hBB2 c1
             obtain ⟨r,rfl,hr,hex,hB1r,hB2r⟩:=hrel
             by_cases hlr:r<R.length
             ·
              as_aux_lemma =>
               obtain ⟨br,or',_,rfl,hbr,d0,d1,d2,hcs0⟩:=hgr r hlr
               obtain ⟨Ac,cc,rfl,hcc,hcf⟩:=hcs0
               have hm:=List.getElem_mem hlr
               have hcl':=hR.len _ hm
               have hcr:=hR.rng _ hm
               have nb4:=nb2.ex2 hex (by omega) (by omega) (by omega) (by omega) (by omega) (by omega) (by omega) (by omega)
               have mv:∀{b o:Nat} {u:Value},w.cell? ⟨b,o,none⟩=some u→wr.cell? ⟨b,o,none⟩=some u:=fun hc=>cell_same hc fun hb=>nb4.below.block _ hb
               obtain ⟨bc,oc,rfl,hbc,ci0⟩:=hcf i (by omega)
               have e0:=mv d0
               have e1:=mv d1
               have e2:=mv d2
               have cf1:=mv cf0
               have ci1:=mv ci0
               have hsetL:=rwK_set (F:=FL) hlr
               have hsetH:=rwK_set (F:=FH) hlr
               obtain ⟨mn,hmn⟩:∃mn,mn=R[r].2.1:=⟨_,rfl⟩
               obtain ⟨mx,hmx⟩:∃mx,mx=R[r].2.2:=⟨_,rfl⟩
               rw [←hmn]at e1
               rw [←hmx]at e2
               have q1:=low_rng hcr fd
               have q2:=high_rng hcr fd
               have q3:=hcr i
               have hai:=at0_get (l:=R[r].1) (i:=i) (by omega)
               have eFL:FL R[r]=min (at0 R[r].1 i) 0+lowE R[r].1 fd:=by rw [HFL'.out]
               have eFH:FH R[r]=max (at0 R[r].1 i) 0+highE R[r].1 fd:=by rw [HFH'.out]
               rw [hai]at q3 eFL eFH
               rw [eFL]at hsetL
               rw [eFH]at hsetH
               obtain ⟨ci,hci⟩:∃ci,ci=R[r].1[i]'(by omega):=⟨_,rfl⟩
               obtain ⟨cs,hcs⟩:∃cs,cs=R[r].1:=⟨_,rfl⟩
               rw [←hci]at ci1 q3 hsetL hsetH
               rw [←hcs]at q1 q2 hsetL hsetH
               have ec:R[r].1.length=v.length:=hcl'
               rw [ec]at e0
               have hL3:=blk_ex2 hLO2 hex (by omega) (by omega)
               have hH3:=blk_ex2 hHO2 hex (by omega) (by omega)
               have hbL5:=blk_ex2 hbL4 hex (by omega) (by omega)
               have hbH5:=blk_ex2 hbH4 hex (by omega) (by omega)
               have HCS:=Lib.hid hcs
               have HSL:=Lib.hid hsetL
               have HSH:=Lib.hid hsetH
               have g1:((r:Nat):Int)<((R.length:Nat):Int):=by omega
               have gi:((i:Nat):Int)<((v.length:Nat):Int):=by omega
               have gd2:((d:Nat):Int)<((fl.length:Nat):Int):=by omega
               have gd1:((d:Nat):Int)+1<((fl.length:Nat):Int)+1:=by omega
               have gd0:((d:Nat):Int)<((fl.length:Nat):Int)+1:=by omega
               have gd00:(0:Int)≤((d:Nat):Int)+1:=by omega
               have wd1:IntKind.i64.wrap (((d:Nat):Int)+1)=((d:Nat):Int)+1:=IntWalk.i64_in _ (by omega)
               clear hcs hci hmn hmx d0 d1 d2 cf0 ci0 hsetL hsetH eFL eFH hai hcf mv hgl hgv ec hcl'
               go_upto_region 27 with fail
               obtain ⟨V,hV⟩:∃V,V=wr.heap.size:=⟨_,rfl⟩
               obtain ⟨W7,hW7⟩:∃W7,W7=wr.alloc (.cells #[.slice (some ⟨bc,oc,none⟩) v.length cc,.int .i64 mn,.int .i64 mx] 110):=⟨_,rfl⟩
               have hb7:Below wr.heap.size wr W7:=by rw [hW7];exact (Below.refl _ _).alloc (Nat.le_refl _) _
               have v0:W7.cell? ⟨V,0,none⟩=some (.slice (some ⟨bc,oc,none⟩) v.length cc):=by rw [hW7,hV,Lib.cell_of_heap (heap_alloc_new wr _)];rfl
               rw [←hW7,←hV]
               clear hW7 hV e0 e1 e2
               have mv:∀{b o:Nat} {u:Value},wr.cell? ⟨b,o,none⟩=some u→W7.cell? ⟨b,o,none⟩=some u:=fun hc=>cell_same hc fun hb=>hb7.block _ hb
               have cf2:=mv cf1
               have ci2:=mv ci1
               have cF:W7.cell? ⟨P+1,0,none⟩=some (.slice (some ⟨bf,of',none⟩) fl.length cl):=(nb4.call hb7).cF
               clear mv cf1 ci1
               go_quiet (fail)
               obtain ⟨W8,hW8⟩:∃W8,W8=W7.drewN nq:=⟨_,rfl⟩
               have hb8:Below wr.heap.size wr W8:=by rw [hW8];exact below_drewN hb7 _
               rw [←hW8]
               clear hW8 hb7 v0 cf2 ci2 cF
               have nb5:=nb4.call hb8
               have hex5:=hex.call hb8
               have hB1r5:=blk_call hB1r hb8
               have hB2r5:=blk_call hB2r hb8
               have hL5:=blk_call hL3 hb8
               have hH5:=blk_call hH3 hb8
               have hbL6:=blk_call hbL5 hb8
               have hbH6:=blk_call hbH5 hb8
               clear nb4 hex hB1r hB2r hL3 hH3 hbL5 hbH5
               have c9:W8.cell? ⟨S,9,none⟩=some (.slice (some ⟨LO,0,none⟩) (fl.length+1) (fl.length+1)):=nb5.cS 9
               have l1L:W8.cell? ⟨LO,d,none⟩=some (.slice (some ⟨B1,0,none⟩) R.length R.length):=by rw [Lib.cell_of_heap hL5];simp [hLLl,hdl,Nat.lt_succ_of_le hdl]
               have l2L:W8.cell? ⟨LO,d+1,none⟩=some (.slice (some ⟨bL,0,none⟩) R.length R.length):=by
                rw [Lib.cell_of_heap hL5,List.getElem?_toArray,List.getElem?_set_ne (by omega)]
                exact hbL1
               have l3L:W8.cell? ⟨bL,r,none⟩=some (.int .i64 (lowE cs fd)):=by
                rw [Lib.cell_of_heap hbL6]
                simp [ints,hlr,HCS.out]
               have l4L:W8.cell? ⟨B1,r,none⟩=some (.int .i64 ((rwK R FL r)[r]'(by rw [rwK_len R FL hr];exact hlr))):=by
                rw [Lib.cell_of_heap hB1r5]
                simp [ints,rwK_len R FL hr,hlr]
               have l5L:W8.frozen? ⟨B1,r,none⟩=false:=frozen_of_row _ _ _ _ _ hB1r5
               have m1:IntKind.i64.wrap (lowE cs fd+min ci 0)=lowE cs fd+min ci 0:=IntWalk.i64_in _ (by omega)
               go_upto_region 28 with fail
               refine wp_region_still_tail 23 (by kernel_rfl) (by kernel_rfl) ?_
               simp only [List.take_succ_cons,List.take_zero,List.drop_succ_cons,List.drop_zero]
               change wpStill _ _ W8.drew _ _ _
               still_step
               still_step
               still_step
               still_step
               still_step
               still_step
               still_step
               still_step
               still_step
               still_step
               still_step
               still_step
               still_step
               still_step
               still_step
               still_step
               still_step
               still_step
               still_step
               still_step
               still_step
               still_step
               still_step
               refine wpStill_nil ?_
               change wpList _ _ _ _ _ W8.drew
               go_upto_region 29 with fail
               obtain ⟨nb6,hex6,hB1r6,hkp⟩:=st2 (i:=r) (u:=.int .i64 (lowE cs fd+min ci 0)) nb5 hex5 hB1r5 (.inl rfl) b1w b1P b1F b1S
               have hB2r6:=hkp _ _ hB2r5 b12
               have hH6:=hkp _ _ hH5 bH1
               have hbH7:=hkp _ _ hbH6 bh1
               clear hkp
               rw [ints_set,Int.add_comm (lowE cs fd) (min ci 0),HSL.out]at hB1r6
               rw [Int.add_comm (min ci 0) (lowE cs fd)]at hB1r6
               obtain ⟨W9,hW9⟩:∃W9,W9=(W8.setCell ⟨B1,r,none⟩ (.int .i64 (lowE cs fd+min ci 0))).drew:=⟨_,rfl⟩
               rw [←hW9]at nb6 hex6 hB1r6 hB2r6 hH6 hbH7
               rw [←hW9]
               clear hW9 nb5 hex5 hB1r5 hB2r5 hL5 hH5 hbL6 hbH6 c9 l1L l2L l3L l4L l5L m1
               have c10:W9.cell? ⟨S,10,none⟩=some (.slice (some ⟨HI,0,none⟩) (fl.length+1) (fl.length+1)):=nb6.cS 10
               have l1H:W9.cell? ⟨HI,d,none⟩=some (.slice (some ⟨B2,0,none⟩) R.length R.length):=by rw [Lib.cell_of_heap hH6];simp [hLHl,hdl,Nat.lt_succ_of_le hdl]
               have l2H:W9.cell? ⟨HI,d+1,none⟩=some (.slice (some ⟨bH,0,none⟩) R.length R.length):=by
                rw [Lib.cell_of_heap hH6,List.getElem?_toArray,List.getElem?_set_ne (by omega)]
                exact hbH1
               have l3H:W9.cell? ⟨bH,r,none⟩=some (.int .i64 (highE cs fd)):=by
                rw [Lib.cell_of_heap hbH7]
                simp [ints,hlr,HCS.out]
               have l4H:W9.cell? ⟨B2,r,none⟩=some (.int .i64 ((rwK R FH r)[r]'(by rw [rwK_len R FH hr];exact hlr))):=by
                rw [Lib.cell_of_heap hB2r6]
                simp [ints,rwK_len R FH hr,hlr]
               have l5H:W9.frozen? ⟨B2,r,none⟩=false:=frozen_of_row _ _ _ _ _ hB2r6
               have m2:IntKind.i64.wrap (highE cs fd+max ci 0)=highE cs fd+max ci 0:=IntWalk.i64_in _ (by omega)
               refine wp_region_still_tail 23 (by kernel_rfl) (by kernel_rfl) ?_
               simp only [List.take_succ_cons,List.take_zero,List.drop_succ_cons,List.drop_zero]
               change wpStill _ _ W9.drew _ _ _
               still_step
               still_step
               still_step
               still_step
               still_step
               still_step
               still_step
               still_step
               still_step
               still_step
               still_step
               still_step
               still_step
               still_step
               still_step
               still_step
               still_step
               still_step
               still_step
               still_step
               still_step
               still_step
               still_step
               refine wpStill_nil ?_
               change wpList _ _ _ _ _ W9.drew
               go_wp2
               obtain ⟨_,hex7,hB2r7,hkp⟩:=st2 (i:=r) (u:=.int .i64 (highE cs fd+max ci 0)) nb6 hex6 hB2r6 (.inr rfl) b2w b2P b2F b2S
               refine ⟨⟨r+1,by simp,by omega,hex7,hkp _ _ hB1r6 (Ne.symm b12),?_⟩,?_⟩
               ·rw [hB2r7,ints_set,Int.add_comm (highE cs fd) (max ci 0),HSH.out]
               ·simp only [intOf]
                omega
             ·obtain rfl:r=R.length:=by omega
              have g1:¬((R.length:Nat):Int)<((R.length:Nat):Int):=by omega
              rw [rwK_end,←HEL.out]at hB1r
              rw [rwK_end,←HEH.out]at hB2r
              have oL:=Outer.step (T:=TL) (blk_ex2 hLO2 hex (by omega) (by omega)) hLLl hdl (fun d' h1 h2=>by obtain ⟨b,b1,b2,b4,b3⟩:=holdL d' h1 h2;exact ⟨b,b1,b2,blk_ex2 b3 hex (by omega) (by omega)⟩) (by omega) hB1r
              have oH:=Outer.step (T:=TH) (blk_ex2 hHO2 hex (by omega) (by omega)) hLHl hdl (fun d' h1 h2=>by obtain ⟨b,b1,b2,b4,b3⟩:=holdH d' h1 h2;exact ⟨b,b1,b2,blk_ex2 b3 hex (by omega) (by omega)⟩) (by omega) hB2r
              have nb3:=nb2.ex2 hex (by omega) (by omega) (by omega) (by omega) (by omega) (by omega) (by omega) (by omega)
              have hX3:=blk_ex2 hX2 hex (by omega) (by omega)
              have hM3:=blk_ex2 hM2 hex (by omega) (by omega)
              go_wp2
              refine ⟨⟨k+1,by omega,by congr 1;have:=HD.out;omega,nb3,hX3,hM3,by rw [show fl.length+1-(k+1)=d by have:=HD.out;omega];exact oL,by rw [show fl.length+1-(k+1)=d by have:=HD.out;omega];exact oH⟩,?_⟩
              simp only [intOf]
              omega
       ·obtain rfl:k=fl.length+1:=by omega
        rw [show ((fl.length:Int)-((fl.length+1:Nat):Int)) = -1 by omega]
        rw [Nat.sub_self]at oL oH
        obtain ⟨wq,rfl⟩:∃wq,wq=wr:=⟨_,rfl⟩
        have cF:wq.cell? ⟨P+1,0,none⟩=some (.slice Al fl.length cl):=nb.cF
        have hwq:w.heap.size≤wq.heap.size:=nb.below.size
        have hSq:S<wq.heap.size:=blk_lt nb.hS
        have hHq:HI<wq.heap.size:=by
         obtain ⟨_,h1,_⟩:=oH
         exact blk_lt h1
        have hl20w:fl.length<20:=by omega
        clear hmk hlt hk hgr
        go_wp2
        go_loopw [193] (fun i wl=>∃(k:Nat) (ov:Value),i=.int .i64 k∧k≤fl.length∧NB w P (P+1) S #[.slice Av v.length cv,.slice Ar R.length cr,.slice Af f.length cf] (.slice Al fl.length cl) (nsC (.slice Av v.length cv) (.slice Ar R.length cr) (.slice Af f.length cf) (.slice Al fl.length cl) wd (.slice (some ⟨X,0,none⟩) v.length v.length) val (.slice (some ⟨M,0,none⟩) R.length R.length) (.slice (some ⟨LO,0,none⟩) (fl.length+1) (fl.length+1)) (.slice (some ⟨HI,0,none⟩) (fl.length+1) (fl.length+1)) ov) wl∧Ex1 S wq wl∧wl.ownsRow wq.heap.size 3 1 ov (ordK v fl k).length ((natL (ordK v fl k)).map (Value.int .i64))) (fun i _=>fl.length-(intOf i).toNat)
        case atStart=>exact ⟨0,_,rfl,Nat.zero_le _,nb,Ex1.refl _ _,World.ownsRow_nil _ _ _ _⟩
        case round =>
         clear nb cF
         obtain ⟨k,ov,rfl,hk,nb5,hex,hown⟩:=hrel
         by_cases hlt:k<fl.length
         ·
          obtain ⟨bf,of',rfl,hbf,cf0⟩:=hgl k (by rw [natL_len];exact hlt)
          rw [natL_get hlt]at cf0
          have hil:=hflt _ (List.getElem_mem hlt)
          have hsucc:=ordK_succ v fl k
          rw [getD_get hlt]at hsucc
          obtain ⟨i,hi⟩:∃i,i=fl[k]:=⟨_,rfl⟩
          rw [←hi]at cf0 hil hsucc
          obtain ⟨bv,ovf,rfl,hbv,cv0⟩:=hgv i hil
          rw [at0_get hil]at hsucc
          obtain ⟨z,hz⟩:∃z,z=v[i]'hil:=⟨_,rfl⟩
          rw [←hz]at cv0 hsucc
          have HS:=Lib.hid hsucc
          have cf1:=cell_same (w':=wr) cf0 fun hb=>nb5.below.block _ hb
          have cv1:=cell_same (w':=wr) cv0 fun hb=>nb5.below.block _ hb
          have c0:wr.cell? ⟨P,0,none⟩=some (.slice (some ⟨bv,ovf,none⟩) v.length cv):=nb5.cP 0
          have c12:wr.cell? ⟨S,12,none⟩=some ov:=nb5.cS 12
          have hLl:=ordK_len v fl k
          have g1:((k:Nat):Int)<((fl.length:Nat):Int):=by omega
          have g2:((i:Nat):Int)<((v.length:Nat):Int):=by omega
          have hqs:wq.heap.size≤wr.heap.size:=hex.size
          clear hi hz hsucc cf0 cv0 hgl hgv
          generalize ordK v fl k=L at *
          by_cases hpos:0<z
          ·go_wp2_with (at_builtin;(refine app_int (B0:=w.heap.size) (w0:=w) rfl _ _ rfl wq.heap.size _ L.length _ rfl (hown.alloc _) (k:Int) wr.heap.size rfl ?f1 (nb5.below.alloc nb5.below.size _) hwq ?f2 (by omega) ?_))
           case f1=>rw [Lib.cell_of_heap (heap_alloc_new wr _)];rfl
           case f2=>simp;omega
           intro v' w3 hown3 hB3 hg
           have hbb:Below wq.heap.size wr w3:=((Below.refl wq.heap.size wr).alloc hqs _).grown hg (by simp;omega) fun q hq=>(own_zone hown hq).1
           have nb6:=nb5.upTo hbb hwq (by omega) (by omega) hSq
           have hex6:=hex.upTo hbb
           have c13:w3.cell? ⟨S,12,none⟩=some ov:=nb6.cS 12
           have f13:=nb6.fS 12
           obtain ⟨gv,capv,rfl⟩:∃gv capv,v'=.slice (some ⟨gv,0,none⟩) (L.length+1) capv:=by
            rcases hown3.2 with ⟨_,h⟩|⟨gv,capv,cur,e,_⟩
            ·omega
            ·exact ⟨gv,capv,e⟩
           clear hB3 hg hbb c12 c0 cf1 cv1
           go_wp2
           refine ⟨⟨k+1,_,by simp,by omega,nb6.setS (by omega) (by omega) (by omega) 12 (.slice (some ⟨gv,0,none⟩) (L.length+1) capv),hex6.set,?_⟩,?_⟩
           ·rw [HS.out,if_pos hpos]
            unfold natL at *
            rw [List.length_append,List.map_append,List.map_append]
            exact own_at hown3 fun g h1 _=>heap_setCell_other _ _ _ _ (show g≠S by omega)
           ·simp only [intOf]
            omega
          ·go_wp2
           refine ⟨⟨k+1,ov,by simp,by omega,nb5,hex,?_⟩,?_⟩
           ·rw [HS.out,if_neg hpos,List.append_nil]
            exact hown
           ·simp only [intOf]
            omega
         ·obtain rfl:k=fl.length:=by omega
          have g1:¬((fl.length:Nat):Int)<((fl.length:Nat):Int):=by omega
          have c12:wr.cell? ⟨S,12,none⟩=some ov:=nb5.cS 12
          have keep:∀b,b<w.heap.size→b<w.heap.size→wr.heap[b]? = w.heap[b]?∧b<wq.heap.size:=fun b h1 h2=>⟨nb5.below.block b h2,by omega⟩
          have hfr2:SlI w (fun b=>b<w.heap.size) (.slice Al fl.length cl) (natL fl):=by
           have h:=hfr
           rw [natL_len]at h
           exact h
          have SORT:=ord_sort (W:=wr) (B:=wq.heap.size) (P:=P) (F:=P+1) (L:=ordK v fl fl.length) (fun e he=>ordK_lt he) (by have:=ordK_len v fl fl.length;omega) hown (hpv.keep keep) (hfr2.keep keep) (nb5.cP 0) nb5.cF (by omega) (by omega) hv (by omega) (by omega) hflt
          have HSORT:=Lib.hid SORT
          clear SORT
          go_wp2_with (go_at_call 109;refine HSORT.out.mono ?_;rintro e w7 ⟨rfl,hb7,ord,po1,po2,po3⟩)
          go_ret
          have nb7:=nb5.upTo hb7 hwq (by omega) (by omega) hSq
          have ex7:=hex.upTo hb7
          have hX7:=blk_ex1 hX ex7 (by omega)
          have hM7:=blk_ex1 hM ex7 (by omega)
          have oL7:=oL.keep (W':=w7) fun q h1 h2=>ex7.block q h1 (by omega)
          have oH7:=oH.keep (W':=w7) fun q h1 h2=>ex7.block q h1 (by omega)
          rw [HTL.out]at oL7
          rw [HTH.out]at oH7
          rw [←HX0.out,←HVAL.out]
          exact ns_fin nb7 hX7 hM7 oL7 oH7 hpv hpr hfr2 po3 hHq hPw hPS hSX hXM hML hLH HX0L.out hR hv n20 hfn hflt po1 po2 hwd
theorem fr_sort {W:World} {B P:Nat} {v:List Int} {L:List Nat} {pv ov:Value} (hL:∀e∈L,e<v.length) (hLl:L.length<20) (hown:W.ownsRow B 3 1 ov L.length ((natL L).map (Value.int .i64))) (hv:SlI W (fun b=>b<B) pv v) (hP:W.cell? ⟨P,0,none⟩=some pv) (hPB:P<B) (hr:Rng v) (h24:v.length≤24) :
  Calls Tryz.prog 109 #[ov,.func (.func 110) #[] #[.pointer (some ⟨P,0,none⟩)]] W fun e w'=>e=.returned (.tuple #[])∧Below B W w'∧∃l',l'.Perm L∧SlI w' (fun b=>B≤b) ov (natL l'):=by
 by_cases h0:L=[]
 ·subst h0
  have hsl:∃p c,ov=.slice p 0 c:=by
   rcases hown.2 with ⟨rfl,_⟩|⟨g,cap,cur,rfl,_⟩
   ·exact ⟨none,0,rfl⟩
   ·exact ⟨_,cap,rfl⟩
  obtain ⟨p,c,rfl⟩:=hsl
  refine (stable_none p c _ W).mono ?_
  rintro e w' ⟨rfl,rfl⟩
  exact ⟨rfl,Below.refl _ _,[],List.Perm.refl _,SlI.nil _ _⟩
 ·have hpos:0<L.length:=List.length_pos_iff.2 h0
  obtain ⟨e0,he0⟩:∃e0,e0∈L:=List.exists_mem_of_length_pos hpos
  have hfp:=hL _ he0
  obtain ⟨m,hm⟩:∃m,v.length=m+1:=⟨v.length-1,by omega⟩
  obtain ⟨g,cap,rfl,hgB⟩:∃g cap,ov=.slice (some ⟨g,0,none⟩) L.length cap∧B≤g:=by
   rcases hown.2 with ⟨rfl,h1⟩|⟨g,cap,cur,rfl,a2,_⟩
   ·omega
   ·exact ⟨g,cap,rfl,a2⟩
  have eg:∀args w,(callFunc 110 args).run Tryz.prog w=.ok (.enter 110 args) w:=enters_of Tryz.func110 (by kernel_rfl) rfl
  refine (stable_w (m:=m) (fun e=>at0 v e) L (fun i hi=>by have:=hL i hi;omega) hLl hown eg (fun W' hs hk i j hi hj=>?_)).mono ?_
  ·have keep:∀b,b<B→b<W.heap.size→W'.heap[b]? = W.heap[b]?∧b<B:=fun b h1 h2=>⟨hk b h2 (by omega),h1⟩
   have c1:=cell_same (w':=W') hP fun hb=>hk _ hb (by omega)
   exact great1_w (hv.keep keep) c1 hr h24 i j (by omega) (by omega)
  ·rintro e w' ⟨rfl,hg,l',p1,p2,p3⟩
   refine ⟨rfl,(Below.refl B W).grown hg ?_ ?_,l',p1,?_⟩
   ·exact Nat.le_trans hgB (Nat.le_of_lt (own_zone hown rfl).2)
   ·intro q hq
    cases hq
    exact hgB
   ·have e1:L.length=(natL l').length:=by rw [natL_len];exact p1.length_eq.symm
    exact SlI.of_own p3 e1
theorem x0_len (f:List Int):(x0 f).length=f.length:=by unfold x0;simp
structure Begun (w:World) (v f:List Int) (R:List RowP) (fl:List Nat) (n:Nat) (K:Srx) (s:Srch) (bv:Value) (w':World):Prop where
 sat:SAt K s w (x0 f) (dotE v (x0 f)) (sumsL s (x0 f)) ⟨0,[],0,false⟩ bv w'
 hv:s.v=v
 hR:s.R=R
 hfl:s.free=fl
 one:s.one=false
 once:s.once=false
 ok:SOK s n
theorem visit_all {K:Srx} {s:Srch} {n:Nat} {w0 w:World} {x:List Int} {st:St} {bv:Value} (hs:SOK s n) (hR:ROK s.R n) (h:SAt K s w0 x (dotE s.v x) (sumsL s x) st bv w) (hx:x.length=n) (hz:Zer s.free x) (hb:Bin x) :
  Calls Tryz.prog 112 #[.pointer (some ⟨K.S,0,none⟩),.int .i64 0] w fun e w'=>e=.returned (.tuple #[])∧∃bv',SAt K s w0 x (dotE s.v x) (sumsL s x) (s.visE s.free.length x st) bv' w':=by
 have hd:s.free.drop (s.free.length-s.free.length)=s.free:=by rw [Nat.sub_self];rfl
 have:=visit_w hs hR s.free.length (Nat.le_refl _) w x st bv h hx (by rw [hd];exact hz) hb
 rw [Nat.sub_self]at this
 exact this
theorem Begun.great {w0 w:World} {v f:List Int} {R:List RowP} {fl:List Nat} {n:Nat} {K:Srx} {s:Srch} {bv:Value} (h:Begun w0 v f R fl n K s bv w) (hf:Tri f) (hfl:f.length=n) (hR:ROK R n) (hp:fl.Perm (freeL f)) (W:World) (hW:W=w.setCell ⟨K.S,13,none⟩ (.int .i64 (-24000000))) :
  Calls Tryz.prog 112 #[.pointer (some ⟨K.S,0,none⟩),.int .i64 0] W fun e w'=>e=.returned (.tuple #[])∧Below w0.heap.size w0 w'∧∃m fd,w'.cell? ⟨K.S,15,none⟩=some (.int .i64 m)∧w'.cell? ⟨K.S,16,none⟩=some (.bool fd) ∧
   ((fd=false∧∀y,¬Feas R f y)∨(fd=true∧∃y,Feas R f y∧m=dotE v y∧∀z,Feas R f z→dotE v z≤dotE v y)):=by
 obtain ⟨ha,h1,h2,h3,h4,h5,hok⟩:=h
 subst h1 h2 h3
 have hm:∀i,i∈s.free ↔ i∈freeL f:=fun i=>hp.mem_iff
 have h13:=ha.setS 13 (.int .i64 (-24000000)) (val':=dotE s.v (x0 f)) (st':=⟨-24000000,[],0,false⟩) (bv':=bv) rfl ha.bst
 rw [←hW]at h13
 have hl:=x0_len f
 refine (visit_all hok hR h13 (hl.trans hfl) (x0_zer hok.fn hm) (x0_bin hf)).mono ?_
 rintro e w' ⟨rfl,bv',h9⟩
 subst hfl
 refine ⟨rfl,h9.below,_,_,h9.cell (i:=15) rfl,h9.cell (i:=16) rfl,?_⟩
 exact great_all hok hf hm h5 [] 0
theorem SAt.once {K:Srx} {s:Srch} {w0 w:World} {x:List Int} {val:Int} {sums:List Int} {st:St} {bv:Value} (h:SAt K s w0 x val sums st bv w) :
  SAt K { s with one:=true,once:=true } w0 x val sums st bv ((w.setCell ⟨K.S,4,none⟩ (.bool true)).setCell ⟨K.S,5,none⟩ (.bool true)):=by
 have hf:SFr K w ((w.setCell ⟨K.S,4,none⟩ (.bool true)).setCell ⟨K.S,5,none⟩ (.bool true)):=(SFr.set fun he=>he.1 rfl).trans (SFr.set fun he=>he.1 rfl)
 have hk:∀b,K.ex b→b<w.heap.size→((w.setCell ⟨K.S,4,none⟩ (.bool true)).setCell ⟨K.S,5,none⟩ (.bool true)).heap[b]? = w.heap[b]?∧K.ex b:=fun b he hlt=>⟨hf.block b hlt he,he⟩
 have hS:((w.setCell ⟨K.S,4,none⟩ (.bool true)).setCell ⟨K.S,5,none⟩ (.bool true)).heap[K.S]? = some (.cells (K.cs { s with one:=true,once:=true } x val st bv) tSr (0,0)):=by
  rw [heap_setCell_same _ _ _ _ _ _ (heap_setCell_same _ _ _ _ _ _ h.hS)]
  rfl
 have hX:((w.setCell ⟨K.S,4,none⟩ (.bool true)).setCell ⟨K.S,5,none⟩ (.bool true)).heap[K.X]? = some (.cells (ints x) 3 (0,0)):=by
  rw [heap_setCell_other _ _ _ _ h.n1.symm,heap_setCell_other _ _ _ _ h.n1.symm]
  exact h.hX
 have hM:((w.setCell ⟨K.S,4,none⟩ (.bool true)).setCell ⟨K.S,5,none⟩ (.bool true)).heap[K.M]? = some (.cells (ints sums) 3 (0,0)):=by
  rw [heap_setCell_other _ _ _ _ h.n2.symm,heap_setCell_other _ _ _ _ h.n2.symm]
  exact h.hM
 exact ⟨⟨hf.os.trans h.below.os,hf.tape.trans h.below.tape,hf.output.trans h.below.output,Nat.le_trans h.below.size hf.size,fun q hq=>(hf.block q (Nat.lt_of_lt_of_le hq h.below.size) ⟨by have:=h.z1;omega,by have:=h.z2;omega,by have:=h.z3;omega⟩).trans (h.below.block q hq)⟩,
  hS,hX,hM,h.sl,h.pv.keep hk,h.pr.keep hk,h.fr.keep hk,h.lo.keep hk,h.hi.keep hk,h.od.keep hk,h.bst.keep hk,h.xl,h.n1,h.n2,h.n3,h.z1,h.z2,h.z3,h.wd⟩
theorem Begun.first {w0 w:World} {v f:List Int} {R:List RowP} {n:Nat} {K:Srx} {s:Srch} {bv:Value} (h:Begun w0 v f R (freeL f) n K s bv w) (hf:Tri f) (hfl:f.length=n) (hR:ROK R n) {m:Int} {y:List Int} (hy:Feas R f y) (hm:m=dotE v y) (hmax:∀z,Feas R f z→dotE v z≤dotE v y) (W:World)
  (hW:W=((w.setCell ⟨K.S,4,none⟩ (.bool true)).setCell ⟨K.S,5,none⟩ (.bool true)).setCell ⟨K.S,13,none⟩ (.int .i64 m)) :
  Calls Tryz.prog 112 #[.pointer (some ⟨K.S,0,none⟩),.int .i64 0] W fun e w'=>e=.returned (.tuple #[])∧Below w0.heap.size w0 w'∧∃(x:List Int) (A:Option Addr) (c:Nat),w'.cell? ⟨K.S,14,none⟩=some (.slice A x.length c)∧SlI w' (fun b=>b<w'.heap.size) (.slice A x.length c) x∧IsBest v R f x∧dotE v x=m:=by
 obtain ⟨ha,h1,h2,h3,h4,h5,hok⟩:=h
 subst h1 h2
 have h0:=ha.once
 have h13:=h0.setS 13 (.int .i64 m) (val':=dotE s.v (x0 f)) (st':=⟨m,[],0,false⟩) (bv':=bv) rfl h0.bst
 rw [←hW]at h13
 have hl:=x0_len f
 have hok':SOK { s with one:=true,once:=true } n:=⟨hok.n24,hok.vl,hok.vr,hok.rl,hok.fn,hok.fl,hok.on,hok.om,hok.op,hok.oc,hok.wide⟩
 have hmm:∀i,i∈s.free ↔ i∈freeL f:=fun i=>by rw [h3]
 refine (visit_all (s:={ s with one:=true,once:=true }) hok' hR h13 (hl.trans hfl) (x0_zer hok.fn hmm) (x0_bin hf)).mono ?_
 rintro e w' ⟨rfl,bv',h9⟩
 subst hfl
 have hA:=first_all (s:={ s with one:=true,once:=true }) hok' hf h3 rfl rfl m 0 [] hy hm hmax
 have hb:=h9.bst
 have hc:=h9.cell (i:=14) rfl
 generalize (Srch.visE { s with one:=true,once:=true } s.free.length (x0 f) ⟨m,[],0,false⟩).best=x at *
 obtain ⟨A,c,rfl⟩:=hb.len
 exact ⟨rfl,h9.below,x,A,c,hc,hb.keep fun b _ hlt=>⟨rfl,hlt⟩,hA.1,hA.2⟩
def GreatR (v f:List Int) (R:List RowP) (w:World) (e:Ending) (w':World):Prop :=
 ∃(m:Int) (fd:Bool),e=.returned (.tuple #[.int .i64 m,.bool fd])∧Below w.heap.size w w'∧((fd=false∧∀y,¬Feas R f y)∨(fd=true∧∃y,Feas R f y∧m=dotE v y∧∀z,Feas R f z→dotE v z≤dotE v y))
theorem great_w {w:World} {pv pr pf:Value} {v f:List Int} {R:List RowP} {n:Nat} (hpv:SlI w (fun b=>b<w.heap.size) pv v) (hpr:SlR w (fun b=>b<w.heap.size) pr R) (hpf:SlI w (fun b=>b<w.heap.size) pf f) (hk:VOK v R f n) (n20:n<20) :
  Calls Tryz.prog 68 #[.agg #[pv,pr,pf]] w fun e w'=>GreatR v f R w e w':=by
 unfold GreatR
 obtain ⟨hvl,hfl,h24,hR,hv,hf⟩:=hk
 subst hvl
 have HFL:=Lib.hid hfl
 clear hfl
 obtain ⟨W1,hW1⟩:∃W1,W1=w.alloc (.cells #[pv,pr,pf] 53):=⟨_,rfl⟩
 have hB1:Below w.heap.size w W1:=by rw [hW1];exact (Below.refl _ _).alloc (Nat.le_refl _) _
 have hP1:W1.heap[w.heap.size]? = some (.cells #[pv,pr,pf] 53 (0,0)):=by rw [hW1];exact heap_alloc_new w _
 obtain ⟨Av,cv,ev,hcv,hgv⟩:=hpv
 obtain ⟨Ar,cr,er,hgr⟩:=hpr
 obtain ⟨Af,cf,ef,hcf,hgf⟩:=hpf
 have hpv:SlI w (fun b=>b<w.heap.size) pv v:=⟨Av,cv,ev,hcv,hgv⟩
 have hpr:SlR w (fun b=>b<w.heap.size) pr R:=⟨Ar,cr,er,hgr⟩
 have hpf:SlI w (fun b=>b<w.heap.size) pf f:=⟨Af,cf,ef,hcf,hgf⟩
 clear hgv hgr hgf
 subst ev er ef
 obtain ⟨P,hPd⟩:∃P,P=w.heap.size:=⟨_,rfl⟩
 rw [←hPd]at hP1
 have p0:W1.cell? ⟨P,0,none⟩=some (.slice Av v.length cv):=by rw [Lib.cell_of_heap hP1];rfl
 have p1:W1.cell? ⟨P,1,none⟩=some (.slice Ar R.length cr):=by rw [Lib.cell_of_heap hP1];rfl
 have p2:W1.cell? ⟨P,2,none⟩=some (.slice Af f.length cf):=by rw [Lib.cell_of_heap hP1];rfl
 have hP1s:=blk_lt hP1
 have hn:=HFL.out
 have FV:Calls Tryz.prog 108 #[.agg #[.slice Av v.length cv,.slice Ar R.length cr,.slice Af f.length cf]] W1 fun e w'=>∃u,e=.returned u∧Below W1.heap.size W1 w'∧w'.ownsRow W1.heap.size 3 1 u (freeL f).length ((natL (freeL f)).map (Value.int .i64)) :=
  freeV_w (ex:=fun b=>b<W1.heap.size) (fun b h=>h) (hpf.keep fun b h1 h2=>⟨hB1.block b h2,Nat.lt_of_lt_of_le h1 hB1.size⟩) rfl rfl (by omega)
 have hle:=freeL_le f
 have hlt:∀i∈freeL f,i<v.length:=fun i hi=>by have:=(freeL_mem.1 hi).1;omega
 have hnd:=(freeL_lt f).imp (fun h=>Nat.ne_of_lt h)
 obtain ⟨L,hLd⟩:∃L,L=freeL f:=⟨_,rfl⟩
 rw [←hLd]at FV hle hlt hnd
 have HLD:=Lib.hid hLd
 have HPD:=Lib.hid hPd
 have HFV:=Lib.hid FV
 clear FV hLd hPd hn
 go_enter Tryz.func68,Tryz.ntmps68
 go_upto_region 1 with fail
 rw [←hW1,←HPD.out]
 clear hW1
 go_wp2_with (go_at_call 108;refine HFV.out.mono ?_;rintro e w2 ⟨fv,rfl,hb2,hown⟩)
 have hs2:=hb2.size
 have hP2:=blk_call hP1 hb2
 have hB2:Below w.heap.size w w2:=hB1.trans (hb2.mono hB1.size)
 obtain ⟨Al,cl,rfl⟩:∃A c,fv=.slice A L.length c:=by
  rcases hown.2 with ⟨rfl,h1⟩|⟨g,cap,cur,rfl,_⟩
  ·exact ⟨none,0,by rw [h1]⟩
  ·exact ⟨_,cap,rfl⟩
 have q0:w2.cell? ⟨P,0,none⟩=some (.slice Av v.length cv):=by rw [Lib.cell_of_heap hP2];rfl
 have keep:∀b,b<w.heap.size→b<w.heap.size→w2.heap[b]? = w.heap[b]?∧b<W1.heap.size:=fun b h1 h2=>⟨hB2.block b h2,by have:=hB1.size;omega⟩
 have SORT:=fr_sort (W:=w2) (B:=W1.heap.size) (P:=P) (L:=L) hlt (by have:=HFL.out;omega) hown (hpv.keep keep) q0 hP1s hv h24
 have HSORT:=Lib.hid SORT
 clear SORT p0 p1 p2
 go_wp2_with (go_at_call 109;refine HSORT.out.mono ?_)
 rintro e w3 ⟨rfl,hb3,l',hperm,hsl⟩
 have hB3:Below w.heap.size w w3:=hB2.trans (hb3.mono (by have:=hB1.size;omega))
 have hP3:w3.heap[P]? = some (.cells #[.slice Av v.length cv,.slice Ar R.length cr,.slice Af f.length cf] 53 (0,0)):=(hb3.block P hP1s).trans hP2
 have p0:w3.cell? ⟨P,0,none⟩=some (.slice Av v.length cv):=by rw [Lib.cell_of_heap hP3];rfl
 have p1:w3.cell? ⟨P,1,none⟩=some (.slice Ar R.length cr):=by rw [Lib.cell_of_heap hP3];rfl
 have p2:w3.cell? ⟨P,2,none⟩=some (.slice Af f.length cf):=by rw [Lib.cell_of_heap hP3];rfl
 have keep3:∀b,b<w.heap.size→b<w.heap.size→w3.heap[b]? = w.heap[b]?∧b<w3.heap.size:=fun b h1 h2=>⟨hB3.block b h2,by have:=hB3.size;omega⟩
 have NS:Calls Tryz.prog 111 #[.agg #[.slice Av v.length cv,.slice Ar R.length cr,.slice Af f.length cf],.slice Al L.length cl] w3 fun e w'=>∃K s bv,e=.returned (.pointer (some ⟨K.S,0,none⟩))∧Begun w3 v f R l' v.length K s bv w':=by
  refine (newS_w (hpv.keep keep3) (hpr.keep keep3) (hpf.keep keep3) (hsl.keep fun b _ h=>⟨rfl,h⟩) rfl HFL.out n20 hR hv hf (hperm.nodup_iff.2 hnd) (fun i hi=>hlt i (hperm.mem_iff.1 hi))).mono ?_
  rintro e w' ⟨K,s,bv,rfl,h1,h2,h3,h4,h5,h6,h7⟩
  exact ⟨K,s,bv,rfl,⟨h1,h2,h3,h4,h5,h6,h7⟩⟩
 have HNS:=Lib.hid NS
 clear NS q0 hown hsl keep keep3
 go_wp2_with (go_at_call 111;refine HNS.out.mono ?_)
 rintro e w4 ⟨K,s,bv,rfl,hbg⟩
 have f13:=hbg.sat.fS 13
 have c13:=hbg.sat.cell (i:=13) rfl
 have VS:=hbg.great hf HFL.out hR (by rw [←HLD.out];exact hperm) _ rfl
 have HVS:=Lib.hid VS
 clear VS p0 p1 p2 HNS HSORT HFV
 go_wp2_with (go_at_call 112;refine HVS.out.mono ?_)
 rintro e w5 ⟨rfl,hb5,m,fd,c15,c16,hres⟩
 have HRES:=Lib.hid hres
 clear hres HVS f13 c13 hbg
 go_wp2
 go_quiet (fail)
 go_wp2
 go_ret2
 exact ⟨m,fd,rfl,below_drewN (hB3.trans (hb5.mono hB3.size)) _,HRES.out⟩
theorem first_w {w:World} {pv pr pf:Value} {v f:List Int} {R:List RowP} {n:Nat} (hpv:SlI w (fun b=>b<w.heap.size) pv v) (hpr:SlR w (fun b=>b<w.heap.size) pr R) (hpf:SlI w (fun b=>b<w.heap.size) pf f) (hk:VOK v R f n) (n20:n<20) {m:Int} {y:List Int} (hy:Feas R f y) (hm:m=dotE v y) (hmax:∀z,Feas R f z→dotE v z≤dotE v y) :
  Calls Tryz.prog 69 #[.agg #[pv,pr,pf],.int .i64 m] w fun e w'=>∃(x:List Int) (A:Option Addr) (c:Nat),e=.returned (.slice A x.length c)∧Below w.heap.size w w'∧SlI w' (fun b=>b<w'.heap.size) (.slice A x.length c) x∧IsBest v R f x∧dotE v x=m:=by
 obtain ⟨hvl,hfl,h24,hR,hv,hf⟩:=hk
 subst hvl
 have HFL:=Lib.hid hfl
 have HM:=Lib.hid hm
 clear hfl hm
 obtain ⟨W1,hW1⟩:∃W1,W1=w.alloc (.cells #[pv,pr,pf] 53):=⟨_,rfl⟩
 have hB1:Below w.heap.size w W1:=by rw [hW1];exact (Below.refl _ _).alloc (Nat.le_refl _) _
 have hP1:W1.heap[w.heap.size]? = some (.cells #[pv,pr,pf] 53 (0,0)):=by rw [hW1];exact heap_alloc_new w _
 obtain ⟨Av,cv,ev,hcv,hgv⟩:=hpv
 obtain ⟨Ar,cr,er,hgr⟩:=hpr
 obtain ⟨Af,cf,ef,hcf,hgf⟩:=hpf
 have hpv:SlI w (fun b=>b<w.heap.size) pv v:=⟨Av,cv,ev,hcv,hgv⟩
 have hpr:SlR w (fun b=>b<w.heap.size) pr R:=⟨Ar,cr,er,hgr⟩
 have hpf:SlI w (fun b=>b<w.heap.size) pf f:=⟨Af,cf,ef,hcf,hgf⟩
 clear hgv hgr hgf
 subst ev er ef
 obtain ⟨P,hPd⟩:∃P,P=w.heap.size:=⟨_,rfl⟩
 rw [←hPd]at hP1
 have p0:W1.cell? ⟨P,0,none⟩=some (.slice Av v.length cv):=by rw [Lib.cell_of_heap hP1];rfl
 have p1:W1.cell? ⟨P,1,none⟩=some (.slice Ar R.length cr):=by rw [Lib.cell_of_heap hP1];rfl
 have p2:W1.cell? ⟨P,2,none⟩=some (.slice Af f.length cf):=by rw [Lib.cell_of_heap hP1];rfl
 have hn:=HFL.out
 have hle:=freeL_le f
 have hlt:∀i∈freeL f,i<v.length:=fun i hi=>by have:=(freeL_mem.1 hi).1;omega
 have hnd:=(freeL_lt f).imp (fun h=>Nat.ne_of_lt h)
 have FV:∀W,Below W1.heap.size W1 W→Calls Tryz.prog 108 #[.agg #[.slice Av v.length cv,.slice Ar R.length cr,.slice Af f.length cf]] W fun e w'=>∃A c,e=.returned (.slice A (freeL f).length c)∧Below W1.heap.size W1 w'∧SlI w' (fun b=>b<w'.heap.size) (.slice A (freeL f).length c) (natL (freeL f)):=fun W hW=>by
  have hBW:Below w.heap.size w W:=hB1.trans (hW.mono hB1.size)
  refine (freeV_w (ex:=fun b=>b<W.heap.size) (fun b h=>h) (hpf.keep fun b h1 h2=>⟨hBW.block b h2,Nat.lt_of_lt_of_le h1 hBW.size⟩) rfl rfl (by omega)).mono ?_
  rintro e w' ⟨u,rfl,hb,hown⟩
  have hsl:=SlI.of_own hown (natL_len _).symm
  obtain ⟨A,c,rfl⟩:=hsl.len
  rw [natL_len]at *
  exact ⟨A,c,rfl,hW.trans (hb.mono hW.size),hsl.keep fun b _ h=>⟨rfl,h⟩⟩
 have NS:∀W2 W A c,Below W1.heap.size W1 W2→SlI W2 (fun b=>b<W2.heap.size) (.slice A (freeL f).length c) (natL (freeL f))→Below W2.heap.size W2 W→Calls Tryz.prog 111 #[.agg #[.slice Av v.length cv,.slice Ar R.length cr,.slice Af f.length cf],.slice A (freeL f).length c] W fun e w'=>∃K s bv,e=.returned (.pointer (some ⟨K.S,0,none⟩))∧Below w.heap.size w W∧Begun W v f R (freeL f) v.length K s bv w':=fun W2 W A c hW2 hsl hWW=>by
  have hW:Below W1.heap.size W1 W:=hW2.trans (hWW.mono hW2.size)
  have hBW:Below w.heap.size w W:=hB1.trans (hW.mono hB1.size)
  have keep:∀b,b<w.heap.size→b<w.heap.size→W.heap[b]? = w.heap[b]?∧b<W.heap.size:=fun b h1 h2=>⟨hBW.block b h2,by have:=hBW.size;omega⟩
  refine (newS_w (hpv.keep keep) (hpr.keep keep) (hpf.keep keep) (hsl.keep fun b h1 h2=>⟨hWW.block b h2,Nat.lt_of_lt_of_le h1 hWW.size⟩) rfl HFL.out n20 hR hv hf hnd hlt).mono ?_
  rintro e w' ⟨K,s,bv,rfl,h1,h2,h3,h4,h5,h6,h7⟩
  exact ⟨K,s,bv,rfl,hBW,⟨h1,h2,h3,h4,h5,h6,h7⟩⟩
 have KP:∀W,Below W1.heap.size W1 W→W.cell? ⟨P,0,none⟩=some (.slice Av v.length cv)∧W.cell? ⟨P,1,none⟩=some (.slice Ar R.length cr)∧W.cell? ⟨P,2,none⟩=some (.slice Af f.length cf):=fun W hW=>by
  have hP:=blk_call hP1 hW
  exact ⟨by rw [Lib.cell_of_heap hP];rfl,by rw [Lib.cell_of_heap hP];rfl,by rw [Lib.cell_of_heap hP];rfl⟩
 have FST:∀W X K s bv,Begun W v f R (freeL f) v.length K s bv X→Calls Tryz.prog 112 #[.pointer (some ⟨K.S,0,none⟩),.int .i64 0] (((X.setCell ⟨K.S,4,none⟩ (.bool true)).setCell ⟨K.S,5,none⟩ (.bool true)).setCell ⟨K.S,13,none⟩ (.int .i64 m)) fun e w'=>e=.returned (.tuple #[])∧Below W.heap.size W w'∧∃(x:List Int) (A:Option Addr) (c:Nat),w'.cell? ⟨K.S,14,none⟩=some (.slice A x.length c)∧SlI w' (fun b=>b<w'.heap.size) (.slice A x.length c) x∧IsBest v R f x∧dotE v x=m:=fun _ _ _ _ _ h=>h.first hf HFL.out hR hy HM.out hmax _ rfl
 have HFST:=Lib.hid FST
 have HMX:=Lib.hid hmax
 clear FST hmax
 have HKP:=Lib.hid KP
 have HPD:=Lib.hid hPd
 have HFV:=Lib.hid FV
 have HNS:=Lib.hid NS
 clear FV NS KP hPd hn hpv hpr hpf
 generalize freeL f=L at *
 go_enter Tryz.func69,Tryz.ntmps69
 go_upto_region 1 with fail
 rw [←hW1,←HPD.out]
 clear hW1
 go_region_law
  (first|(go_simp;go_at_call 108;(with_reducible refine (HFV.out _ (by with_reducible repeat' (first|exact Below.refl _ _|refine Below.drew ?_))).mono ?_);rintro e w2 ⟨Al,cl,rfl,hb2,hsl⟩;obtain ⟨s0,s1,s2⟩:=HKP.out _ hb2)|(go_simp;go_at_call 111;(with_reducible refine (HNS.out _ _ _ _ hb2 hsl (by with_reducible repeat' (first|exact Below.refl _ _|refine Below.drew ?_))).mono ?_);rintro e w4 ⟨K,s,bv,rfl,hBW,hbg⟩)|fail)
 all_goals
  have f4:=hbg.sat.fS 4
  have f5:=hbg.sat.fS 5
  have f13:=hbg.sat.fS 13
  have c4:=hbg.sat.cell (i:=4) rfl
  have c5:=hbg.sat.cell (i:=5) rfl
  have c13:=hbg.sat.cell (i:=13) rfl
  have VS:=HFST.out _ _ _ _ _ hbg
  have HVS:=Lib.hid VS
  clear VS hbg HNS HFV HKP hsl
  go_wp2_with (go_at_call 112;refine HVS.out.mono ?_)
  rintro e w5 ⟨rfl,hb5,x,A,c,c14,hsl5,hbest,hdx⟩
  have HDX:=Lib.hid hdx
  clear hdx HVS
  go_wp2
  go_ret
  exact ⟨x,A,c,rfl,hBW.trans (hb5.mono hBW.size),hsl5,hbest,HDX.out⟩
def SolR (v f:List Int) (R:List RowP) (w':World) (e:Ending):Prop :=
 (solB v R f=none∧e=.returned (.tuple #[.slice none 0 0,.int .i64 0,.int .i64 14])) ∨
 ∃(x:List Int) (A:Option Addr) (c:Nat),solB v R f=some x∧x.length=f.length∧e=.returned (.tuple #[.slice A x.length c,.int .i64 (dotE v x),.int .i64 0])∧SlI w' (fun b=>b<w'.heap.size) (.slice A x.length c) x
theorem sol_empty {v f:List Int} {R:List RowP} (hf:Tri f) {k:Nat} (hk:k<R.length) (h:R[k].2.2<R[k].2.1):solB v R f=none:=by
 refine solB_none hf fun y hy=>?_
 have h1:=List.all_eq_true.1 hy.row _ (List.getElem_mem hk)
 unfold okRow at h1
 simp only [Bool.and_eq_true,decide_eq_true_eq]at h1
 omega
theorem zsolve_w {w:World} {pv pr pf:Value} {v f:List Int} {R:List RowP} {n:Nat} (hpv:SlI w (fun b=>b<w.heap.size) pv v) (hpr:SlR w (fun b=>b<w.heap.size) pr R) (hpf:SlI w (fun b=>b<w.heap.size) pf f) (hk:VOK v R f n) (n20:n<20) :
  Calls Tryz.prog 47 #[.agg #[pv,pr,pf]] w fun e w'=>Below w.heap.size w w'∧SolR v f R w' e:=by
 have hn60:=hk.rok.n60
 have hf:=hk.tri
 obtain ⟨W1,hW1⟩:∃W1,W1=w.alloc (.cells #[pv,pr,pf] 53):=⟨_,rfl⟩
 have hB1:Below w.heap.size w W1:=by rw [hW1];exact (Below.refl _ _).alloc (Nat.le_refl _) _
 have hP1:W1.heap[w.heap.size]? = some (.cells #[pv,pr,pf] 53 (0,0)):=by rw [hW1];exact heap_alloc_new w _
 have keep:∀W,Below w.heap.size w W→∀b,b<w.heap.size→b<w.heap.size→W.heap[b]? = w.heap[b]?∧b<W.heap.size:=fun W hB b h1 h2=>⟨hB.block b h2,by have:=hB.size;omega⟩
 have VA:=fun W (hB:Below w.heap.size w W)=>zvalid_w (hpv.keep (keep W hB)) (hpr.keep (keep W hB)) (hpf.keep (keep W hB)) hk
 have GR:=fun W (hB:Below w.heap.size w W)=>great_w (hpv.keep (keep W hB)) (hpr.keep (keep W hB)) (hpf.keep (keep W hB)) hk n20
 have FI:=fun W (hB:Below w.heap.size w W) (m:Int) (y:List Int) h1 h2 h3=>first_w (m:=m) (y:=y) (hpv.keep (keep W hB)) (hpr.keep (keep W hB)) (hpf.keep (keep W hB)) hk n20 h1 h2 h3
 have HVA:=Lib.hid VA
 have HGR:=Lib.hid GR
 have HFI:=Lib.hid FI
 clear VA GR FI keep
 have HK:=Lib.hid hk
 clear hk
 obtain ⟨Av,cv,ev,hcv,hgv⟩:=hpv
 obtain ⟨Ar,cr,er,hgr⟩:=hpr
 obtain ⟨Af,cf,ef,hcf,hgf⟩:=hpf
 subst ev er ef
 clear hgv hgf
 obtain ⟨P,hPd⟩:∃P,P=w.heap.size:=⟨_,rfl⟩
 rw [←hPd]at hP1
 have KP:∀W,Below W1.heap.size W1 W→W.cell? ⟨P,0,none⟩=some (.slice Av v.length cv)∧W.cell? ⟨P,1,none⟩=some (.slice Ar R.length cr)∧W.cell? ⟨P,2,none⟩=some (.slice Af f.length cf):=fun W hW=>by
  have hP:=blk_call hP1 hW
  exact ⟨by rw [Lib.cell_of_heap hP];rfl,by rw [Lib.cell_of_heap hP];rfl,by rw [Lib.cell_of_heap hP];rfl⟩
 obtain ⟨p0,p1,p2⟩:=KP W1 (Below.refl _ _)
 have g4:((R.length:Nat):Int)≤60:=by omega
 have HKP:=Lib.hid KP
 have HPD:=Lib.hid hPd
 clear KP hPd
 go_enter Tryz.func47,Tryz.ntmps47
 go_upto_region 1 with fail
 rw [←hW1,←HPD.out]
 clear hW1
 go_wp2_with (go_at_call 67;refine (HVA.out _ hB1).mono ?_)
 intro e w2 h0
 first|(have hb2:=And.right h0;have he:=And.left h0)|(intro hb2;have he:=h0)
 subst he
 obtain ⟨q0,q1,q2⟩:=HKP.out _ hb2
 clear p0 p1 p2
 go_wp2
 go_loopw [18] (fun i wl=>∃k:Nat,i=.int .i64 k∧k≤R.length∧Below W1.heap.size W1 wl) (fun i _=>R.length-(intOf i).toNat)
 case atStart=>exact ⟨0,rfl,Nat.zero_le _,hb2⟩
 case round =>
  clear q0 q1 q2 hb2
  obtain ⟨k,rfl,hk,hbl⟩:=hrel
  have hbw:Below w.heap.size w wr:=hB1.trans (hbl.mono hB1.size)
  by_cases hlt:k<R.length
  ·
   as_aux_lemma =>
    obtain ⟨b1,o1,_,rfl,_,d0,d1,d2,Ac,cc,rfl,_,_⟩:=hgr k hlt
    have f0:=cell_same (w':=wr) d0 fun hb=>hbw.block _ hb
    have f1:=cell_same (w':=wr) d1 fun hb=>hbw.block _ hb
    have f2:=cell_same (w':=wr) d2 fun hb=>hbw.block _ hb
    have hse:=sol_empty (v:=v) hf hlt
    obtain ⟨cs,hcs⟩:∃cs,cs=R[k].1:=⟨_,rfl⟩
    obtain ⟨mn,hmn⟩:∃mn,mn=R[k].2.1:=⟨_,rfl⟩
    obtain ⟨mx,hmx⟩:∃mx,mx=R[k].2.2:=⟨_,rfl⟩
    rw [←hcs]at f0
    rw [←hmn]at f1 hse
    rw [←hmx]at f2 hse
    have HSE:=Lib.hid hse
    have g1:((k:Nat):Int)<((R.length:Nat):Int):=by omega
    have hbn:Below W1.heap.size W1 (wr.alloc (.cells #[.slice Ac cs.length cc,.int .i64 mn,.int .i64 mx] 110)):=hbl.alloc hbl.size _
    have hnew:=heap_alloc_new wr (.cells #[.slice Ac cs.length cc,.int .i64 mn,.int .i64 mx] 110)
    obtain ⟨V,hV⟩:∃V,V=wr.heap.size:=⟨_,rfl⟩
    clear hcs hmn hmx d0 d1 d2 hgr hse
    go_upto_region 7 with fail
    rw [←hV]at hnew
    obtain ⟨W,hW⟩:∃W,W=wr.alloc (.cells #[.slice Ac cs.length cc,.int .i64 mn,.int .i64 mx] 110):=⟨_,rfl⟩
    rw [←hW]at hnew hbn
    rw [←hW,←hV]
    have s1:W.cell? ⟨V,1,none⟩=some (.int .i64 mn):=by rw [Lib.cell_of_heap hnew];rfl
    have s2:W.cell? ⟨V,2,none⟩=some (.int .i64 mx):=by rw [Lib.cell_of_heap hnew];rfl
    clear hW hV f0 f1 f2 hnew
    by_cases hgt:mx<mn
    ·have g7:mn > mx:=hgt
     go_wp2
     go_ret3
     exact ⟨hB1.trans (hbn.mono hB1.size),.inl ⟨HSE.out hgt,rfl⟩⟩
    ·have g7:¬mn > mx:=hgt
     go_wp2
     refine ⟨⟨k+1,by simp,by omega,hbn⟩,?_⟩
     simp only [intOf]
     omega
  ·obtain rfl:k=R.length:=by omega
   have g1:¬((R.length:Nat):Int)<((R.length:Nat):Int):=by omega
   obtain ⟨p0,p1,p2⟩:=HKP.out _ hbl
   go_wp2_with (go_at_call 68;go_loud (refine (HGR.out _ hbw).mono ?_))
   intro e w2 hg
   obtain ⟨m,fd,rfl,hb2,hres⟩:=hg
   have hB2:Below w.heap.size w w2:=hbw.trans (hb2.mono hbw.size)
   rcases hres with ⟨rfl,hno⟩|⟨rfl,y,hy,hm,hmax⟩
   ·have HNO:=Lib.hid hno
    clear hno
    go_wp2
    go_ret3
    exact ⟨hB2,.inl ⟨solB_none hf HNO.out,rfl⟩⟩
   ·have FI:=HFI.out w2 hB2 m y hy hm hmax
    have HF1:=Lib.hid FI
    have hbl2:Below W1.heap.size W1 w2:=hbl.trans (hb2.mono hbl.size)
    obtain ⟨t0,t1,t2⟩:=HKP.out _ hbl2
    have HMX:=Lib.hid hmax
    clear FI hm hmax p0 p1 p2
    go_wp2_with (go_at_call 69;refine HF1.out.mono ?_)
    rintro e w3 ⟨x,A,c,rfl,hb3,hsl,hbest,hdx⟩
    have HDX:=Lib.hid hdx
    clear hdx
    go_wp2
    go_ret3
    refine ⟨hB2.trans (hb3.mono hB2.size),.inr ⟨x,A,c,solB_best hf hbest,hbest.1.len,?_,hsl⟩⟩
    rw [HDX.out]
    rfl
end Go.Proofs.YtmekiphpjpblpaaGreat
