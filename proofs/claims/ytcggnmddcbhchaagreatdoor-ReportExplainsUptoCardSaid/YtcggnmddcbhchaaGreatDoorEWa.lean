import Derived.Test.YtcggnmddcbhchaaGreatDoorETab2
import Derived.Test.YtcggnmddcbhchaaGreatDoorENd
import Derived.IntWalk
import Derived.Lib.TrimByte
import Derived.Test.YtcggnmddcbhchaaGreatDoorEVU
import Derived.Test.YtcggnmddcbhchaaGreatDoorENc
import Derived.Test.YtcggnmddcbhchaaGreatDoorEShelf
/- Text Wa. -/
set_option linter.unusedSimpArgs false
set_option linter.unusedVariables false
namespace Go.Proofs.YtcggnmddcbhchaaGreatDoor
open Go.RowKit Lim
structure Env (w:World):Prop where
 tab:Tab w
 mx:∃m:Int,w.cell? ⟨1,0,none⟩=some (.int .i64 m)
 gl:GlobOK w
def EBl (b : Nat) : Prop := b = 1 ∨ Tryz.prog.globalNamed "internal/strconv.uint64pow10" = some b ∨ ∃ cs v, globT b = some cs ∧ cs[0]? = some v
theorem Env.keepB {w w':World} (h:Env w) (hb:∀b,EBl b→b<w.heap.size→w'.heap[b]? = w.heap[b]?):Env w':=by
 obtain ⟨m,hm⟩:=h.mx
 have h0:w'.heap[1]? = w.heap[1]?:=hb 1 (.inl rfl) (World.block_lt_of_cell? w _ hm)
 have hm':w'.cell? ⟨1,0,none⟩=some (.int .i64 m):=(World.cell?_of_block (a:=⟨1,0,none⟩) h0).trans hm
 have hgl:GlobOK w':=fun g cs hg q v hv=>by
  obtain ⟨e1,e2⟩:=h.gl g cs hg q v hv
  obtain ⟨v0,hv0⟩:∃v0,cs[0]? = some v0:=by
   cases cs with
   | nil=>cases hv
   | cons a l=>exact ⟨a,rfl⟩
  have h1:w'.heap[g]? = w.heap[g]?:=hb g (.inr (.inr ⟨cs,v0,hg,hv0⟩)) (World.block_lt_of_cell? w _ e1)
  exact ⟨(World.cell?_of_block (a:=⟨g,q,none⟩) h1).trans e1,e2⟩
 exact ⟨tab_keepB h.tab (fun g hg hlt=>hb g (.inr (.inl hg)) hlt),⟨m,hm'⟩,hgl⟩
theorem Env.lt {w:World} {b:Nat} (h:Env w) (hb:EBl b):b<w.heap.size:=by
 rcases hb with rfl|hb|⟨cs,v,h1,h2⟩
 ·obtain ⟨m,hm⟩:=h.mx
  exact World.block_lt_of_cell? w _ hm
 ·exact tab_lt h.tab hb
 ·exact World.block_lt_of_cell? w _ (h.gl b cs h1 0 v h2).1
noncomputable def ctx:Ctx:=⟨Tryz.prog,Go.Proofs.YtcggnmddcbhchaaGreatDoor.tab,Env,EBl,true,fun ty i h=>ofL_all tabL tab_ok ty i h,fun _ _ _ hb h=>h.keepB hb,fun _ _ h hb=>h.lt hb,fun _ h=>h.gl,by kernel_rfl⟩
attribute [go_sem] chunk natsR movedOf ptrUse argsHave keysOf bne_self_eq_false Bool.false_and decide_true decide_false newsOf isNewB isBoolT splice Value.oneCell' Go.Proofs.YtcggnmddcbhchaaGreatDoor.noLimb places List.contains_cons List.contains_nil List.elem_cons List.elem_nil Bool.or_false Bool.false_or Bool.or_true Bool.true_or Bool.false_eq_true if_true if_false ite_true ite_false Option.bind_some Option.bind_none Option.map_some Option.map_none Option.some.injEq List.drop_zero List.drop_succ_cons List.drop_nil List.take_zero List.take_succ_cons List.take_nil List.length_cons List.length_nil List.head?_cons List.headD_cons List.tail_cons List.getElem?_cons_zero List.getElem?_cons_succ List.all_cons List.all_nil Bool.and_true Bool.true_and Bool.and_self List.nil_append List.cons_append List.append_nil List.replicate_succ List.replicate_zero List.flatten_cons List.flatten_nil Prod.mk.injEq TK.strct.injEq TK.slc.injEq TV.av.injEq AV.tup.injEq AV.agg.injEq AV.lit.injEq true_and and_true and_self exists_eq_left exists_eq_left' exists_and_left exists_and_right exists_const exists_eq exists_eq' Nat.zero_add Nat.add_zero List.append_assoc Bool.not_true Bool.not_false ne_eq not_false_eq_true eq_self List.getElem?_toArray List.length_append List.length_set List.length_replicate List.take_length Nat.le_refl Bool.and_false Option.map_map and_assoc cond_true cond_false List.not_mem_nil false_imp_iff implies_true List.mem_cons
abbrev AT (f:FuncId) (args:List AV) (r:AV):Prop:=ACalls ctx.t f args r
abbrev AC (f:FuncId) (args:List AV) (r:AV):Prop:=ACalls ctx f args r
abbrev i64 (n:Int):AV:=.lit (.int .i64 n)
abbrev boo (b:Bool):AV:=.lit (.bool b)
end Go.Proofs.YtcggnmddcbhchaaGreatDoor
namespace Go.Proofs.YtcggnmddcbhchaaGreatDoor
open Go.RowKit Lim
abbrev str (s:List UInt8):AV:=.lit (.string (bs s))
abbrev u64 (n:Int):AV:=.lit (.int .u64 n)
abbrev intA (t:Bool) (l:List Nat):AV:=.agg [boo t,.nat l]
abbrev ratA (t:Bool) (l m:List Nat):AV:=.agg [boo t,.nat l,.nat m]
abbrev natN (n:Nat):AV:=.nat (limbs n)
abbrev intN (z:Int):AV:=.agg [boo (decide (z<0)),.nat (limbs z.natAbs)]
abbrev ratN (z:Int) (d:Nat):AV:=.agg [boo (decide (z<0)),.nat (limbs z.natAbs),.nat (limbs d)]
abbrev decN (z:Int) (p:Int):AV:=.agg [boo (decide (z<0)),.nat (limbs z.natAbs),i64 p]
def IsN (a:AV) (n:Nat):Prop:=∃l,a=.nat l∧val l=n∧l.length<1099511627776
def IsI (a:AV) (z:Int):Prop:=∃t l,a=intA t l∧sg t (val l)=z∧l.length<1099511627776
def IsR (a:AV) (z:Int) (d:Nat):Prop:=∃t l m,a=ratA t l m∧sg t (val l)=z∧val m=d∧l.length<1099511627776∧m.length<1099511627776
theorem sg_norm (z:Int):sg (decide (z<0)) z.natAbs=z:=by unfold sg;by_cases h:z<0 <;> simp [h] <;> omega
section
variable {w:World} {Z:Zone}
theorem reps1 {a:AV} {vs:Array Value} (h:Rep w Z (.agg [a]) (.agg vs)):∃v,vs=#[v]∧Rep w Z a v:=by
 obtain ⟨hl,hr⟩:=Rep.agg_iff.1 h
 obtain ⟨l,rfl⟩:∃l,vs=List.toArray l:=⟨vs.toList,by simp⟩
 match l,hl with
 | [v],_=>exact ⟨v,rfl,hr 0 a v rfl rfl⟩
theorem reps2 {a b:AV} {vs:Array Value} (h:Rep w Z (.agg [a,b]) (.agg vs)):∃v u,vs=#[v,u]∧Rep w Z a v∧Rep w Z b u:=by
 obtain ⟨hl,hr⟩:=Rep.agg_iff.1 h
 obtain ⟨l,rfl⟩:∃l,vs=List.toArray l:=⟨vs.toList,by simp⟩
 match l,hl with
 | [v,u],_=>exact ⟨v,u,rfl,hr 0 a v rfl rfl,hr 1 b u rfl rfl⟩
theorem reps3 {a b c:AV} {vs:Array Value} (h:Rep w Z (.agg [a,b,c]) (.agg vs)):∃v u x,vs=#[v,u,x]∧Rep w Z a v∧Rep w Z b u∧Rep w Z c x:=by
 obtain ⟨hl,hr⟩:=Rep.agg_iff.1 h
 obtain ⟨l,rfl⟩:∃l,vs=List.toArray l:=⟨vs.toList,by simp⟩
 match l,hl with
 | [v,u,x],_=>exact ⟨v,u,x,rfl,hr 0 a v rfl rfl,hr 1 b u rfl rfl,hr 2 c x rfl rfl⟩
theorem rep_agg {cs:List AV} {v:Value} (h:Rep w Z (.agg cs) v):∃vs,v=.agg vs∧Rep w Z (.agg cs) (.agg vs):=by
 cases h with
 | agg hl hr=>exact ⟨_,rfl,.agg hl hr⟩
theorem rep_natI {a:AV} {n:Nat} (hi:IsN a n) {v:Value} (h:Rep w Z a v):∃A c l,v=.slice A l.length c∧In w A c l n:=by
 obtain ⟨l,rfl,hv,hl⟩:=hi
 cases h with
 | nat hr hc _=>exact ⟨_,_,l,rfl,hr,hc,hl,hv⟩
theorem rep_nat {l:List Nat} {v:Value} (h:Rep w Z (.nat l) v):∃A c,v=.slice A l.length c∧Rd w A l∧l.length≤c:=by
 cases h with
 | nat hr hc _=>exact ⟨_,_,rfl,hr,hc⟩
theorem rep_intI {a:AV} {z:Int} (hi:IsI a z) {v:Value} (h:Rep w Z a v):∃t A c l,v=.agg #[.bool t,.slice A l.length c]∧InI w t A c l z:=by
 obtain ⟨t,l,rfl,hv,hl⟩:=hi
 obtain ⟨vs,rfl,h⟩:=rep_agg h
 obtain ⟨v1,v2,rfl,h1,h2⟩:=reps2 h
 rw [h1.lit_eq]
 obtain ⟨A,c,rfl,hr,hc⟩:=rep_nat h2
 refine ⟨t,A,c,l,rfl,?_⟩
 rw [←hv]
 exact InI.of ⟨hr,hc,hl,rfl⟩
theorem rep_ratI {a:AV} {z:Int} {d:Nat} (hi:IsR a z d) {v:Value} (h:Rep w Z a v):∃t A c l B f m,v=.agg #[.bool t,.slice A l.length c,.slice B m.length f]∧InR w t A c l B f m z d:=by
 obtain ⟨t,l,m,rfl,hv,hd,hl,hm⟩:=hi
 obtain ⟨vs,rfl,h⟩:=rep_agg h
 obtain ⟨v1,v2,v3,rfl,h1,h2,h3⟩:=reps3 h
 rw [h1.lit_eq]
 obtain ⟨A,c,rfl,hr,hc⟩:=rep_nat h2
 obtain ⟨B,f,rfl,hr3,hc3⟩:=rep_nat h3
 refine ⟨t,A,c,l,B,f,m,rfl,?_,hr3,hc3,hm,hd⟩
 rw [←hv]
 exact InI.of ⟨hr,hc,hl,rfl⟩
theorem rep2 {a b:AV} {v u:Value} (h1:Rep w Z a v) (h2:Rep w Z b u):Rep w Z (.agg [a,b]) (.agg #[v,u]) :=
 Rep.agg_iff.2 ⟨rfl,fun j x y hx hy=>by
  match j with
  | 0=>simp at hx hy;subst hx hy;exact h1
  | 1=>simp at hx hy;subst hx hy;exact h2
  | j+2=>simp at hx⟩
theorem rep3 {a b c:AV} {v u x:Value} (h1:Rep w Z a v) (h2:Rep w Z b u) (h3:Rep w Z c x):Rep w Z (.agg [a,b,c]) (.agg #[v,u,x]) :=
 Rep.agg_iff.2 ⟨rfl,fun j y z hx hy=>by
  match j with
  | 0=>simp at hx hy;subst hx hy;exact h1
  | 1=>simp at hx hy;subst hx hy;exact h2
  | 2=>simp at hx hy;subst hx hy;exact h3
  | j+3=>simp at hx⟩
theorem rept2 {a b:AV} {v u:Value} (h1:Rep w Z a v) (h2:Rep w Z b u):Rep w Z (.tup [a,b]) (.tuple #[v,u]):=by
 cases rep2 h1 h2 with
 | agg hl hr=>exact .tup hl hr
theorem rept3 {a b c:AV} {v u x:Value} (h1:Rep w Z a v) (h2:Rep w Z b u) (h3:Rep w Z c x):Rep w Z (.tup [a,b,c]) (.tuple #[v,u,x]):=by
 cases rep3 h1 h2 h3 with
 | agg hl hr=>exact .tup hl hr
theorem rep_nat0 {A:Option Addr} {c:Nat}:Rep w Z (.nat []) (.slice A 0 c):=Rep.nat (l:=[]) (Rd.nil _ _) (by simp) (fun _ _ _ j hj=>by simp at hj)
theorem rd_zone (hz:AllLimbs Z w) {A:Option Addr} {l:List Nat} (h:Rd w A l):∀b off,A=some ⟨b,off,none⟩→∀j,j<l.length→Z b (off+j):=fun b off e j hj=>by
 obtain ⟨b',off',e',_,hc⟩:=h.2 (by omega)
 rw [e]at e'
 cases e'
 exact hz _ _ _ (hc j hj) rfl
theorem Out.rep (hz:AllLimbs Z w) {A:Option Addr} {c n:Nat} (h:Out w A c n):Rep w Z (natN n) (.slice A (limbs n).length c):=.nat h.rd h.cap (rd_zone hz h.rd)
theorem OutI.rep (hz:AllLimbs Z w) {t:Bool} {A:Option Addr} {c:Nat} {l:List Nat} {z:Int} (h:OutI w t A c l z):Rep w Z (intN z) (.agg #[.bool t,.slice A l.length c]):=by
 rw [h.lim,h.sgn]
 exact rep2 (.lit rfl) (h.mag.rep hz)
theorem rat_rep (hz:AllLimbs Z w) {t:Bool} {A B:Option Addr} {c f d:Nat} {l m:List Nat} {z:Int} (h:OutI w t A c l z) (h2:Out w B f d) (hm:m=limbs d):Rep w Z (ratN z d) (.agg #[.bool t,.slice A l.length c,.slice B m.length f]):=by
 rw [h.lim,h.sgn,hm]
 exact rep3 (.lit rfl) (h.mag.rep hz) (h2.rep hz)
theorem dec_rep (hz:AllLimbs Z w) {t:Bool} {A:Option Addr} {c:Nat} {l:List Nat} {z p:Int} (h:OutI w t A c l z):Rep w Z (decN z p) (.agg #[.bool t,.slice A l.length c,.int .i64 p]):=by
 rw [h.lim,h.sgn]
 exact rep3 (.lit rfl) (h.mag.rep hz) (.lit rfl)
end
theorem AC.mk {f:FuncId} {args:List AV} {r:AV} (hf:FnOK Tryz.prog f) (h:∀w Z vs,Env w→Rep w Z (.agg args) (.agg vs)→Calls Tryz.prog f vs w fun e w'=>∃v,e=.returned v∧Below w.heap.size w w'∧∀Z,AllLimbs Z w'→Rep w' Z r v):AC f args r :=
 ⟨hf,fun w Z vs hE _ hal hr=>(h w Z vs hE hr).mono fun _ w' ⟨v,h1,h2,h3⟩=>⟨v,h1,h2,h3 _ fun b o v hc hl=>by
  by_cases hb:b<w.heap.size
  ·exact .inl (hal rfl b o v ((h2.cell (p:=⟨b,o,none⟩) hb).symm.trans hc) hl)
  ·exact .inr ⟨by omega,World.block_lt_of_cell? w' _ hc⟩⟩⟩
end Go.Proofs.YtcggnmddcbhchaaGreatDoor
namespace Go.Proofs.YtcggnmddcbhchaaGreatDoor
open Go.RowKit Lim
theorem nof_c (n:Nat) (hn:n<18446744073709551616):AC 63 [u64 (n:Nat)] (natN n):=by
 refine AC.mk (by exact ⟨Tryz.f63,Tryz.func63,by kernel_rfl,rfl⟩) fun w Z vs hE hr=>?_
 obtain ⟨_,rfl,h1⟩:=reps1 hr
 rw [h1.lit_eq]
 refine (of_any n hn w).mono ?_
 rintro e w' ⟨A,c,rfl,o1,b1⟩
 exact ⟨_,rfl,b1,fun _ hz=>(o1.rep hz)⟩
theorem ncmp_c {a b:AV} {n k:Nat} (ha:IsN a n) (hb:IsN b k):AC 62 [a,b] (i64 (cmpI n k)):=by
 refine AC.mk (by exact ⟨Tryz.f62,Tryz.func62,by kernel_rfl,rfl⟩) fun w Z vs hE hr=>?_
 obtain ⟨_,_,rfl,h1,h2⟩:=reps2 hr
 obtain ⟨A1,c1,l1,rfl,i1⟩:=rep_natI ha h1
 obtain ⟨A2,c2,l2,rfl,i2⟩:=rep_natI hb h2
 refine (cmp_any _ _ _ _ _ _ _ _ w i1 i2).mono ?_
 rintro e w' ⟨rfl,m,rfl⟩
 exact ⟨_,rfl,below_drewN (Below.refl _ _) m,fun _ hz=>.lit rfl⟩
theorem nnorm_c {a:AV} {n:Nat} (ha:IsN a n):AC 96 [a] (natN n):=by
 refine AC.mk (by exact ⟨Tryz.f96,Tryz.func96,by kernel_rfl,rfl⟩) fun w Z vs hE hr=>?_
 obtain ⟨_,rfl,h1⟩:=reps1 hr
 obtain ⟨A1,c1,l1,rfl,i1⟩:=rep_natI ha h1
 refine (norm_any _ _ _ _ w i1).mono ?_
 rintro e w' ⟨A,c,rfl,o1,b1⟩
 exact ⟨_,rfl,b1,fun _ hz=>(o1.rep hz)⟩
theorem nadd_c {a b:AV} {n k:Nat} (ha:IsN a n) (hb:IsN b k):AC 202 [a,b] (natN (n+k)):=by
 refine AC.mk (by exact ⟨Tryz.f202,Tryz.func202,by kernel_rfl,rfl⟩) fun w Z vs hE hr=>?_
 obtain ⟨_,_,rfl,h1,h2⟩:=reps2 hr
 obtain ⟨A1,c1,l1,rfl,i1⟩:=rep_natI ha h1
 obtain ⟨A2,c2,l2,rfl,i2⟩:=rep_natI hb h2
 refine (add_any _ _ _ _ _ _ _ _ w i1 i2).mono ?_
 rintro e w' ⟨A,c,rfl,o1,b1⟩
 exact ⟨_,rfl,b1,fun _ hz=>(o1.rep hz)⟩
theorem nmul_c {a b:AV} {n k:Nat} (ha:IsN a n) (hb:IsN b k):AC 95 [a,b] (natN (n*k)):=by
 refine AC.mk (by exact ⟨Tryz.f95,Tryz.func95,by kernel_rfl,rfl⟩) fun w Z vs hE hr=>?_
 obtain ⟨_,_,rfl,h1,h2⟩:=reps2 hr
 obtain ⟨A1,c1,l1,rfl,i1⟩:=rep_natI ha h1
 obtain ⟨A2,c2,l2,rfl,i2⟩:=rep_natI hb h2
 refine (mul_any _ _ _ _ _ _ _ _ w i1 i2).mono ?_
 rintro e w' ⟨A,c,rfl,o1,b1⟩
 exact ⟨_,rfl,b1,fun _ hz=>(o1.rep hz)⟩
theorem nsub_yes {a b:AV} {n k:Nat} (ha:IsN a n) (hb:IsN b k) (h:k≤n):AC 203 [a,b] (.tup [natN (n-k),boo true]):=by
 refine AC.mk (by exact ⟨Tryz.f203,Tryz.func203,by kernel_rfl,rfl⟩) fun w Z vs hE hr=>?_
 obtain ⟨_,_,rfl,h1,h2⟩:=reps2 hr
 obtain ⟨A1,c1,l1,rfl,i1⟩:=rep_natI ha h1
 obtain ⟨A2,c2,l2,rfl,i2⟩:=rep_natI hb h2
 refine (sub_yes _ _ _ _ _ _ _ _ w i1 i2 h).mono ?_
 rintro e w' ⟨A,c,rfl,o1,b1⟩
 exact ⟨_,rfl,b1,fun _ hz=>rept2 (o1.rep hz) (.lit rfl)⟩
theorem nsub_no {a b:AV} {n k:Nat} (ha:IsN a n) (hb:IsN b k) (h:n<k):AC 203 [a,b] (.tup [.nat [],boo false]):=by
 refine AC.mk (by exact ⟨Tryz.f203,Tryz.func203,by kernel_rfl,rfl⟩) fun w Z vs hE hr=>?_
 obtain ⟨_,_,rfl,h1,h2⟩:=reps2 hr
 obtain ⟨A1,c1,l1,rfl,i1⟩:=rep_natI ha h1
 obtain ⟨A2,c2,l2,rfl,i2⟩:=rep_natI hb h2
 refine (sub_no _ _ _ _ _ _ _ _ w i1 i2 h).mono ?_
 rintro e w' ⟨rfl,b1⟩
 exact ⟨_,rfl,b1,fun _ hz=>rept2 rep_nat0 (.lit rfl)⟩
theorem ndivmod_c {a b:AV} {n k:Nat} (ha:IsN a n) (hb:IsN b k) (h:0<k):AC 174 [a,b] (.tup [natN (n / k),natN (n % k),boo true]):=by
 refine AC.mk (by exact ⟨Tryz.f174,Tryz.func174,by kernel_rfl,rfl⟩) fun w Z vs hE hr=>?_
 obtain ⟨_,_,rfl,h1,h2⟩:=reps2 hr
 obtain ⟨A1,c1,l1,rfl,i1⟩:=rep_natI ha h1
 obtain ⟨A2,c2,l2,rfl,i2⟩:=rep_natI hb h2
 refine (divmod_any _ _ _ _ _ _ _ _ w i1 i2 h).mono ?_
 rintro e w' ⟨A,c,B,d,rfl,o1,o2,b1⟩
 exact ⟨_,rfl,b1,fun _ hz=>rept3 (o1.rep hz) (o2.rep hz) (.lit rfl)⟩
theorem nprint_c {a:AV} {n:Nat} (ha:IsN a n) (hl:nlen n<1099511627776):AC 57 [a] (str (Lib.decDigits n)):=by
 refine AC.mk (by exact ⟨Tryz.f57,Tryz.func57,by kernel_rfl,rfl⟩) fun w Z vs hE hr=>?_
 obtain ⟨_,rfl,h1⟩:=reps1 hr
 obtain ⟨A1,c1,l1,rfl,i1⟩:=rep_natI ha h1
 refine (nprint_any _ _ _ _ w i1 hE.tab hl).mono ?_
 rintro e w' ⟨rfl,b1⟩
 exact ⟨_,rfl,b1,fun _ hz=>.lit rfl⟩
theorem imake_c (t:Bool) {a:AV} {n:Nat} (ha:IsN a n):AC 130 [boo t,a] (intN (sg t n)):=by
 refine AC.mk (by exact ⟨Tryz.f130,Tryz.func130,by kernel_rfl,rfl⟩) fun w Z vs hE hr=>?_
 obtain ⟨_,_,rfl,h1,h2⟩:=reps2 hr
 rw [h1.lit_eq]
 obtain ⟨A1,c1,l1,rfl,i1⟩:=rep_natI ha h2
 refine (make_any _ _ _ _ _ w i1).mono ?_
 rintro e w' ⟨t,A,c,l,rfl,o1,b1⟩
 exact ⟨_,rfl,b1,fun _ hz=>(o1.rep hz)⟩
theorem isign_c {a:AV} {z:Int} (ha:IsI a z):AC 74 [a] (i64 (sgnI z)):=by
 refine AC.mk (by exact ⟨Tryz.f74,Tryz.func74,by kernel_rfl,rfl⟩) fun w Z vs hE hr=>?_
 obtain ⟨_,rfl,h1⟩:=reps1 hr
 obtain ⟨t1,A1,c1,l1,rfl,i1⟩:=rep_intI ha h1
 refine (sign_any _ _ _ _ _ w i1).mono ?_
 rintro e w' ⟨rfl,b1⟩
 exact ⟨_,rfl,b1,fun _ hz=>.lit rfl⟩
theorem iof_c (z:Int) (h1:-9223372036854775808≤z) (h2:z≤9223372036854775807):AC 61 [i64 z] (intN z):=by
 refine AC.mk (by exact ⟨Tryz.f61,Tryz.func61,by kernel_rfl,rfl⟩) fun w Z vs hE hr=>?_
 obtain ⟨_,rfl,h⟩:=reps1 hr
 rw [h.lit_eq]
 refine (iof_any z h1 h2 w).mono ?_
 rintro e w' ⟨t,A,c,l,rfl,o1,b1⟩
 exact ⟨_,rfl,b1,fun _ hz=>(o1.rep hz)⟩
theorem iadd_c {a b:AV} {z y:Int} (ha:IsI a z) (hb:IsI b y) (hl:max (nlen z.natAbs) (nlen y.natAbs)+1<1099511627776):AC 157 [a,b] (intN (z+y)):=by
 refine AC.mk (by exact ⟨Tryz.f157,Tryz.func157,by kernel_rfl,rfl⟩) fun w Z vs hE hr=>?_
 obtain ⟨_,_,rfl,h1,h2⟩:=reps2 hr
 obtain ⟨t1,A1,c1,l1,rfl,i1⟩:=rep_intI ha h1
 obtain ⟨t2,A2,c2,l2,rfl,i2⟩:=rep_intI hb h2
 refine (iadd_any _ _ _ _ _ _ _ _ _ _ w i1 i2 hl).mono ?_
 rintro e w' ⟨t,A,c,l,rfl,o1,b1⟩
 exact ⟨_,rfl,b1,fun _ hz=>(o1.rep hz)⟩
theorem imul_c {a b:AV} {z y:Int} (ha:IsI a z) (hb:IsI b y) (hl:nlen z.natAbs+nlen y.natAbs<1099511627776):AC 121 [a,b] (intN (z*y)):=by
 refine AC.mk (by exact ⟨Tryz.f121,Tryz.func121,by kernel_rfl,rfl⟩) fun w Z vs hE hr=>?_
 obtain ⟨_,_,rfl,h1,h2⟩:=reps2 hr
 obtain ⟨t1,A1,c1,l1,rfl,i1⟩:=rep_intI ha h1
 obtain ⟨t2,A2,c2,l2,rfl,i2⟩:=rep_intI hb h2
 refine (imul_any _ _ _ _ _ _ _ _ _ _ w i1 i2 hl).mono ?_
 rintro e w' ⟨t,A,c,l,rfl,o1,b1⟩
 exact ⟨_,rfl,b1,fun _ hz=>(o1.rep hz)⟩
theorem iprint_c {a:AV} {z:Int} (ha:IsI a z):AC 60 [a] (str (Lib.itoa z)):=by
 refine AC.mk (by exact ⟨Tryz.f60,Tryz.func60,by kernel_rfl,rfl⟩) fun w Z vs hE hr=>?_
 obtain ⟨_,rfl,h1⟩:=reps1 hr
 obtain ⟨t1,A1,c1,l1,rfl,i1⟩:=rep_intI ha h1
 refine (iprint_any _ _ _ _ _ w i1 hE.tab).mono ?_
 rintro e w' ⟨rfl,b1⟩
 exact ⟨_,rfl,b1,fun _ hz=>.lit rfl⟩
theorem reduce_c {a b:AV} {z:Int} {d:Nat} (ha:IsI a z) (hb:IsN b d) (hd:0<d):AC 123 [a,b] (ratN (rn z d) (rd z d)):=by
 refine AC.mk (by exact ⟨Tryz.f123,Tryz.func123,by kernel_rfl,rfl⟩) fun w Z vs hE hr=>?_
 obtain ⟨_,_,rfl,h1,h2⟩:=reps2 hr
 obtain ⟨t1,A1,c1,l1,rfl,i1⟩:=rep_intI ha h1
 obtain ⟨A2,c2,l2,rfl,i2⟩:=rep_natI hb h2
 refine (reduce_any _ _ _ _ _ _ _ _ _ w i1 i2 hd).mono ?_
 rintro e w' ⟨t,A,c,l,B,f,m,rfl,o1,o2,hm,b1⟩
 exact ⟨_,rfl,b1,fun _ hz=>rat_rep hz o1 o2 hm⟩
theorem rnorm_c {a:AV} {z:Int} {d:Nat} (ha:IsR a z d):AC 56 [a] (ratN (rn (pz z d) (pd d)) (rd (pz z d) (pd d))):=by
 refine AC.mk (by exact ⟨Tryz.f56,Tryz.func56,by kernel_rfl,rfl⟩) fun w Z vs hE hr=>?_
 obtain ⟨_,rfl,h1⟩:=reps1 hr
 obtain ⟨t1,A1,c1,l1,B1,f1,m1,rfl,i1⟩:=rep_ratI ha h1
 refine (rnorm_any _ _ _ _ _ _ _ _ _ w i1).mono ?_
 rintro e w' ⟨t,A,c,l,B,f,m,rfl,o1,o2,hm,b1⟩
 exact ⟨_,rfl,b1,fun _ hz=>rat_rep hz o1 o2 hm⟩
theorem rmake_c {a b:AV} {z y:Int} (ha:IsI a z) (hb:IsI b y) (hy:y≠0):AC 138 [a,b] (.tup [ratN (rn (mz z y) y.natAbs) (rd (mz z y) y.natAbs),boo true]):=by
 refine AC.mk (by exact ⟨Tryz.f138,Tryz.func138,by kernel_rfl,rfl⟩) fun w Z vs hE hr=>?_
 obtain ⟨_,_,rfl,h1,h2⟩:=reps2 hr
 obtain ⟨t1,A1,c1,l1,rfl,i1⟩:=rep_intI ha h1
 obtain ⟨t2,A2,c2,l2,rfl,i2⟩:=rep_intI hb h2
 refine (rmake_any _ _ _ _ _ _ _ _ _ _ w i1 i2 hy).mono ?_
 rintro e w' ⟨t,A,c,l,B,f,m,rfl,o1,o2,hm,b1⟩
 exact ⟨_,rfl,b1,fun _ hz=>rept2 (rat_rep hz o1 o2 hm) (.lit rfl)⟩
theorem rprint_c {a:AV} {z:Int} {d:Nat} (ha:IsR a z d) (hl:nlen d+8<1099511627776):AC 27 [a] (str (ratTx (rn (pz z d) (pd d)) (rd (pz z d) (pd d)))):=by
 refine AC.mk (by exact ⟨Tryz.f27,Tryz.func27,by kernel_rfl,rfl⟩) fun w Z vs hE hr=>?_
 obtain ⟨_,rfl,h1⟩:=reps1 hr
 obtain ⟨t1,A1,c1,l1,B1,f1,m1,rfl,i1⟩:=rep_ratI ha h1
 refine (rprint_any _ _ _ _ _ _ _ _ _ w i1 hE.tab hl).mono ?_
 rintro e w' ⟨rfl,b1⟩
 exact ⟨_,rfl,b1,fun _ hz=>.lit rfl⟩
theorem dprint_c {x y:AV} {z:Int} (ha:IsI (.agg [x,y]) z) (p:Nat) (hp:p≤9):AC 99 [.agg [x,y,i64 (p:Nat)]] (.tup [str (decTx z p),i64 0]):=by
 refine AC.mk (by exact ⟨Tryz.f99,Tryz.func99,by kernel_rfl,rfl⟩) fun w Z vs hE hr=>?_
 obtain ⟨_,rfl,h1⟩:=reps1 hr
 obtain ⟨_,rfl,h1⟩:=rep_agg h1
 obtain ⟨_,_,_,rfl,h1,h2,h3⟩:=reps3 h1
 obtain ⟨t1,A1,c1,l1,e1,i1⟩:=rep_intI ha (rep2 h1 h2)
 injection e1 with e1
 obtain ⟨rfl,rfl⟩:_∧_:=by simpa using e1
 rw [h3.lit_eq]
 refine (dprint_any _ _ _ p _ _ w i1 hp hE.tab).mono ?_
 rintro e w' ⟨rfl,b1⟩
 exact ⟨_,rfl,b1,fun _ hz=>rept2 (.lit rfl) (.lit rfl)⟩
theorem dround_c {a:AV} {z:Int} {d:Nat} (ha:IsR a z d) (p:Nat) (mode:Int) (hp:p≤9) (hm1:1≤mode) (hm2:mode≤7) (hl1:nlen z.natAbs+8<1099511627776) (hl2:nlen d+8<1099511627776):AC 98 [a,i64 (p:Nat),i64 mode] (.tup [decN (rndU (rn (pz z d) (pd d)) (rd (pz z d) (pd d)) p mode) (p:Nat),i64 0]):=by
 refine AC.mk (by exact ⟨Tryz.f98,Tryz.func98,by kernel_rfl,rfl⟩) fun w Z vs hE hr=>?_
 obtain ⟨_,_,_,rfl,h1,h2,h3⟩:=reps3 hr
 obtain ⟨t1,A1,c1,l1,B1,f1,m1,rfl,i1⟩:=rep_ratI ha h1
 rw [h2.lit_eq,h3.lit_eq]
 refine (round_norm _ _ _ _ _ _ p _ _ _ mode w i1 hp hm1 hm2 hl1 hl2).mono ?_
 rintro e w' ⟨t,A,c,l,rfl,o1,b1⟩
 exact ⟨_,rfl,b1,fun _ hz=>rept2 (dec_rep hz o1) (.lit rfl)⟩
end Go.Proofs.YtcggnmddcbhchaaGreatDoor
namespace Go.Proofs.YtcggnmddcbhchaaGreatDoor
open Go.RowKit Lim
theorem cmpI_self (n:Nat):cmpI n n=0:=by unfold cmpI;simp
theorem nlen_pz' (z:Int) (d:Nat):nlen (pz z d).natAbs≤nlen z.natAbs:=by
 unfold pz
 split
 ·exact nlen_mono (Nat.zero_le _)
 ·exact Nat.le_refl _
theorem nlen_pd' (d:Nat):nlen (pd d)≤nlen d+1:=by
 unfold pd
 split
 ·rw [nlen_one];omega
 ·omega
end Go.Proofs.YtcggnmddcbhchaaGreatDoor
namespace Go.Proofs.YtcggnmddcbhchaaGreatDoor
open Go.RowKit Lim
theorem bs_list (s:List UInt8):(bs s).data.toList=s:=by simp [bs]
end Go.Proofs.YtcggnmddcbhchaaGreatDoor
