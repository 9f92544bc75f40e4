import Derived.Test.YtmekiphpjpblpaaGreatETab2
import Derived.Test.YtmekiphpjpblpaaGreatEWz
import Derived.IntWalk
import Derived.Lib.TrimByte
import Derived.Test.YtmekiphpjpblpaaGreatEVT
import Derived.Test.YtmekiphpjpblpaaGreatEWz
import Derived.Test.YtmekiphpjpblpaaGreatEWz
/- Text Wa. -/
set_option linter.unusedSimpArgs false
set_option linter.unusedVariables false
set_option maxHeartbeats 40000000
set_option maxRecDepth 100000
namespace Go.Proofs.YtmekiphpjpblpaaGreat
open Go.RowKit Lim
structure Env (w:World):Prop where
 mx:∃m:Int,w.cell? ⟨0,0,none⟩=some (.int .i64 m)
 gl:GlobOK w
def EBl (b : Nat) : Prop := b = 0 ∨ Tryz.prog.globalNamed "internal/strconv.uint64pow10" = some b ∨ ∃ cs v, globT b = some cs ∧ cs[0]? = some v
theorem Env.keepB {w w':World} (h:Env w) (hb:∀b,EBl b→b<w.heap.size→w'.heap[b]? = w.heap[b]?):Env w':=by
 obtain ⟨m,hm⟩:=h.mx
 have h0:w'.heap[0]? = w.heap[0]?:=hb 0 (.inl rfl) (World.block_lt_of_cell? w _ hm)
 have hm':w'.cell? ⟨0,0,none⟩=some (.int .i64 m):=(World.cell?_of_block (a:=⟨0,0,none⟩) h0).trans hm
 have hgl:GlobOK w':=fun g cs hg q v hv=>by
  obtain ⟨e1,e2⟩:=h.gl g cs hg q v hv
  obtain ⟨v0,hv0⟩:∃v0,cs[0]? = some v0:=by
   cases cs with
   | nil=>cases hv
   | cons a l=>exact ⟨a,rfl⟩
  have h1:w'.heap[g]? = w.heap[g]?:=hb g (.inr (.inr ⟨cs,v0,hg,hv0⟩)) (World.block_lt_of_cell? w _ e1)
  exact ⟨(World.cell?_of_block (a:=⟨g,q,none⟩) h1).trans e1,e2⟩
 exact ⟨⟨m,hm'⟩,hgl⟩
theorem Env.lt {w:World} {b:Nat} (h:Env w) (hb:EBl b):b<w.heap.size:=by
 rcases hb with rfl|hb|⟨cs,v,h1,h2⟩
 ·obtain ⟨m,hm⟩:=h.mx
  exact World.block_lt_of_cell? w _ hm
 ·have e : Tryz.prog.globalNamed "internal/strconv.uint64pow10" = none := by kernel_rfl
  rw [e]at hb;cases hb
 ·exact World.block_lt_of_cell? w _ (h.gl b cs h1 0 v h2).1
noncomputable def ctx:Ctx:=⟨Tryz.prog,Go.Proofs.YtmekiphpjpblpaaGreat.tab,Env,EBl,true,fun ty i h=>ofL_all tabL tab_ok ty i h,fun _ _ _ hb h=>h.keepB hb,fun _ _ h hb=>h.lt hb,fun _ h=>h.gl,by kernel_rfl⟩
theorem ctxT:ctx.T=Go.Proofs.YtmekiphpjpblpaaGreat.tab:=rfl
theorem ctxTt:ctx.t.T=Go.Proofs.YtmekiphpjpblpaaGreat.tab:=rfl
attribute [go_sem] awp_skip awp_ret awp_exit awp_block awp_region awp_cond thenK_normal thenK_ret thenK_exit blockK_normal blockK_ret blockK_exit roundK_ret roundK_exit arun_nil arun_guard arun_move arun_assign arun_pick arun_load arun_fieldAddr arun_extract arun_binOp arun_unOp arun_alloc arun_box arun_store arun_indexAddr arun_index arun_build arun_slice arun_len arun_buildSlice onSome_some litK_lit avK_av tupK_tup fieldK_strct strctK_strct slcK_slc rowK_row chunk natsR condK_true condK_false guardA_tt guardA_tf guardA_ft guardA_ff guardA_skip condA_true condA_false getL_tmp getL_int getL_bool getL_str getL_nil ofT_cons_eq ofT_cons_ne setT_cons_eq setT_cons_ne setT_nil ofL_cons_eq ofL_cons_ne setL_cons_eq setL_cons_ne setL_nil prepL_nil prepL_keep prepL_drop staleK_av staleK_skip staleK_ref badOf_true badOf_false movedOf ptrUse argsHave keysOf bne_self_eq_false Bool.false_and stale_av stale_ref staleT_nil staleT_cons lookL_ref lookG_ref lookG_ptr idx2K_str takeA_strct takeA_scal takeA_int takeA_str takeA_slc offV_ref offV_ptr strK_mk optL_none optL_some lenK_str lenK_sl decide_true decide_false binK_add binK_sub binK_eql binK_neq binK_lss binK_leq binK_gtr binK_geq binK_sadd binK_seql unK_not start_of startL_nil startL_cons put_of newsOf isNewB isBoolT normA_sl normA_agg normA_int normA_bool normA_str normA_nil splice cells_agg cells_lit cells_sl one_lit one_sl noLimb_lit noLimb_sl Value.oneCell' Go.Proofs.YtmekiphpjpblpaaGreat.noLimb places List.contains_cons List.contains_nil List.elem_cons List.elem_nil Bool.or_false Bool.false_or Bool.or_true Bool.true_or Bool.false_eq_true if_true if_false ite_true ite_false Option.bind_some Option.bind_none Option.map_some Option.map_none Option.some.injEq List.drop_zero List.drop_succ_cons List.drop_nil List.take_zero List.take_succ_cons List.take_nil List.length_cons List.length_nil List.head?_cons List.headD_cons List.tail_cons List.getElem?_cons_zero List.getElem?_cons_succ List.all_cons List.all_nil Bool.and_true Bool.true_and Bool.and_self List.nil_append List.cons_append List.append_nil List.replicate_succ List.replicate_zero List.flatten_cons List.flatten_nil Prod.mk.injEq TK.strct.injEq TK.slc.injEq TV.av.injEq AV.tup.injEq AV.agg.injEq AV.lit.injEq true_and and_true and_self exists_eq_left exists_eq_left' exists_and_left exists_and_right exists_const exists_eq exists_eq' Nat.zero_add Nat.add_zero List.append_assoc Bool.not_true Bool.not_false ne_eq not_false_eq_true eq_self List.getElem?_toArray resK_nil resK_tmp resK_cell packA_one packA_two endK_eq leL_of leT_nil leT_some leM_nil leM_cons arun_call ctxT ctxTt arun_makeSlice arun_append arun_makeInterface arun_makeFunc idxK_sl idxK_aref argK_av argK_osl argsK_nil argsK_cons fillK_nil fillK_cons boxA_nil storeA_ref putA_nil makeK_row intK_int baseK_nilR baseK_osl baseO_row appK_row avsK_nil avsK_cons mkEl_one mkEl_big getL_nilIface getL_func delL_nil delL_cons_eq staleK_osl stale_osl staleO_none staleO_av staleO_ref staleO_osl staleOT_nil staleOT_cons ovk_row ovlen_row ovpart_row takeA_arr normA_ifc normA_fn normA_nilI cells_fn one_fn slotK_av slotK_ref slotK_osl List.length_append List.length_set List.length_replicate List.take_length Nat.le_refl Bool.and_false Option.map_map and_assoc awp_regionF fzAt_nil fzAt_cons frzBL_nil frzBL_cons frzBL_none frzBT_ref frzBT_av frzBT_osl delB_done delB_cons delB_nil cond_true cond_false fnK_fn arun_callV ifcK_ifc arun_invoke leM_nil leM_cons List.not_mem_nil false_imp_iff implies_true List.mem_cons tab3 tab5 tab9 tab22 tab24 tab25 tab26 tab27 tab30 tab39 tab50 tab51 tab61 tab63 tab76 tab91 tab101 tab104 tab110 tab129 tab131 tab133 tab135 tab137 tab138 tab139 tab141 tab143 tab145 tab146 tab148 tab190 tab193
abbrev AT (f:FuncId) (args:List AV) (r:AV):Prop:=ACalls ctx.t f args r
abbrev AC (f:FuncId) (args:List AV) (r:AV):Prop:=ACalls ctx f args r
abbrev i64 (n:Int):AV:=.lit (.int .i64 n)
abbrev boo (b:Bool):AV:=.lit (.bool b)
abbrev str (s:List UInt8):AV:=.lit (.string (bs s))
abbrev u64 (n:Int):AV:=.lit (.int .u64 n)
section
variable {w:World} {Z:Zone}
theorem reps1 {a:AV} {vs:Array Value} (h:Rep w Z (.agg [a]) (.agg vs)):∃v,vs=#[v]∧Rep w Z a v:=by
 obtain ⟨hl,hr⟩:=Rep.agg_iff.1 h
 obtain ⟨l,rfl⟩:∃l,vs=List.toArray l:=⟨vs.toList,by simp⟩
 match l,hl with
 | [v],_=>exact ⟨v,rfl,hr 0 a v rfl rfl⟩
theorem reps2 {a b:AV} {vs:Array Value} (h:Rep w Z (.agg [a,b]) (.agg vs)):∃v u,vs=#[v,u]∧Rep w Z a v∧Rep w Z b u:=by
 obtain ⟨hl,hr⟩:=Rep.agg_iff.1 h
 obtain ⟨l,rfl⟩:∃l,vs=List.toArray l:=⟨vs.toList,by simp⟩
 match l,hl with
 | [v,u],_=>exact ⟨v,u,rfl,hr 0 a v rfl rfl,hr 1 b u rfl rfl⟩
theorem reps3 {a b c:AV} {vs:Array Value} (h:Rep w Z (.agg [a,b,c]) (.agg vs)):∃v u x,vs=#[v,u,x]∧Rep w Z a v∧Rep w Z b u∧Rep w Z c x:=by
 obtain ⟨hl,hr⟩:=Rep.agg_iff.1 h
 obtain ⟨l,rfl⟩:∃l,vs=List.toArray l:=⟨vs.toList,by simp⟩
 match l,hl with
 | [v,u,x],_=>exact ⟨v,u,x,rfl,hr 0 a v rfl rfl,hr 1 b u rfl rfl,hr 2 c x rfl rfl⟩
theorem rep2 {a b:AV} {v u:Value} (h1:Rep w Z a v) (h2:Rep w Z b u):Rep w Z (.agg [a,b]) (.agg #[v,u]) :=
 Rep.agg_iff.2 ⟨rfl,fun j x y hx hy=>by
  match j with
  | 0=>simp at hx hy;subst hx hy;exact h1
  | 1=>simp at hx hy;subst hx hy;exact h2
  | j+2=>simp at hx⟩
theorem rep3 {a b c:AV} {v u x:Value} (h1:Rep w Z a v) (h2:Rep w Z b u) (h3:Rep w Z c x):Rep w Z (.agg [a,b,c]) (.agg #[v,u,x]) :=
 Rep.agg_iff.2 ⟨rfl,fun j y z hx hy=>by
  match j with
  | 0=>simp at hx hy;subst hx hy;exact h1
  | 1=>simp at hx hy;subst hx hy;exact h2
  | 2=>simp at hx hy;subst hx hy;exact h3
  | j+3=>simp at hx⟩
theorem rept3 {a b c:AV} {v u x:Value} (h1:Rep w Z a v) (h2:Rep w Z b u) (h3:Rep w Z c x):Rep w Z (.tup [a,b,c]) (.tuple #[v,u,x]):=by
 cases rep3 h1 h2 h3 with
 | agg hl hr=>exact .tup hl hr
end
theorem mk_bs (l:List UInt8):(⟨List.toArray l⟩:ByteArray)=bs l:=rfl
theorem strK_bs {s:List UInt8} {q:IntKind} {n:Int} {k:UInt8→Prop}:strK (.av (.lit (.string (bs s)))) (.av (.lit (.int q n))) k=(0≤n∧onSome s[n.toNat]? k):=strK_mk
theorem cut_len (s p:List UInt8):(Lib.cut s p).1.length≤s.length∧(Lib.cut s p).2.1.length≤s.length:=by
 unfold Lib.cut
 split
 ·simp;omega
 ·simp
theorem bs_list (s:List UInt8):(bs s).data.toList=s:=by simp [bs]
end Go.Proofs.YtmekiphpjpblpaaGreat
